/- The laws of chapter 03: roots. -/
import Derived.Test.YtjiagjonlcadiaaLawF
namespace Go.Proofs.Ytjiagjonlcadiaa
open Go.RowKit Go.Lib

/-- the root of a number that is a square's residue -/
theorem root_sq (a q : Nat) (hq : q < 115792089237316195423570985008687907853269984665640564039457584007913129639936) (h : q % PP = a * a % PP) (w : World) :
    Calls Try.prog 44 #[.agg (e4 q)] w fun e w' => ∃ m : Nat, m < 115792089237316195423570985008687907853269984665640564039457584007913129639936 ∧ m % PP = rt3 (a * a % PP) ∧ e = .returned (.tuple #[.agg (e4 m), .bool true]) ∧ Below w.heap.size w w' := by
  have := froot_any q hq w
  rw [h] at this
  refine this.mono ?_
  rintro e w' ⟨m, h1, h2, h3, h4⟩
  rw [rtok_sq] at h3
  exact ⟨m, h1, h2, h3, h4⟩
theorem root_un (a A : Nat) (ha : a < 115792089237316195423570985008687907853269984665640564039457584007913129639936) (hA : A = a % PP) (b : Bool) (hb : b = rtok A) (w : World) :
    Calls Try.prog 44 #[.agg (e4 a)] w fun e w' => ∃ m : Nat, m < 115792089237316195423570985008687907853269984665640564039457584007913129639936 ∧ m % PP = rt3 A ∧ e = .returned (.tuple #[.agg (e4 m), .bool b]) ∧ Below w.heap.size w w' := by
  have := froot_any a ha w
  rw [← hA] at this
  rw [hb]
  exact this
theorem plus_zero (m a p : Nat) (hm : m % PP = rt3 (a * a % PP)) (hp : p % PP = (m + a) % PP) (hz : (rt3 (a * a % PP) + a) % PP = 0) : p % PP = 0 % PP := by
  rw [hp, Nat.zero_mod, Nat.add_mod, hm]
  rw [Nat.add_mod] at hz
  rw [Nat.mod_eq_of_lt (rt3_lt _)] at hz
  exact hz

set_option maxRecDepth 100000 in
set_option linter.unusedSimpArgs false in
set_option maxHeartbeats 8000000 in
theorem law_roots (n1 : Nat) (hn1 : n1 < 115792089237316195423570985008687907853269984665640564039457584007913129639936) (w : World) :
    Calls Try.prog 10 #[.agg (k32 n1)] w fun e w' => e = .returned (.bool true) ∧ Below w.heap.size w w' := by
  have hal := law3_alive
  have hp := plus_any
  have ht := times_any
  have his := lis_yes
  have hyes := is_yes
  have hno := is_no
  have hev := even_yes
  have hz0 := is_zero
  obtain ⟨a1, ha1⟩ : ∃ a, a = n1 % 57896044618658097711785492504343953926634992332820282019728792003956564819968 := ⟨_, rfl⟩
  obtain ⟨A1, hA1⟩ : ∃ A, A = a1 % PP := ⟨_, rfl⟩
  have hf1 := fun w => fof_a n1 a1 hn1 ha1 w
  have hr1 := fun w => rof_a n1 a1 A1 ha1 hA1 w
  have hal1 : a1 < 115792089237316195423570985008687907853269984665640564039457584007913129639936 := by rw [ha1]; exact fof_lt _
  have hAl1 : A1 < PP := by rw [hA1]; exact Nat.mod_lt _ PP_pos
  have Hf1 := Lib.hid hf1; clear hf1
  have Hr1 := Lib.hid hr1; clear hr1
  have Hal1 := Lib.hid hal1; clear hal1
  have HAl1 := Lib.hid hAl1; clear hAl1
  have HA1 := Lib.hid hA1; clear hA1
  clear ha1 hn1
  have hrs := root_sq a1
  obtain ⟨ok, hok⟩ : ∃ ok, ok = rtok A1 := ⟨_, rfl⟩
  have hr1 := fun w => root_un a1 A1 Hal1.out HA1.out ok hok w
  have hrr := fun w => rroot_any A1 HAl1.out w
  rw [← hok] at hrr
  clear hok
  have hR := rt3_root a1
  have Hal := Lib.hid hal; clear hal
  have Hp := Lib.hid hp; clear hp
  have Ht := Lib.hid ht; clear ht
  have His := Lib.hid his; clear his
  have Hyes := Lib.hid hyes; clear hyes
  have Hno := Lib.hid hno; clear hno
  have Hev := Lib.hid hev; clear hev
  have Hz0 := Lib.hid hz0; clear hz0
  have Hrs := Lib.hid hrs; clear hrs
  have Hrr := Lib.hid hrr; clear hrr
  have HR := Lib.hid hR; clear hR
  have HR1 := Lib.hid hr1; clear hr1
  go_enter Try.func10, Try.ntmps10
  repeat ((fail_if_success (with_reducible (show wpList _ _ _ _ _ _))); go_step)
  refine wpList_step (fun K hK => ?_)
  go_simp
  (try go_bits)
  refine hK _ _ ?_
  clear hK K
  refine wpList_step (fun K hK => ?_)
  go_simp
  (try go_bits)
  refine hK _ _ ?_
  clear hK K
  refine wpList_nil ?_
  have M1 := Lib.hid (Has.new w  (k32 n1) 24)
  have HB := Lib.hid (below_1 w (.cells (k32 n1) 24))
  repeat ((fail_if_success (with_reducible (show wpList _ _ _ _ _ _))); go_step)
  refine wpList_load (by rfl) 24 _ rfl (w.heap.size) rfl 24 (k32 n1) M1.out Try.underlying24 rfl (by rw [k32_size]; kernel_rfl) 10 rfl ?_
  (try simp only [Act.put, List.setIfInBounds_toArray, List.set_cons_succ, List.set_cons_zero])
  refine wpList_call (by rfl) rfl rfl (by rfl) ent30 (by rfl) (Hf1.out _) 11 rfl ?_
  rintro e u1 ⟨rfl, hb⟩
  have kq := M1.out.call hb; clear M1; have M1 := Lib.hid kq; clear kq
  have hBq := held_next HB.out hb; clear HB; have HB := Lib.hid hBq; clear hBq
  refine ⟨_, rfl, ?_⟩
  clear hb
  (try simp only [Act.put, List.setIfInBounds_toArray, List.set_cons_succ, List.set_cons_zero])
  refine wpList_step (fun K hK => ?_)
  go_simp
  have hlt1 := M1.out.lt
  have kq := M1.out.alloc (.cells (#[.int .u64 0, .int .u64 0, .int .u64 0, .int .u64 0] : Array Value) 36); clear M1; have M1 := Lib.hid kq; clear kq
  have M3 := Lib.hid (HasN.new u1 (#[.int .u64 0, .int .u64 0, .int .u64 0, .int .u64 0] : Array Value) 36 4 rfl)
  have hsz := HB.out.size
  have hBq := HB.out.alloc hsz (.cells (#[.int .u64 0, .int .u64 0, .int .u64 0, .int .u64 0] : Array Value) 36); clear HB; have HB := Lib.hid hBq; clear hBq
  refine hK _ _ ?_
  clear hK K
  first | (obtain ⟨Z, hZ, mZ⟩ := M3.out) | (obtain ⟨Z, hZ, mZ⟩ := M3.out.toN (e4_size _))
  clear M3
  have hZ' := Lib.hid hZ; clear hZ
  have mZ' := Lib.hid mZ; clear mZ
  refine wpList_store_row rfl 36 _ _ rfl (u1.heap.size) _ rfl rfl 36 Z mZ'.out (by rw [e4_size]; kernel_rfl) (hZ'.out.trans (e4_size _).symm) (row_one _ _ _) ?_
  (try simp only [Act.put, List.setIfInBounds_toArray, List.set_cons_succ, List.set_cons_zero])
  have kq := M1.out.setRow_other (u1.heap.size) (e4 a1) (by omega); clear M1; have M1 := Lib.hid kq; clear kq
  have M3 := Lib.hid (mZ'.out.setRow (e4 a1))
  clear mZ' hZ'
  have hBq := below_setRow HB.out (u1.heap.size) (e4 a1) (by omega); clear HB; have HB := Lib.hid hBq; clear hBq
  refine wpList_nil ?_
  repeat ((fail_if_success (with_reducible (show wpList _ _ _ _ _ _))); go_step)
  refine wpList_load (by rfl) 36 _ rfl (u1.heap.size) rfl 36 (e4 a1) M3.out Try.underlying36 rfl (by rw [e4_size]; kernel_rfl) 13 rfl ?_
  (try simp only [Act.put, List.setIfInBounds_toArray, List.set_cons_succ, List.set_cons_zero])
  refine wpList_call (by rfl) rfl rfl (by rfl) ent44 (by rfl) (HR1.out _) 14 rfl ?_
  rintro e u2 ⟨m1, hm1, hm1r, rfl, hb⟩
  have kq := M1.out.call hb; clear M1; have M1 := Lib.hid kq; clear kq
  have kq := M3.out.call hb; clear M3; have M3 := Lib.hid kq; clear kq
  have hBq := held_next HB.out hb; clear HB; have HB := Lib.hid hBq; clear hBq
  refine ⟨_, rfl, ?_⟩
  clear hb
  (try simp only [Act.put, List.setIfInBounds_toArray, List.set_cons_succ, List.set_cons_zero])
  refine wpList_step (fun K hK => ?_)
  go_simp
  (try go_bits)
  refine hK _ _ ?_
  clear hK K
  refine wpList_step (fun K hK => ?_)
  go_simp
  (try go_bits)
  refine hK _ _ ?_
  clear hK K
  refine wpList_step (fun K hK => ?_)
  go_simp
  (try go_bits)
  refine hK _ _ ?_
  clear hK K
  refine wpList_step (fun K hK => ?_)
  go_simp
  have hlt2 := M1.out.lt
  have hlt3 := M3.out.lt
  have kq := M1.out.alloc (.cells (#[.int .u64 0, .int .u64 0, .int .u64 0, .int .u64 0] : Array Value) 36); clear M1; have M1 := Lib.hid kq; clear kq
  have kq := M3.out.alloc (.cells (#[.int .u64 0, .int .u64 0, .int .u64 0, .int .u64 0] : Array Value) 36); clear M3; have M3 := Lib.hid kq; clear kq
  have M4 := Lib.hid (HasN.new u2 (#[.int .u64 0, .int .u64 0, .int .u64 0, .int .u64 0] : Array Value) 36 4 rfl)
  have hsz := HB.out.size
  have hBq := HB.out.alloc hsz (.cells (#[.int .u64 0, .int .u64 0, .int .u64 0, .int .u64 0] : Array Value) 36); clear HB; have HB := Lib.hid hBq; clear hBq
  refine hK _ _ ?_
  clear hK K
  first | (obtain ⟨Z, hZ, mZ⟩ := M4.out) | (obtain ⟨Z, hZ, mZ⟩ := M4.out.toN (e4_size _))
  clear M4
  have hZ' := Lib.hid hZ; clear hZ
  have mZ' := Lib.hid mZ; clear mZ
  refine wpList_store_row rfl 36 _ _ rfl (u2.heap.size) _ rfl rfl 36 Z mZ'.out (by rw [e4_size]; kernel_rfl) (hZ'.out.trans (e4_size _).symm) (row_one _ _ _) ?_
  (try simp only [Act.put, List.setIfInBounds_toArray, List.set_cons_succ, List.set_cons_zero])
  have kq := M1.out.setRow_other (u2.heap.size) (e4 m1) (by omega); clear M1; have M1 := Lib.hid kq; clear kq
  have kq := M3.out.setRow_other (u2.heap.size) (e4 m1) (by omega); clear M3; have M3 := Lib.hid kq; clear kq
  have M4 := Lib.hid (mZ'.out.setRow (e4 m1))
  clear mZ' hZ'
  have hBq := below_setRow HB.out (u2.heap.size) (e4 m1) (by omega); clear HB; have HB := Lib.hid hBq; clear hBq
  refine wpList_step (fun K hK => ?_)
  go_simp
  (try go_bits)
  refine hK _ _ ?_
  clear hK K
  refine wpList_nil ?_
  have Hm1r := Lib.hid hm1r; clear hm1r
  repeat ((fail_if_success (with_reducible (show wpList _ _ _ _ _ _))); go_step)
  refine wpList_load (by rfl) 24 _ rfl (w.heap.size) rfl 24 (k32 n1) M1.out Try.underlying24 rfl (by rw [k32_size]; kernel_rfl) 18 rfl ?_
  (try simp only [Act.put, List.setIfInBounds_toArray, List.set_cons_succ, List.set_cons_zero])
  refine wpList_call (by rfl) rfl rfl (by rfl) ent33 (by rfl) (Hr1.out _) 19 rfl ?_
  rintro e u3 ⟨rfl, hb⟩
  have kq := M1.out.call hb; clear M1; have M1 := Lib.hid kq; clear kq
  have kq := M3.out.call hb; clear M3; have M3 := Lib.hid kq; clear kq
  have kq := M4.out.call hb; clear M4; have M4 := Lib.hid kq; clear kq
  have hBq := held_next HB.out hb; clear HB; have HB := Lib.hid hBq; clear hBq
  refine ⟨_, rfl, ?_⟩
  clear hb
  (try simp only [Act.put, List.setIfInBounds_toArray, List.set_cons_succ, List.set_cons_zero])
  refine wpList_call (by rfl) rfl rfl (by rfl) ent45 (by rfl) (Hrr.out _) 20 rfl ?_
  rintro e u4 ⟨rfl, hb⟩
  have kq := M1.out.call hb; clear M1; have M1 := Lib.hid kq; clear kq
  have kq := M3.out.call hb; clear M3; have M3 := Lib.hid kq; clear kq
  have kq := M4.out.call hb; clear M4; have M4 := Lib.hid kq; clear kq
  have hBq := held_next HB.out hb; clear HB; have HB := Lib.hid hBq; clear hBq
  refine ⟨_, rfl, ?_⟩
  clear hb
  (try simp only [Act.put, List.setIfInBounds_toArray, List.set_cons_succ, List.set_cons_zero])
  refine wpList_step (fun K hK => ?_)
  go_simp
  (try go_bits)
  refine hK _ _ ?_
  clear hK K
  refine wpList_step (fun K hK => ?_)
  go_simp
  (try go_bits)
  refine hK _ _ ?_
  clear hK K
  refine wpList_step (fun K hK => ?_)
  go_simp
  (try go_bits)
  refine hK _ _ ?_
  clear hK K
  refine wpList_step (fun K hK => ?_)
  go_simp
  have hlt4 := M1.out.lt
  have hlt5 := M3.out.lt
  have hlt6 := M4.out.lt
  have kq := M1.out.alloc (.cells (#[.int .i64 0, .int .i64 0, .int .i64 0, .int .i64 0, .int .i64 0, .int .i64 0, .int .i64 0, .int .i64 0, .int .i64 0, .int .i64 0, .int .i64 0, .int .i64 0, .int .i64 0, .int .i64 0, .int .i64 0, .int .i64 0, .int .i64 0, .int .i64 0, .int .i64 0, .int .i64 0, .int .i64 0, .int .i64 0] : Array Value) 40); clear M1; have M1 := Lib.hid kq; clear kq
  have kq := M3.out.alloc (.cells (#[.int .i64 0, .int .i64 0, .int .i64 0, .int .i64 0, .int .i64 0, .int .i64 0, .int .i64 0, .int .i64 0, .int .i64 0, .int .i64 0, .int .i64 0, .int .i64 0, .int .i64 0, .int .i64 0, .int .i64 0, .int .i64 0, .int .i64 0, .int .i64 0, .int .i64 0, .int .i64 0, .int .i64 0, .int .i64 0] : Array Value) 40); clear M3; have M3 := Lib.hid kq; clear kq
  have kq := M4.out.alloc (.cells (#[.int .i64 0, .int .i64 0, .int .i64 0, .int .i64 0, .int .i64 0, .int .i64 0, .int .i64 0, .int .i64 0, .int .i64 0, .int .i64 0, .int .i64 0, .int .i64 0, .int .i64 0, .int .i64 0, .int .i64 0, .int .i64 0, .int .i64 0, .int .i64 0, .int .i64 0, .int .i64 0, .int .i64 0, .int .i64 0] : Array Value) 40); clear M4; have M4 := Lib.hid kq; clear kq
  have M6 := Lib.hid (HasN.new u4 (#[.int .i64 0, .int .i64 0, .int .i64 0, .int .i64 0, .int .i64 0, .int .i64 0, .int .i64 0, .int .i64 0, .int .i64 0, .int .i64 0, .int .i64 0, .int .i64 0, .int .i64 0, .int .i64 0, .int .i64 0, .int .i64 0, .int .i64 0, .int .i64 0, .int .i64 0, .int .i64 0, .int .i64 0, .int .i64 0] : Array Value) 40 22 rfl)
  have hsz := HB.out.size
  have hBq := HB.out.alloc hsz (.cells (#[.int .i64 0, .int .i64 0, .int .i64 0, .int .i64 0, .int .i64 0, .int .i64 0, .int .i64 0, .int .i64 0, .int .i64 0, .int .i64 0, .int .i64 0, .int .i64 0, .int .i64 0, .int .i64 0, .int .i64 0, .int .i64 0, .int .i64 0, .int .i64 0, .int .i64 0, .int .i64 0, .int .i64 0, .int .i64 0] : Array Value) 40); clear HB; have HB := Lib.hid hBq; clear hBq
  refine hK _ _ ?_
  clear hK K
  first | (obtain ⟨Z, hZ, mZ⟩ := M6.out) | (obtain ⟨Z, hZ, mZ⟩ := M6.out.toN (r22_size _))
  clear M6
  have hZ' := Lib.hid hZ; clear hZ
  have mZ' := Lib.hid mZ; clear mZ
  refine wpList_store_row rfl 40 _ _ rfl (u4.heap.size) _ rfl rfl 40 Z mZ'.out (by rw [r22_size]; kernel_rfl) (hZ'.out.trans (r22_size _).symm) (row_one _ _ _) ?_
  (try simp only [Act.put, List.setIfInBounds_toArray, List.set_cons_succ, List.set_cons_zero])
  have kq := M1.out.setRow_other (u4.heap.size) (r22 (rt3 A1)) (by omega); clear M1; have M1 := Lib.hid kq; clear kq
  have kq := M3.out.setRow_other (u4.heap.size) (r22 (rt3 A1)) (by omega); clear M3; have M3 := Lib.hid kq; clear kq
  have kq := M4.out.setRow_other (u4.heap.size) (r22 (rt3 A1)) (by omega); clear M4; have M4 := Lib.hid kq; clear kq
  have M6 := Lib.hid (mZ'.out.setRow (r22 (rt3 A1)))
  clear mZ' hZ'
  have hBq := below_setRow HB.out (u4.heap.size) (r22 (rt3 A1)) (by omega); clear HB; have HB := Lib.hid hBq; clear hBq
  refine wpList_step (fun K hK => ?_)
  go_simp
  (try go_bits)
  refine hK _ _ ?_
  clear hK K
  refine wpList_nil ?_
  repeat ((fail_if_success (with_reducible (show wpList _ _ _ _ _ _))); go_step)
  refine wpList_load (by rfl) 36 _ rfl (u1.heap.size) rfl 36 (e4 a1) M3.out Try.underlying36 rfl (by rw [e4_size]; kernel_rfl) 24 rfl ?_
  (try simp only [Act.put, List.setIfInBounds_toArray, List.set_cons_succ, List.set_cons_zero])
  refine wpList_load (by rfl) 36 _ rfl (u1.heap.size) rfl 36 (e4 a1) M3.out Try.underlying36 rfl (by rw [e4_size]; kernel_rfl) 25 rfl ?_
  (try simp only [Act.put, List.setIfInBounds_toArray, List.set_cons_succ, List.set_cons_zero])
  refine wpList_call (by rfl) rfl rfl (by rfl) ent31 (by rfl) (Ht.out a1 a1 Hal1.out Hal1.out _) 26 rfl ?_
  rintro e u5 ⟨q, hq, hqr, rfl, hb⟩
  have kq := M1.out.call hb; clear M1; have M1 := Lib.hid kq; clear kq
  have kq := M3.out.call hb; clear M3; have M3 := Lib.hid kq; clear kq
  have kq := M4.out.call hb; clear M4; have M4 := Lib.hid kq; clear kq
  have kq := M6.out.call hb; clear M6; have M6 := Lib.hid kq; clear kq
  have hBq := held_next HB.out hb; clear HB; have HB := Lib.hid hBq; clear hBq
  refine ⟨_, rfl, ?_⟩
  clear hb
  (try simp only [Act.put, List.setIfInBounds_toArray, List.set_cons_succ, List.set_cons_zero])
  refine wpList_call (by rfl) rfl rfl (by rfl) ent44 (by rfl) (Hrs.out q hq hqr _) 27 rfl ?_
  rintro e u6 ⟨m2, hm2, hm2r, rfl, hb⟩
  have kq := M1.out.call hb; clear M1; have M1 := Lib.hid kq; clear kq
  have kq := M3.out.call hb; clear M3; have M3 := Lib.hid kq; clear kq
  have kq := M4.out.call hb; clear M4; have M4 := Lib.hid kq; clear kq
  have kq := M6.out.call hb; clear M6; have M6 := Lib.hid kq; clear kq
  have hBq := held_next HB.out hb; clear HB; have HB := Lib.hid hBq; clear hBq
  refine ⟨_, rfl, ?_⟩
  clear hb
  (try simp only [Act.put, List.setIfInBounds_toArray, List.set_cons_succ, List.set_cons_zero])
  refine wpList_step (fun K hK => ?_)
  go_simp
  (try go_bits)
  refine hK _ _ ?_
  clear hK K
  refine wpList_step (fun K hK => ?_)
  go_simp
  (try go_bits)
  refine hK _ _ ?_
  clear hK K
  refine wpList_step (fun K hK => ?_)
  go_simp
  (try go_bits)
  refine hK _ _ ?_
  clear hK K
  refine wpList_step (fun K hK => ?_)
  go_simp
  have hlt7 := M1.out.lt
  have hlt8 := M3.out.lt
  have hlt9 := M4.out.lt
  have hlt10 := M6.out.lt
  have kq := M1.out.alloc (.cells (#[.int .u64 0, .int .u64 0, .int .u64 0, .int .u64 0] : Array Value) 36); clear M1; have M1 := Lib.hid kq; clear kq
  have kq := M3.out.alloc (.cells (#[.int .u64 0, .int .u64 0, .int .u64 0, .int .u64 0] : Array Value) 36); clear M3; have M3 := Lib.hid kq; clear kq
  have kq := M4.out.alloc (.cells (#[.int .u64 0, .int .u64 0, .int .u64 0, .int .u64 0] : Array Value) 36); clear M4; have M4 := Lib.hid kq; clear kq
  have kq := M6.out.alloc (.cells (#[.int .u64 0, .int .u64 0, .int .u64 0, .int .u64 0] : Array Value) 36); clear M6; have M6 := Lib.hid kq; clear kq
  have M8 := Lib.hid (HasN.new u6 (#[.int .u64 0, .int .u64 0, .int .u64 0, .int .u64 0] : Array Value) 36 4 rfl)
  have hsz := HB.out.size
  have hBq := HB.out.alloc hsz (.cells (#[.int .u64 0, .int .u64 0, .int .u64 0, .int .u64 0] : Array Value) 36); clear HB; have HB := Lib.hid hBq; clear hBq
  refine hK _ _ ?_
  clear hK K
  first | (obtain ⟨Z, hZ, mZ⟩ := M8.out) | (obtain ⟨Z, hZ, mZ⟩ := M8.out.toN (e4_size _))
  clear M8
  have hZ' := Lib.hid hZ; clear hZ
  have mZ' := Lib.hid mZ; clear mZ
  refine wpList_store_row rfl 36 _ _ rfl (u6.heap.size) _ rfl rfl 36 Z mZ'.out (by rw [e4_size]; kernel_rfl) (hZ'.out.trans (e4_size _).symm) (row_one _ _ _) ?_
  (try simp only [Act.put, List.setIfInBounds_toArray, List.set_cons_succ, List.set_cons_zero])
  have kq := M1.out.setRow_other (u6.heap.size) (e4 m2) (by omega); clear M1; have M1 := Lib.hid kq; clear kq
  have kq := M3.out.setRow_other (u6.heap.size) (e4 m2) (by omega); clear M3; have M3 := Lib.hid kq; clear kq
  have kq := M4.out.setRow_other (u6.heap.size) (e4 m2) (by omega); clear M4; have M4 := Lib.hid kq; clear kq
  have kq := M6.out.setRow_other (u6.heap.size) (e4 m2) (by omega); clear M6; have M6 := Lib.hid kq; clear kq
  have M8 := Lib.hid (mZ'.out.setRow (e4 m2))
  clear mZ' hZ'
  have hBq := below_setRow HB.out (u6.heap.size) (e4 m2) (by omega); clear HB; have HB := Lib.hid hBq; clear hBq
  refine wpList_step (fun K hK => ?_)
  go_simp
  (try go_bits)
  refine hK _ _ ?_
  clear hK K
  refine wpList_nil ?_
  clear hqr
  have Hm2r := Lib.hid hm2r; clear hm2r
  repeat ((fail_if_success (with_reducible (show wpList _ _ _ _ _ _))); go_step)
  by_cases c0 : rt3 (a1 * a1 % PP) = a1 % PP
  · have C0 := Lib.hid c0; clear c0
    clear HR
    refine wpList_call (by rfl) rfl rfl (by rfl) ent28 (by rfl) (Hal.out _) 30 rfl ?_
    rintro e u7 ⟨rfl, hb⟩
    have kq := M1.out.call hb; clear M1; have M1 := Lib.hid kq; clear kq
    have kq := M3.out.call hb; clear M3; have M3 := Lib.hid kq; clear kq
    have kq := M4.out.call hb; clear M4; have M4 := Lib.hid kq; clear kq
    have kq := M6.out.call hb; clear M6; have M6 := Lib.hid kq; clear kq
    have kq := M8.out.call hb; clear M8; have M8 := Lib.hid kq; clear kq
    have hBq := held_next HB.out hb; clear HB; have HB := Lib.hid hBq; clear hBq
    refine ⟨_, rfl, ?_⟩
    clear hb
    (try simp only [Act.put, List.setIfInBounds_toArray, List.set_cons_succ, List.set_cons_zero])
    refine wpList_step (fun K hK => ?_)
    go_simp
    (try go_bits)
    refine hK _ _ ?_
    clear hK K
    refine wpList_step (fun K hK => ?_)
    go_simp
    (try go_bits)
    refine hK _ _ ?_
    clear hK K
    refine wpList_step (fun K hK => ?_)
    go_simp
    (try go_bits)
    refine hK _ _ ?_
    clear hK K
    refine wpList_step (fun K hK => ?_)
    go_simp
    (try go_bits)
    refine hK _ _ ?_
    clear hK K
    refine wpList_step (fun K hK => ?_)
    go_simp
    (try go_bits)
    refine hK _ _ ?_
    clear hK K
    refine wpList_step (fun K hK => ?_)
    go_simp
    (try go_bits)
    refine hK _ _ ?_
    clear hK K
    refine wpList_load (by rfl) 36 _ rfl (u2.heap.size) rfl 36 (e4 m1) M4.out Try.underlying36 rfl (by rw [e4_size]; kernel_rfl) 37 rfl ?_
    (try simp only [Act.put, List.setIfInBounds_toArray, List.set_cons_succ, List.set_cons_zero])
    refine wpList_load (by rfl) 40 _ rfl (u4.heap.size) rfl 40 (r22 (rt3 A1)) M6.out Try.underlying40 rfl (by rw [r22_size]; kernel_rfl) 38 rfl ?_
    (try simp only [Act.put, List.setIfInBounds_toArray, List.set_cons_succ, List.set_cons_zero])
    refine wpList_call (by rfl) rfl rfl (by rfl) ent29 (by rfl) (His.out m1 (rt3 A1) hm1 (rt3_lt _) Hm1r.out _) 39 rfl ?_
    rintro e u8 ⟨rfl, hb⟩
    have kq := M1.out.call hb; clear M1; have M1 := Lib.hid kq; clear kq
    have kq := M3.out.call hb; clear M3; have M3 := Lib.hid kq; clear kq
    have kq := M4.out.call hb; clear M4; have M4 := Lib.hid kq; clear kq
    have kq := M6.out.call hb; clear M6; have M6 := Lib.hid kq; clear kq
    have kq := M8.out.call hb; clear M8; have M8 := Lib.hid kq; clear kq
    have hBq := held_next HB.out hb; clear HB; have HB := Lib.hid hBq; clear hBq
    refine ⟨_, rfl, ?_⟩
    clear hb
    (try simp only [Act.put, List.setIfInBounds_toArray, List.set_cons_succ, List.set_cons_zero])
    refine wpList_step (fun K hK => ?_)
    go_simp
    (try go_bits)
    refine hK _ _ ?_
    clear hK K
    refine wpList_step (fun K hK => ?_)
    go_simp
    (try go_bits)
    refine hK _ _ ?_
    clear hK K
    refine wpList_step (fun K hK => ?_)
    go_simp
    (try go_bits)
    refine hK _ _ ?_
    clear hK K
    refine wpList_step (fun K hK => ?_)
    go_simp
    (try go_bits)
    refine hK _ _ ?_
    clear hK K
    refine wpList_step (fun K hK => ?_)
    go_simp
    (try go_bits)
    refine hK _ _ ?_
    clear hK K
    refine wpList_load (by rfl) 36 _ rfl (u6.heap.size) rfl 36 (e4 m2) M8.out Try.underlying36 rfl (by rw [e4_size]; kernel_rfl) 45 rfl ?_
    (try simp only [Act.put, List.setIfInBounds_toArray, List.set_cons_succ, List.set_cons_zero])
    refine wpList_call (by rfl) rfl rfl (by rfl) ent36 (by rfl) (Hev.out m2 hm2 (by rw [Hm2r.out]; exact rt3_even _) _) 46 rfl ?_
    rintro e u9 ⟨rfl, hb⟩
    have kq := M1.out.call hb; clear M1; have M1 := Lib.hid kq; clear kq
    have kq := M3.out.call hb; clear M3; have M3 := Lib.hid kq; clear kq
    have kq := M4.out.call hb; clear M4; have M4 := Lib.hid kq; clear kq
    have kq := M6.out.call hb; clear M6; have M6 := Lib.hid kq; clear kq
    have kq := M8.out.call hb; clear M8; have M8 := Lib.hid kq; clear kq
    have hBq := held_next HB.out hb; clear HB; have HB := Lib.hid hBq; clear hBq
    refine ⟨_, rfl, ?_⟩
    clear hb
    (try simp only [Act.put, List.setIfInBounds_toArray, List.set_cons_succ, List.set_cons_zero])
    refine wpList_step (fun K hK => ?_)
    go_simp
    (try go_bits)
    refine hK _ _ ?_
    clear hK K
    refine wpList_step (fun K hK => ?_)
    go_simp
    (try go_bits)
    refine hK _ _ ?_
    clear hK K
    refine wpList_load (by rfl) 36 _ rfl (u6.heap.size) rfl 36 (e4 m2) M8.out Try.underlying36 rfl (by rw [e4_size]; kernel_rfl) 49 rfl ?_
    (try simp only [Act.put, List.setIfInBounds_toArray, List.set_cons_succ, List.set_cons_zero])
    refine wpList_load (by rfl) 36 _ rfl (u1.heap.size) rfl 36 (e4 a1) M3.out Try.underlying36 rfl (by rw [e4_size]; kernel_rfl) 50 rfl ?_
    (try simp only [Act.put, List.setIfInBounds_toArray, List.set_cons_succ, List.set_cons_zero])
    refine wpList_call (by rfl) rfl rfl (by rfl) ent41 (by rfl) (Hyes.out m2 a1 hm2 Hal1.out (by rw [Hm2r.out]; exact C0.out) _) 51 rfl ?_
    rintro e u10 ⟨rfl, hb⟩
    have kq := M1.out.call hb; clear M1; have M1 := Lib.hid kq; clear kq
    have kq := M3.out.call hb; clear M3; have M3 := Lib.hid kq; clear kq
    have kq := M4.out.call hb; clear M4; have M4 := Lib.hid kq; clear kq
    have kq := M6.out.call hb; clear M6; have M6 := Lib.hid kq; clear kq
    have kq := M8.out.call hb; clear M8; have M8 := Lib.hid kq; clear kq
    have hBq := held_next HB.out hb; clear HB; have HB := Lib.hid hBq; clear hBq
    refine ⟨_, rfl, ?_⟩
    clear hb
    (try simp only [Act.put, List.setIfInBounds_toArray, List.set_cons_succ, List.set_cons_zero])
    refine wpList_step (fun K hK => ?_)
    go_simp
    (try go_bits)
    refine hK _ _ ?_
    clear hK K
    refine wpList_step (fun K hK => ?_)
    go_simp
    (try go_bits)
    refine hK _ _ ?_
    clear hK K
    refine wpList_step (fun K hK => ?_)
    go_simp
    (try go_bits)
    refine hK _ _ ?_
    clear hK K
    refine wpList_step (fun K hK => ?_)
    go_simp
    (try go_bits)
    refine hK _ _ ?_
    clear hK K
    refine wpList_step (fun K hK => ?_)
    go_simp
    (try go_bits)
    refine hK _ _ ?_
    clear hK K
    refine wpList_step (fun K hK => ?_)
    go_simp
    (try go_bits)
    refine hK _ _ ?_
    clear hK K
    refine wpList_step (fun K hK => ?_)
    go_simp
    (try go_bits)
    refine hK _ _ ?_
    clear hK K
    refine wpList_step (fun K hK => ?_)
    go_simp
    (try go_bits)
    refine hK _ _ ?_
    clear hK K
    refine wpList_step (fun K hK => ?_)
    go_simp
    (try go_bits)
    refine hK _ _ ?_
    clear hK K
    refine wpList_nil ?_
    go_wp2_with fail
    go_ret
    exact ⟨by simp, HB.out⟩
  · have hR2 := HR.out.resolve_left c0
    clear HR
    have HR := Lib.hid hR2; clear hR2
    have C0 := Lib.hid c0; clear c0
    refine wpList_call (by rfl) rfl rfl (by rfl) ent28 (by rfl) (Hal.out _) 30 rfl ?_
    rintro e u7 ⟨rfl, hb⟩
    have kq := M1.out.call hb; clear M1; have M1 := Lib.hid kq; clear kq
    have kq := M3.out.call hb; clear M3; have M3 := Lib.hid kq; clear kq
    have kq := M4.out.call hb; clear M4; have M4 := Lib.hid kq; clear kq
    have kq := M6.out.call hb; clear M6; have M6 := Lib.hid kq; clear kq
    have kq := M8.out.call hb; clear M8; have M8 := Lib.hid kq; clear kq
    have hBq := held_next HB.out hb; clear HB; have HB := Lib.hid hBq; clear hBq
    refine ⟨_, rfl, ?_⟩
    clear hb
    (try simp only [Act.put, List.setIfInBounds_toArray, List.set_cons_succ, List.set_cons_zero])
    refine wpList_step (fun K hK => ?_)
    go_simp
    (try go_bits)
    refine hK _ _ ?_
    clear hK K
    refine wpList_step (fun K hK => ?_)
    go_simp
    (try go_bits)
    refine hK _ _ ?_
    clear hK K
    refine wpList_step (fun K hK => ?_)
    go_simp
    (try go_bits)
    refine hK _ _ ?_
    clear hK K
    refine wpList_step (fun K hK => ?_)
    go_simp
    (try go_bits)
    refine hK _ _ ?_
    clear hK K
    refine wpList_step (fun K hK => ?_)
    go_simp
    (try go_bits)
    refine hK _ _ ?_
    clear hK K
    refine wpList_step (fun K hK => ?_)
    go_simp
    (try go_bits)
    refine hK _ _ ?_
    clear hK K
    refine wpList_load (by rfl) 36 _ rfl (u2.heap.size) rfl 36 (e4 m1) M4.out Try.underlying36 rfl (by rw [e4_size]; kernel_rfl) 37 rfl ?_
    (try simp only [Act.put, List.setIfInBounds_toArray, List.set_cons_succ, List.set_cons_zero])
    refine wpList_load (by rfl) 40 _ rfl (u4.heap.size) rfl 40 (r22 (rt3 A1)) M6.out Try.underlying40 rfl (by rw [r22_size]; kernel_rfl) 38 rfl ?_
    (try simp only [Act.put, List.setIfInBounds_toArray, List.set_cons_succ, List.set_cons_zero])
    refine wpList_call (by rfl) rfl rfl (by rfl) ent29 (by rfl) (His.out m1 (rt3 A1) hm1 (rt3_lt _) Hm1r.out _) 39 rfl ?_
    rintro e u8 ⟨rfl, hb⟩
    have kq := M1.out.call hb; clear M1; have M1 := Lib.hid kq; clear kq
    have kq := M3.out.call hb; clear M3; have M3 := Lib.hid kq; clear kq
    have kq := M4.out.call hb; clear M4; have M4 := Lib.hid kq; clear kq
    have kq := M6.out.call hb; clear M6; have M6 := Lib.hid kq; clear kq
    have kq := M8.out.call hb; clear M8; have M8 := Lib.hid kq; clear kq
    have hBq := held_next HB.out hb; clear HB; have HB := Lib.hid hBq; clear hBq
    refine ⟨_, rfl, ?_⟩
    clear hb
    (try simp only [Act.put, List.setIfInBounds_toArray, List.set_cons_succ, List.set_cons_zero])
    refine wpList_step (fun K hK => ?_)
    go_simp
    (try go_bits)
    refine hK _ _ ?_
    clear hK K
    refine wpList_step (fun K hK => ?_)
    go_simp
    (try go_bits)
    refine hK _ _ ?_
    clear hK K
    refine wpList_step (fun K hK => ?_)
    go_simp
    (try go_bits)
    refine hK _ _ ?_
    clear hK K
    refine wpList_step (fun K hK => ?_)
    go_simp
    (try go_bits)
    refine hK _ _ ?_
    clear hK K
    refine wpList_step (fun K hK => ?_)
    go_simp
    (try go_bits)
    refine hK _ _ ?_
    clear hK K
    refine wpList_load (by rfl) 36 _ rfl (u6.heap.size) rfl 36 (e4 m2) M8.out Try.underlying36 rfl (by rw [e4_size]; kernel_rfl) 45 rfl ?_
    (try simp only [Act.put, List.setIfInBounds_toArray, List.set_cons_succ, List.set_cons_zero])
    refine wpList_call (by rfl) rfl rfl (by rfl) ent36 (by rfl) (Hev.out m2 hm2 (by rw [Hm2r.out]; exact rt3_even _) _) 46 rfl ?_
    rintro e u9 ⟨rfl, hb⟩
    have kq := M1.out.call hb; clear M1; have M1 := Lib.hid kq; clear kq
    have kq := M3.out.call hb; clear M3; have M3 := Lib.hid kq; clear kq
    have kq := M4.out.call hb; clear M4; have M4 := Lib.hid kq; clear kq
    have kq := M6.out.call hb; clear M6; have M6 := Lib.hid kq; clear kq
    have kq := M8.out.call hb; clear M8; have M8 := Lib.hid kq; clear kq
    have hBq := held_next HB.out hb; clear HB; have HB := Lib.hid hBq; clear hBq
    refine ⟨_, rfl, ?_⟩
    clear hb
    (try simp only [Act.put, List.setIfInBounds_toArray, List.set_cons_succ, List.set_cons_zero])
    refine wpList_step (fun K hK => ?_)
    go_simp
    (try go_bits)
    refine hK _ _ ?_
    clear hK K
    refine wpList_step (fun K hK => ?_)
    go_simp
    (try go_bits)
    refine hK _ _ ?_
    clear hK K
    refine wpList_load (by rfl) 36 _ rfl (u6.heap.size) rfl 36 (e4 m2) M8.out Try.underlying36 rfl (by rw [e4_size]; kernel_rfl) 49 rfl ?_
    (try simp only [Act.put, List.setIfInBounds_toArray, List.set_cons_succ, List.set_cons_zero])
    refine wpList_load (by rfl) 36 _ rfl (u1.heap.size) rfl 36 (e4 a1) M3.out Try.underlying36 rfl (by rw [e4_size]; kernel_rfl) 50 rfl ?_
    (try simp only [Act.put, List.setIfInBounds_toArray, List.set_cons_succ, List.set_cons_zero])
    refine wpList_call (by rfl) rfl rfl (by rfl) ent41 (by rfl) (Hno.out m2 a1 hm2 Hal1.out (by rw [Hm2r.out]; exact C0.out) _) 51 rfl ?_
    rintro e u10 ⟨rfl, hb⟩
    have kq := M1.out.call hb; clear M1; have M1 := Lib.hid kq; clear kq
    have kq := M3.out.call hb; clear M3; have M3 := Lib.hid kq; clear kq
    have kq := M4.out.call hb; clear M4; have M4 := Lib.hid kq; clear kq
    have kq := M6.out.call hb; clear M6; have M6 := Lib.hid kq; clear kq
    have kq := M8.out.call hb; clear M8; have M8 := Lib.hid kq; clear kq
    have hBq := held_next HB.out hb; clear HB; have HB := Lib.hid hBq; clear hBq
    refine ⟨_, rfl, ?_⟩
    clear hb
    (try simp only [Act.put, List.setIfInBounds_toArray, List.set_cons_succ, List.set_cons_zero])
    refine wpList_step (fun K hK => ?_)
    go_simp
    (try go_bits)
    refine hK _ _ ?_
    clear hK K
    refine wpList_load (by rfl) 36 _ rfl (u6.heap.size) rfl 36 (e4 m2) M8.out Try.underlying36 rfl (by rw [e4_size]; kernel_rfl) 53 rfl ?_
    (try simp only [Act.put, List.setIfInBounds_toArray, List.set_cons_succ, List.set_cons_zero])
    refine wpList_load (by rfl) 36 _ rfl (u1.heap.size) rfl 36 (e4 a1) M3.out Try.underlying36 rfl (by rw [e4_size]; kernel_rfl) 54 rfl ?_
    (try simp only [Act.put, List.setIfInBounds_toArray, List.set_cons_succ, List.set_cons_zero])
    refine wpList_call (by rfl) rfl rfl (by rfl) ent37 (by rfl) (Hp.out m2 a1 hm2 Hal1.out _) 55 rfl ?_
    rintro e u11 ⟨p, hp, hpr, rfl, hb⟩
    have kq := M1.out.call hb; clear M1; have M1 := Lib.hid kq; clear kq
    have kq := M3.out.call hb; clear M3; have M3 := Lib.hid kq; clear kq
    have kq := M4.out.call hb; clear M4; have M4 := Lib.hid kq; clear kq
    have kq := M6.out.call hb; clear M6; have M6 := Lib.hid kq; clear kq
    have kq := M8.out.call hb; clear M8; have M8 := Lib.hid kq; clear kq
    have hBq := held_next HB.out hb; clear HB; have HB := Lib.hid hBq; clear hBq
    refine ⟨_, rfl, ?_⟩
    clear hb
    (try simp only [Act.put, List.setIfInBounds_toArray, List.set_cons_succ, List.set_cons_zero])
    refine wpList_step (fun K hK => ?_)
    go_simp
    (try go_bits)
    refine hK _ _ ?_
    clear hK K
    refine wpList_call (by rfl) rfl rfl (by rfl) ent41 (by rfl) (Hz0.out p hp (plus_zero m2 a1 p Hm2r.out hpr HR.out) _) 57 rfl ?_
    rintro e u12 ⟨rfl, hb⟩
    have kq := M1.out.call hb; clear M1; have M1 := Lib.hid kq; clear kq
    have kq := M3.out.call hb; clear M3; have M3 := Lib.hid kq; clear kq
    have kq := M4.out.call hb; clear M4; have M4 := Lib.hid kq; clear kq
    have kq := M6.out.call hb; clear M6; have M6 := Lib.hid kq; clear kq
    have kq := M8.out.call hb; clear M8; have M8 := Lib.hid kq; clear kq
    have hBq := held_next HB.out hb; clear HB; have HB := Lib.hid hBq; clear hBq
    refine ⟨_, rfl, ?_⟩
    clear hb
    (try simp only [Act.put, List.setIfInBounds_toArray, List.set_cons_succ, List.set_cons_zero])
    refine wpList_step (fun K hK => ?_)
    go_simp
    (try go_bits)
    refine hK _ _ ?_
    clear hK K
    refine wpList_step (fun K hK => ?_)
    go_simp
    (try go_bits)
    refine hK _ _ ?_
    clear hK K
    refine wpList_step (fun K hK => ?_)
    go_simp
    (try go_bits)
    refine hK _ _ ?_
    clear hK K
    refine wpList_nil ?_
    go_wp2_with fail
    go_ret
    exact ⟨by simp, HB.out⟩
end Go.Proofs.Ytjiagjonlcadiaa
