/- The laws of chapter 03: elements of bytes and of whole numbers, sums. -/
import Derived.Test.YtjiagjonlcadiaaLawB
namespace Go.Proofs.Ytjiagjonlcadiaa
open Go.RowKit Go.Lib

theorem fint_all (n : Int) (h1 : -9223372036854775808 ≤ n) (h2 : n < 9223372036854775808) (w : World) :
    Calls Try.prog 34 #[.int .i64 n] w (ElP (n % (PP : Int)).toNat w) := by
  by_cases h : n < 0
  · exact fint_neg n h h1 w
  · obtain ⟨m, rfl⟩ := Int.eq_ofNat_of_zero_le (show 0 ≤ n by omega)
    refine (fint_nn m (by omega) w).mono ?_
    rintro e w' ⟨rfl, hb⟩
    exact ⟨m, by omega, by rw [← Int.natCast_emod]; rfl, rfl, hb⟩
theorem int_res_lt (n : Int) : (n % (PP : Int)).toNat < PP := by
  have h0 : (0 : Int) < PP := by have := PP_pos; omega
  have h1 := Int.emod_lt_of_pos n h0
  have h2 := Int.emod_nonneg n (show (PP : Int) ≠ 0 by omega)
  omega
theorem dg0_par (A : Nat) : (dg 4096 A 0 % 2 == 0) = (A % 2 == 0) := by
  have hz0 : dg 4096 A 0 % 2 = ((A % 2 : Nat) : Int) := by unfold dg; rw [Nat.pow_zero, Nat.div_one]; omega
  rw [hz0]
  rcases Nat.mod_two_eq_zero_or_one A with h | h <;> rw [h] <;> rfl

set_option maxRecDepth 100000 in
set_option linter.unusedSimpArgs false in
set_option maxHeartbeats 8000000 in
theorem law_of (n1 : Nat) (i : Int) (hn1 : n1 < 115792089237316195423570985008687907853269984665640564039457584007913129639936) (i1 : -9223372036854775808 ≤ i) (i2 : i < 9223372036854775808) (w : World) :
    Calls Try.prog 6 #[.agg (k32 n1), .int .i64 i] w fun e w' => e = .returned (.bool true) ∧ Below w.heap.size w w' := by
  have hal := law3_alive
  have hfi := fun w => fint_all i i1 i2 w
  have hri := fun w => rint_any i i1 i2 w
  have his := lis_yes
  obtain ⟨ri, hre⟩ : ∃ r, r = (i % (PP : Int)).toNat := ⟨_, rfl⟩
  have hrl : ri < PP := by rw [hre]; exact int_res_lt i
  rw [← hre] at hfi hri
  clear hre i1 i2
  obtain ⟨a1, ha1⟩ : ∃ a, a = n1 % 57896044618658097711785492504343953926634992332820282019728792003956564819968 := ⟨_, rfl⟩
  obtain ⟨A1, hA1⟩ : ∃ A, A = a1 % PP := ⟨_, rfl⟩
  have hf1 := fun w => fof_a n1 a1 hn1 ha1 w
  have hr1 := fun w => rof_a n1 a1 A1 ha1 hA1 w
  have hal1 : a1 < 115792089237316195423570985008687907853269984665640564039457584007913129639936 := by rw [ha1]; exact fof_lt _
  have hAl1 : A1 < PP := by rw [hA1]; exact Nat.mod_lt _ PP_pos
  have Hf1 := Lib.hid hf1; clear hf1
  have Hr1 := Lib.hid hr1; clear hr1
  have Hal1 := Lib.hid hal1; clear hal1
  have HAl1 := Lib.hid hAl1; clear hAl1
  have HA1 := Lib.hid hA1; clear hA1
  clear ha1 hn1
  have hev := fun w => even_any a1 Hal1.out w
  rw [← HA1.out] at hev
  have hpar := dg0_par A1
  have hzn := dg_nn A1 0
  obtain ⟨z, hz⟩ : ∃ z, z = dg 4096 A1 0 := ⟨_, rfl⟩
  rw [← hz] at hpar hzn
  rw [← Int.tmod_eq_emod_of_nonneg hzn] at hpar
  obtain ⟨b, hb⟩ : ∃ b, b = (A1 % 2 == 0) := ⟨_, rfl⟩
  rw [← hb] at hpar hev
  clear hb
  have Hal := Lib.hid hal; clear hal
  have Hfi := Lib.hid hfi; clear hfi
  have Hri := Lib.hid hri; clear hri
  have His := Lib.hid his; clear his
  have Hrl := Lib.hid hrl; clear hrl
  have Hev := Lib.hid hev; clear hev
  have Hz := Lib.hid hz; clear hz
  go_enter Try.func6, Try.ntmps6
  repeat ((fail_if_success (with_reducible (show wpList _ _ _ _ _ _))); go_step)
  refine wpList_step (fun K hK => ?_)
  go_simp
  (try go_bits)
  refine hK _ _ ?_
  clear hK K
  refine wpList_step (fun K hK => ?_)
  go_simp
  (try go_bits)
  refine hK _ _ ?_
  clear hK K
  refine wpList_nil ?_
  have M2 := Lib.hid (Has.new w  (k32 n1) 24)
  have HB := Lib.hid (below_1 w (.cells (k32 n1) 24))
  repeat ((fail_if_success (with_reducible (show wpList _ _ _ _ _ _))); go_step)
  refine wpList_load (by rfl) 24 _ rfl (w.heap.size) rfl 24 (k32 n1) M2.out Try.underlying24 rfl (by rw [k32_size]; kernel_rfl) 6 rfl ?_
  (try simp only [Act.put, sI, sS, sZ])
  refine wpList_call (by rfl) rfl rfl (by rfl) ent33 (by rfl) (Hr1.out _) 7 rfl ?_
  rintro e uw1 ⟨rfl, hb⟩
  replace M2 := Lib.hid (M2.out.call hb)
  replace HB := Lib.hid (held_next HB.out hb)
  refine ⟨_, rfl, ?_⟩
  clear hb
  (try simp only [Act.put, sI, sS, sZ])
  refine wpList_step (fun K hK => ?_)
  go_simp
  have hlt1 := M2.out.lt
  replace M2 := Lib.hid (M2.out.alloc (.cells (#[.int .i64 0, .int .i64 0, .int .i64 0, .int .i64 0, .int .i64 0, .int .i64 0, .int .i64 0, .int .i64 0, .int .i64 0, .int .i64 0, .int .i64 0, .int .i64 0, .int .i64 0, .int .i64 0, .int .i64 0, .int .i64 0, .int .i64 0, .int .i64 0, .int .i64 0, .int .i64 0, .int .i64 0, .int .i64 0] : Array Value) 40))
  have M5 := Lib.hid (HasN.new uw1 (#[.int .i64 0, .int .i64 0, .int .i64 0, .int .i64 0, .int .i64 0, .int .i64 0, .int .i64 0, .int .i64 0, .int .i64 0, .int .i64 0, .int .i64 0, .int .i64 0, .int .i64 0, .int .i64 0, .int .i64 0, .int .i64 0, .int .i64 0, .int .i64 0, .int .i64 0, .int .i64 0, .int .i64 0, .int .i64 0] : Array Value) 40 22 rfl)
  have hsz := HB.out.size
  replace HB := Lib.hid (HB.out.alloc hsz (.cells (#[.int .i64 0, .int .i64 0, .int .i64 0, .int .i64 0, .int .i64 0, .int .i64 0, .int .i64 0, .int .i64 0, .int .i64 0, .int .i64 0, .int .i64 0, .int .i64 0, .int .i64 0, .int .i64 0, .int .i64 0, .int .i64 0, .int .i64 0, .int .i64 0, .int .i64 0, .int .i64 0, .int .i64 0, .int .i64 0] : Array Value) 40))
  refine hK _ _ ?_
  clear hK K
  first | (obtain ⟨Zq, hZ, mZ⟩ := M5.out) | (obtain ⟨Zq, hZ, mZ⟩ := M5.out.toN (r22_size _))
  clear M5
  have hZ' := Lib.hid hZ; clear hZ
  have mZ' := Lib.hid mZ; clear mZ
  refine wpList_store_row rfl 40 _ _ rfl (uw1.heap.size) _ rfl rfl 40 Zq mZ'.out (by rw [r22_size]; kernel_rfl) (hZ'.out.trans (r22_size _).symm) (row_one _ _ _) ?_
  (try simp only [Act.put, sI, sS, sZ])
  replace M2 := Lib.hid (M2.out.setRow_other (uw1.heap.size) (r22 A1) (by omega))
  have M5 := Lib.hid (mZ'.out.setRow (r22 A1))
  clear mZ' hZ'
  replace HB := Lib.hid (below_setRow HB.out (uw1.heap.size) (r22 A1) (by omega))
  refine wpList_nil ?_
  repeat ((fail_if_success (with_reducible (show wpList _ _ _ _ _ _))); go_step)
  refine wp_region_noPanic ?_
  refine wp_region_go 99 25 #[false, false, false, false, false, false, false, false, false, false, false, false, false, false, false, false, false, false, false, false, false, false, false, false, false] (by kernel_rfl) rfl rfl ?_
  intro W2 hW2
  have kq := M2.out; rw [← hW2] at kq; clear M2; have M2 := Lib.hid kq; clear kq
  have kq := M5.out; rw [← hW2] at kq; clear M5; have M5 := Lib.hid kq; clear kq
  have kq := HB.out; rw [← hW2] at kq; clear HB; have HB := Lib.hid kq; clear kq
  clear hW2
  refine wpBut_r1 (i := 0) (by kernel_rfl) ?_
  refine go_call 0 8 #[true, false, false, false, false, false, false, false, false, false, false, false, false, false, false, false, false, false, false, false, false, false, false, false, false] rfl rfl rfl (by rfl) rfl rfl (by rfl) ent28 (by rfl) (Hal.out _) ?_
  rintro e wW21 ⟨rfl, hb⟩
  have hkW21 := held_next (below_dr W2) hb
  refine ⟨_, rfl, fun _ => hkW21, ?_⟩
  clear hb
  (try simp only [sI, sS, sZ])
  refine go_take2 1 9 #[true, true, false, false, false, false, false, false, false, false, false, false, false, false, false, false, false, false, false, false, false, false, false, false, false] (v := ?uv1) rfl rfl rfl (by kernel_rfl) (Or.inl ⟨by rfl, ?uy1⟩) (hkW21) ?urest1
  case uy1 => (intro _ _; go_simp; try with_reducible rfl)
  (try simp only [sI, sS, sZ])
  refine go_take2 2 10 #[true, true, true, false, false, false, false, false, false, false, false, false, false, false, false, false, false, false, false, false, false, false, false, false, false] rfl rfl rfl (by kernel_rfl) (yieldsIf_load_row (by rfl) 24 _ rfl (w.heap.size) rfl 24 (k32 n1) (fun _ h => M2.out.below h M2.out.lt) Try.underlying24 rfl (by rw [k32_size]; kernel_rfl)) (hkW21) ?_
  (try simp only [sI, sS, sZ])
  refine go_take2 4 12 #[true, true, true, false, true, false, false, false, false, false, false, false, false, false, false, false, false, false, false, false, false, false, false, false, false] rfl rfl rfl (by kernel_rfl) (yieldsIf_load_row (by rfl) 40 _ rfl (uw1.heap.size) rfl 40 (r22 A1) (fun _ h => M5.out.below h M5.out.lt) Try.underlying40 rfl (by rw [r22_size]; kernel_rfl)) (hkW21) ?_
  (try simp only [sI, sS, sZ])
  refine wpBut_r1 (i := 3) (by kernel_rfl) ?_
  refine go_call 3 11 #[true, true, true, true, true, false, false, false, false, false, false, false, false, false, false, false, false, false, false, false, false, false, false, false, false] rfl rfl rfl (by rfl) rfl rfl (by rfl) ent30 (by rfl) (Hf1.out _) ?_
  rintro e wW22 ⟨rfl, hb⟩
  have hkW22 := held_next hkW21 hb
  refine ⟨_, rfl, fun _ => hkW22, ?_⟩
  clear hb
  (try simp only [sI, sS, sZ])
  refine wpBut_r1 (i := 5) (by kernel_rfl) ?_
  refine go_call 5 13 #[true, true, true, true, true, true, false, false, false, false, false, false, false, false, false, false, false, false, false, false, false, false, false, false, false] rfl rfl rfl (by rfl) rfl rfl (by rfl) ent29 (by rfl) (His.out a1 A1 Hal1.out HAl1.out HA1.out.symm _) ?_
  rintro e wW23 ⟨rfl, hb⟩
  have hkW23 := held_next hkW22 hb
  refine ⟨_, rfl, fun _ => hkW23, ?_⟩
  clear hb
  (try simp only [sI, sS, sZ])
  refine go_take2 6 14 #[true, true, true, true, true, true, true, false, false, false, false, false, false, false, false, false, false, false, false, false, false, false, false, false, false] (v := ?uv2) rfl rfl rfl (by kernel_rfl) (Or.inl ⟨by rfl, ?uy2⟩) (hkW23) ?urest2
  case uy2 => (intro _ _; go_simp; try with_reducible rfl)
  (try simp only [sI, sS, sZ])
  refine go_take2 7 15 #[true, true, true, true, true, true, true, true, false, false, false, false, false, false, false, false, false, false, false, false, false, false, false, false, false] (v := ?uv3) rfl rfl rfl (by kernel_rfl) (Or.inl ⟨by rfl, ?uy3⟩) (hkW23) ?urest3
  case uy3 => (intro _ _; go_simp; try with_reducible rfl)
  (try simp only [sI, sS, sZ])
  refine go_take2 8 16 #[true, true, true, true, true, true, true, true, true, false, false, false, false, false, false, false, false, false, false, false, false, false, false, false, false] (v := ?uv4) rfl rfl rfl (by kernel_rfl) (Or.inl ⟨by rfl, ?uy4⟩) (hkW23) ?urest4
  case uy4 => (intro _ _; go_simp; try with_reducible rfl)
  (try simp only [sI, sS, sZ])
  refine go_take2 10 18 #[true, true, true, true, true, true, true, true, true, false, true, false, false, false, false, false, false, false, false, false, false, false, false, false, false] (v := ?uv5) rfl rfl rfl (by kernel_rfl) (Or.inl ⟨by rfl, ?uy5⟩) (hkW23) ?urest5
  case uy5 => (intro _ _; go_simp; try with_reducible rfl)
  (try simp only [sI, sS, sZ])
  refine wpBut_r1 (i := 9) (by kernel_rfl) ?_
  refine go_call 9 17 #[true, true, true, true, true, true, true, true, true, true, true, false, false, false, false, false, false, false, false, false, false, false, false, false, false] rfl rfl rfl (by rfl) rfl rfl (by rfl) ent34 (by rfl) (Hfi.out _) ?_
  rintro e wW24 ⟨m, hm, hmr, rfl, hb⟩
  have hkW24 := held_next hkW23 hb
  refine ⟨_, rfl, fun _ => hkW24, ?_⟩
  clear hb
  (try simp only [sI, sS, sZ])
  refine wpBut_r1 (i := 11) (by kernel_rfl) ?_
  refine go_call 11 19 #[true, true, true, true, true, true, true, true, true, true, true, true, false, false, false, false, false, false, false, false, false, false, false, false, false] rfl rfl rfl (by rfl) rfl rfl (by rfl) ent35 (by rfl) (Hri.out _) ?_
  rintro e wW25 ⟨rfl, hb⟩
  have hkW25 := held_next hkW24 hb
  refine ⟨_, rfl, fun _ => hkW25, ?_⟩
  clear hb
  (try simp only [sI, sS, sZ])
  refine wpBut_r1 (i := 12) (by kernel_rfl) ?_
  refine go_call 12 20 #[true, true, true, true, true, true, true, true, true, true, true, true, true, false, false, false, false, false, false, false, false, false, false, false, false] rfl rfl rfl (by rfl) rfl rfl (by rfl) ent29 (by rfl) (His.out m ri hm Hrl.out hmr _) ?_
  rintro e wW26 ⟨rfl, hb⟩
  have hkW26 := held_next hkW25 hb
  refine ⟨_, rfl, fun _ => hkW26, ?_⟩
  clear hb
  (try simp only [sI, sS, sZ])
  refine go_take2 13 21 #[true, true, true, true, true, true, true, true, true, true, true, true, true, true, false, false, false, false, false, false, false, false, false, false, false] (v := ?uv6) rfl rfl rfl (by kernel_rfl) (Or.inl ⟨by rfl, ?uy6⟩) (hkW26) ?urest6
  case uy6 => (intro _ _; go_simp; try with_reducible rfl)
  (try simp only [sI, sS, sZ])
  refine go_take2 14 22 #[true, true, true, true, true, true, true, true, true, true, true, true, true, true, true, false, false, false, false, false, false, false, false, false, false] (v := ?uv7) rfl rfl rfl (by kernel_rfl) (Or.inl ⟨by rfl, ?uy7⟩) (hkW26) ?urest7
  case uy7 => (intro _ _; go_simp; try with_reducible rfl)
  (try simp only [sI, sS, sZ])
  refine go_take2 15 23 #[true, true, true, true, true, true, true, true, true, true, true, true, true, true, true, true, false, false, false, false, false, false, false, false, false] rfl rfl rfl (by kernel_rfl) (yieldsIf_load_row (by rfl) 24 _ rfl (w.heap.size) rfl 24 (k32 n1) (fun _ h => M2.out.below h M2.out.lt) Try.underlying24 rfl (by rw [k32_size]; kernel_rfl)) (hkW26) ?_
  (try simp only [sI, sS, sZ])
  refine go_take2 18 26 #[true, true, true, true, true, true, true, true, true, true, true, true, true, true, true, true, false, false, true, false, false, false, false, false, false] (v := ?uv8) rfl rfl rfl (by kernel_rfl) (Or.inl ⟨by rfl, ?uy8⟩) (hkW26) ?urest8
  case uy8 => (intro _ _; go_simp; try with_reducible rfl)
  (try simp only [sI, sS, sZ])
  refine go_take2 19 27 #[true, true, true, true, true, true, true, true, true, true, true, true, true, true, true, true, false, false, true, true, false, false, false, false, false] (v := ?uv9) rfl rfl rfl (by kernel_rfl) (Or.inl ⟨by rfl, ?uy9⟩) (hkW26) ?urest9
  case uy9 =>
    intro ww hS
    have hc := (M5.out.below hS M5.out.lt).cell 0 (by omega)
    rw [← Hz.out] at hc
    go_simp
    try with_reducible rfl
  (try simp only [sI, sS, sZ])
  refine go_take2 20 28 #[true, true, true, true, true, true, true, true, true, true, true, true, true, true, true, true, false, false, true, true, true, false, false, false, false] (v := ?uv10) rfl rfl rfl (by kernel_rfl) (Or.inl ⟨by rfl, ?uy10⟩) (hkW26) ?urest10
  case uy10 => (intro _ _; go_simp; try with_reducible rfl)
  (try simp only [sI, sS, sZ])
  refine go_take2 21 29 #[true, true, true, true, true, true, true, true, true, true, true, true, true, true, true, true, false, false, true, true, true, true, false, false, false] (v := ?uv11) rfl rfl rfl (by kernel_rfl) (Or.inl ⟨by rfl, ?uy11⟩) (hkW26) ?urest11
  case uy11 => (intro _ _; go_simp; try with_reducible rfl)
  (try simp only [sI, sS, sZ])
  refine wpBut_r1 (i := 16) (by kernel_rfl) ?_
  refine go_call 16 24 #[true, true, true, true, true, true, true, true, true, true, true, true, true, true, true, true, true, false, true, true, true, true, false, false, false] rfl rfl rfl (by rfl) rfl rfl (by rfl) ent30 (by rfl) (Hf1.out _) ?_
  rintro e wW27 ⟨rfl, hb⟩
  have hkW27 := held_next hkW26 hb
  refine ⟨_, rfl, fun _ => hkW27, ?_⟩
  clear hb
  (try simp only [sI, sS, sZ])
  refine wpBut_r1 (i := 17) (by kernel_rfl) ?_
  refine go_call 17 25 #[true, true, true, true, true, true, true, true, true, true, true, true, true, true, true, true, true, true, true, true, true, true, false, false, false] rfl rfl rfl (by rfl) rfl rfl (by rfl) ent36 (by rfl) (Hev.out _) ?_
  rintro e wW28 ⟨rfl, hb⟩
  have hkW28 := held_next hkW27 hb
  refine ⟨_, rfl, fun _ => hkW28, ?_⟩
  clear hb
  (try simp only [sI, sS, sZ])
  refine go_take2 22 30 #[true, true, true, true, true, true, true, true, true, true, true, true, true, true, true, true, true, true, true, true, true, true, true, false, false] (v := ?uv12) rfl rfl rfl (by kernel_rfl) (Or.inl ⟨by rfl, ?uy12⟩) (hkW28) ?urest12
  case uy12 => (intro _ _; go_simp; try with_reducible rfl)
  (try simp only [sI, sS, sZ])
  refine go_take2 23 31 #[true, true, true, true, true, true, true, true, true, true, true, true, true, true, true, true, true, true, true, true, true, true, true, true, false] (v := ?uv13) rfl rfl rfl (by kernel_rfl) (Or.inl ⟨by rfl, ?uy13⟩) (hkW28) ?urest13
  case uy13 => (intro _ _; go_simp; try with_reducible rfl)
  (try simp only [sI, sS, sZ])
  refine go_take2 24 4 #[true, true, true, true, true, true, true, true, true, true, true, true, true, true, true, true, true, true, true, true, true, true, true, true, true] (v := ?uv14) rfl rfl rfl (by kernel_rfl) (Or.inl ⟨by rfl, ?uy14⟩) (hkW28) ?urest14
  case uy14 => (intro _ _; go_simp; try with_reducible rfl)
  (try simp only [sI, sS, sZ])
  refine wpBut_done (by kernel_rfl) (NoPanic.normal ?_)
  replace M2 := Lib.hid (M2.out.call hkW28)
  replace M5 := Lib.hid (M5.out.call hkW28)
  replace HB := Lib.hid (held_next HB.out hkW28)
  go_wp2_with fail
  go_ret
  exact ⟨rfl, HB.out⟩
end Go.Proofs.Ytjiagjonlcadiaa
