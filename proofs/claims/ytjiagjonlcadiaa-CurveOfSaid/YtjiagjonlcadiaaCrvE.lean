/- The program's points: Of. -/
import Derived.Test.YtjiagjonlcadiaaCrvD
namespace Go.Proofs.Ytjiagjonlcadiaa
open Go.RowKit Go.Lib

theorem and_128 (a : Nat) (h : a < 256) : bits .and .u8 (a : Int) 128 = ((a / 128 * 128 : Nat) : Int) := by
  have : (List.range 256).all (fun a => bits .and .u8 (a : Int) 128 == ((a / 128 * 128 : Nat) : Int)) = true := by decide +kernel
  simpa using List.all_eq_true.1 this a (by simpa using h)
theorem andn_128 (a : Nat) (h : a < 256) : bits .andNot .u8 (a : Int) 128 = ((a % 128 : Nat) : Int) := by
  have : (List.range 256).all (fun a => bits .andNot .u8 (a : Int) 128 == ((a % 128 : Nat) : Int)) = true := by decide +kernel
  simpa using List.all_eq_true.1 this a (by simpa using h)
theorem dg31_any (n : Nat) (h : n < 115792089237316195423570985008687907853269984665640564039457584007913129639936) : ∃ c : Nat, dg 256 n 31 = (c : Int) ∧ c < 256 ∧ c / 128 = n / 57896044618658097711785492504343953926634992332820282019728792003956564819968 ∧ c = n / 256 ^ 31 % 256 := by
  refine ⟨n / 256 ^ 31 % 256, rfl, Nat.mod_lt _ (by decide), ?_, rfl⟩
  rw [show (256 : Nat) ^ 31 = 452312848583266388373324160190187140051835877600158453279131187530910662656 by decide +kernel]
  omega
theorem key_clear (n c : Nat) (hc : c = n / 256 ^ 31 % 256) (x : Int) (hx : x = ((c % 128 : Nat) : Int)) : row .u8 32 (upd (dg 256 n) 31 x) = k32 (n % 57896044618658097711785492504343953926634992332820282019728792003956564819968) := by
  refine row_ext _ _ _ _ fun i hi => ?_
  have e31 : (256 : Nat) ^ 31 = 452312848583266388373324160190187140051835877600158453279131187530910662656 := by decide +kernel
  by_cases e : i = 31
  · subst e
    rw [upd_same, hx, hc]
    unfold dg
    rw [e31]
    omega
  · rw [upd_ne _ _ _ _ e]
    unfold dg
    have e1 : 57896044618658097711785492504343953926634992332820282019728792003956564819968 = 256 ^ i * (256 * (128 * 256 ^ (30 - i))) := by
      rw [show 256 ^ i * (256 * (128 * 256 ^ (30 - i))) = 128 * (256 ^ i * 256 ^ (30 - i) * 256) by ac_rfl, ← Nat.pow_add, show i + (30 - i) = 30 by omega]
    rw [e1, Nat.mod_mul, Nat.add_mul_div_left _ _ (Nat.pow_pos (by omega)), Nat.mod_mul, Nat.div_eq_of_lt (Nat.mod_lt n (Nat.pow_pos (by omega) : 0 < 256 ^ i)), Nat.zero_add, Nat.add_mul_mod_self_left, Nat.mod_mod]
/-- is a text a point's, and which -/
def cof (n : Nat) : Bool × Nat × Nat := if n % 57896044618658097711785492504343953926634992332820282019728792003956564819968 < PP then bes (cx (n % 57896044618658097711785492504343953926634992332820282019728792003956564819968)) (decide (n / 57896044618658097711785492504343953926634992332820282019728792003956564819968 = 0)) (n % 57896044618658097711785492504343953926634992332820282019728792003956564819968) else (false, 0, 1)
theorem cof_yes (n : Nat) (h : n % 57896044618658097711785492504343953926634992332820282019728792003956564819968 < PP) : cof n = bes (cx (n % 57896044618658097711785492504343953926634992332820282019728792003956564819968)) (decide (n / 57896044618658097711785492504343953926634992332820282019728792003956564819968 = 0)) (n % 57896044618658097711785492504343953926634992332820282019728792003956564819968) := by unfold cof; rw [if_pos h]
theorem cof_no (n : Nat) (h : ¬ n % 57896044618658097711785492504343953926634992332820282019728792003956564819968 < PP) : cof n = (false, 0, 1) := by unfold cof; rw [if_neg h]
theorem even_bit (c q : Nat) (h : c / 128 = q) : (((c / 128 * 128 : Nat) : Int) == 0) = decide (q = 0) := by
  rw [← h]
  by_cases h0 : c / 128 = 0
  · rw [h0]; rfl
  · rw [decide_eq_false h0]
    exact beq_eq_false_iff_ne.2 (by omega)
theorem m255_lt (n : Nat) : n % 57896044618658097711785492504343953926634992332820282019728792003956564819968 < 115792089237316195423570985008687907853269984665640564039457584007913129639936 := by omega
theorem m255_m (n : Nat) : n % 57896044618658097711785492504343953926634992332820282019728792003956564819968 % 57896044618658097711785492504343953926634992332820282019728792003956564819968 = n % 57896044618658097711785492504343953926634992332820282019728792003956564819968 := Nat.mod_mod _ _

set_option maxRecDepth 100000 in
set_option linter.unusedSimpArgs false in
set_option maxHeartbeats 8000000 in
theorem pof_any (n : Nat) (hn : n < 115792089237316195423570985008687907853269984665640564039457584007913129639936) (w : World) : Calls Try.prog 47 #[.agg (k32 n)] w (BeP (cof n) w) := by
  obtain ⟨c, hc, hcl, hcq, hcd⟩ := dg31_any n hn
  have hand := and_128 c hcl
  have handn := andn_128 c hcl
  have hclr := key_clear n c hcd ((c % 128 : Nat) : Int) rfl
  have hyes := cof_yes n
  have hno := cof_no n
  obtain ⟨ev, hev⟩ : ∃ b, b = decide (n / 57896044618658097711785492504343953926634992332820282019728792003956564819968 = 0) := ⟨_, rfl⟩
  have hbit := even_bit c _ hcq
  rw [← hev] at hyes hbit
  have hl0 := m255_lt n
  have hmm := m255_m n
  obtain ⟨n0, hn0⟩ : ∃ m, m = n % 57896044618658097711785492504343953926634992332820282019728792003956564819968 := ⟨_, rfl⟩
  rw [← hn0] at hclr hyes hno hl0 hmm
  have hfo := fun w => fof_a n0 n0 hl0 hmm.symm w
  have hkey := fun w => key_any n0 hl0 w
  have hbe := fun w => beside_any n0 ev hl0 w
  obtain ⟨c1, hc1⟩ : ∃ c1 : Nat, c1 = c / 128 * 128 := ⟨_, rfl⟩
  obtain ⟨c2, hc2⟩ : ∃ c2 : Nat, c2 = c % 128 := ⟨_, rfl⟩
  rw [← hc1] at hand hbit
  rw [← hc2] at handn hclr
  obtain ⟨R, hR⟩ : ∃ R, R = cof n := ⟨_, rfl⟩
  rw [← hR] at hyes hno ⊢
  clear hR hc1 hc2 hn0 hmm hev hcq hcd
  have Hclr := Lib.hid hclr; clear hclr
  have Hyes := Lib.hid hyes; clear hyes
  have Hno := Lib.hid hno; clear hno
  have Hfo := Lib.hid hfo; clear hfo
  have Hkey := Lib.hid hkey; clear hkey
  have Hbe := Lib.hid hbe; clear hbe
  have Hc := Lib.hid hc; clear hc
  have Hl0 := Lib.hid hl0; clear hl0
  go_enter Try.func47, Try.ntmps47
  repeat ((fail_if_success (with_reducible (show wpList _ _ _ _ _ _))); go_step)
  refine wpList_step (fun K hK => ?_)
  go_simp
  (try go_bits)
  refine hK _ _ ?_
  clear hK K
  refine wpList_step (fun K hK => ?_)
  go_simp
  (try go_bits)
  refine hK _ _ ?_
  clear hK K
  refine wpList_step (fun K hK => ?_)
  go_simp
  (try go_bits)
  refine hK _ _ ?_
  clear hK K
  refine wpList_nil ?_
  have M1 := Lib.hid ((Has.new w  (k32 n) 24).alloc (.cells (#[.int .u64 0, .int .u64 0, .int .u64 0, .int .u64 0, .int .u64 0, .int .u64 0, .int .u64 0, .int .u64 0, .int .u64 0, .int .u64 0, .int .u64 0, .int .u64 0, .bool false] : Array Value) 53))
  have M2 := Lib.hid (HasN.new1 w (.cells (k32 n) 24) (#[.int .u64 0, .int .u64 0, .int .u64 0, .int .u64 0, .int .u64 0, .int .u64 0, .int .u64 0, .int .u64 0, .int .u64 0, .int .u64 0, .int .u64 0, .int .u64 0, .bool false] : Array Value) 53 13 (by kernel_rfl))
  have HB := Lib.hid (below_2 w (.cells (k32 n) 24) (.cells (#[.int .u64 0, .int .u64 0, .int .u64 0, .int .u64 0, .int .u64 0, .int .u64 0, .int .u64 0, .int .u64 0, .int .u64 0, .int .u64 0, .int .u64 0, .int .u64 0, .bool false] : Array Value) 53))
  obtain ⟨yw1, hwyw1⟩ : ∃ ww, ww = ((w.alloc (.cells (k32 n) 24)).alloc (.cells (#[.int .u64 0, .int .u64 0, .int .u64 0, .int .u64 0, .int .u64 0, .int .u64 0, .int .u64 0, .int .u64 0, .int .u64 0, .int .u64 0, .int .u64 0, .int .u64 0, .bool false] : Array Value) 53)) := ⟨_, rfl⟩
  rw [← hwyw1] at M1 M2 HB ⊢
  clear hwyw1
  have h1 := M1.out.cell 31 (by omega)
  rw [Hc.out] at h1
  have hfz := M1.out.frozen 31
  repeat ((fail_if_success (with_reducible (show wpList _ _ _ _ _ _))); go_step)
  refine wpList_step (fun K hK => ?_)
  go_simp
  (try go_bits)
  refine hK _ _ ?_
  clear hK K
  refine wpList_step (fun K hK => ?_)
  go_simp
  (try go_bits)
  refine hK _ _ ?_
  clear hK K
  refine wpList_step (fun K hK => ?_)
  go_simp
  (try go_bits)
  refine hK _ _ ?_
  clear hK K
  refine wpList_step (fun K hK => ?_)
  go_simp
  (try go_bits)
  refine hK _ _ ?_
  clear hK K
  refine wpList_step (fun K hK => ?_)
  go_simp
  (try go_bits)
  refine hK _ _ ?_
  clear hK K
  refine wpList_nil ?_
  repeat ((fail_if_success (with_reducible (show wpList _ _ _ _ _ _))); go_step)
  refine wpList_step (fun K hK => ?_)
  go_simp
  (try go_bits)
  refine hK _ _ ?_
  clear hK K
  refine wpList_step (fun K hK => ?_)
  go_simp
  (try go_bits)
  refine hK _ _ ?_
  clear hK K
  refine wpList_step (fun K hK => ?_)
  go_simp
  (try go_bits)
  refine hK _ _ ?_
  clear hK K
  refine wpList_step (fun K hK => ?_)
  go_simp
  (try go_bits)
  refine hK _ _ ?_
  clear hK K
  refine wpList_step (fun K hK => ?_)
  go_simp
  (try go_bits)
  refine hK _ _ ?_
  clear hK K
  refine wpList_nil ?_
  clear h1 hfz
  have kq := M1.out.set 31 ((c2 : Int)); rw [Hclr.out] at kq; clear M1; have M1 := Lib.hid kq; clear kq
  have kq := M2.out.other ⟨w.heap.size, 31, none⟩ (.int .u8 ((c2 : Int))) (by simp <;> omega); clear M2; have M2 := Lib.hid kq; clear kq
  replace HB := Lib.hid (HB.out.setCell (p := ⟨w.heap.size, 31, none⟩) (show w.heap.size ≤ w.heap.size by omega) (.int .u8 ((c2 : Int))))
  obtain ⟨yw2, hwyw2⟩ : ∃ ww, ww = yw1.setCell ⟨w.heap.size, 31, none⟩ (.int .u8 ((c2 : Int))) := ⟨_, rfl⟩
  rw [← hwyw2] at M1 M2 HB ⊢
  clear hwyw2
  clear hand handn hbit hcl
  repeat ((fail_if_success (with_reducible (show wpList _ _ _ _ _ _))); go_step)
  refine wpList_load (by rfl) 24 _ rfl (w.heap.size) rfl 24 (k32 n0) M1.out Try.underlying24 rfl (by rw [k32_size]; kernel_rfl) 14 rfl ?_
  (try simp only [Act.put, sI, sS, sZ])
  refine wpList_call (by rfl) rfl rfl (by rfl) ent30 (by rfl) (Hfo.out _) 15 rfl ?_
  rintro e uw1 ⟨rfl, hb⟩
  replace M1 := Lib.hid (M1.out.call hb)
  replace M2 := Lib.hid (M2.out.call hb)
  replace HB := Lib.hid (held_next HB.out hb)
  refine ⟨_, rfl, ?_⟩
  clear hb
  (try simp only [Act.put, sI, sS, sZ])
  refine wpList_alloc (by rfl) 36 rfl _ al36 5 rfl ?_
  intro yw3 hw2
  have hlt4 := M1.out.lt
  have hlt5 := M2.out.lt
  have hsz := HB.out.size
  have kq := M1.out.alloc (.cells z36 36); rw [← hw2] at kq; clear M1; have M1 := Lib.hid kq; clear kq
  have kq := M2.out.alloc (.cells z36 36); rw [← hw2] at kq; clear M2; have M2 := Lib.hid kq; clear kq
  have kq := HasN.new uw1 z36 36 4 (by kernel_rfl); rw [← hw2] at kq; have M5 := Lib.hid kq; clear kq
  have kq := HB.out.alloc hsz (.cells z36 36); rw [← hw2] at kq; clear HB; have HB := Lib.hid kq; clear kq hw2
  (try simp only [Act.put, sI, sS, sZ])
  first | (obtain ⟨Zq, hZ, mZ⟩ := M5.out) | (obtain ⟨Zq, hZ, mZ⟩ := M5.out.toN (e4_size ..))
  refine wpList_store2 (by rfl) 36 _ _ rfl rfl (uw1.heap.size) (e4 n0) rfl rfl 36 Zq mZ (by rw [e4_size]; kernel_rfl) (hZ.trans (e4_size ..).symm) (row_one _ _ _) ?_
  intro yw6 hw2
  have kq := M1.out.setRow_other (uw1.heap.size) (e4 n0) (by omega); rw [← hw2] at kq; clear M1; have M1 := Lib.hid kq; clear kq
  have kq := M2.out.setRow_other (uw1.heap.size) (e4 n0) (by omega); rw [← hw2] at kq; clear M2; have M2 := Lib.hid kq; clear kq
  have kq := mZ.setRow (e4 n0); rw [← hw2] at kq; clear M5; have M5 := Lib.hid kq; clear kq mZ hZ
  have kq := below_setRow HB.out (uw1.heap.size) (e4 n0) (by omega); rw [← hw2] at kq; clear HB; have HB := Lib.hid kq; clear kq hw2
  refine wpList_nil ?_
  repeat ((fail_if_success (with_reducible (show wpList _ _ _ _ _ _))); go_step)
  by_cases hlt : n0 < PP
  · have hm := Nat.mod_eq_of_lt hlt
    have hk2 := Hkey.out
    rw [hm] at hk2
    have heq := fun w => k32_same n0 Hl0.out w
    have hb2 := Hbe.out
    rw [hm] at hb2
    have hR := Hyes.out hlt
    rw [← hR] at hb2
    clear hm hR
    have Hk2 := Lib.hid hk2; clear hk2
    have Hb2 := Lib.hid hb2; clear hb2
    refine wp_region_noPanic ?_
    refine wp_region_go 99 4 #[false, false, false, false] (by kernel_rfl) rfl rfl ?_
    intro W7 hW7
    have kq := M1.out; rw [← hW7] at kq; clear M1; have M1 := Lib.hid kq; clear kq
    have kq := M2.out; rw [← hW7] at kq; clear M2; have M2 := Lib.hid kq; clear kq
    have kq := M5.out; rw [← hW7] at kq; clear M5; have M5 := Lib.hid kq; clear kq
    have kq := HB.out; rw [← hW7] at kq; clear HB; have HB := Lib.hid kq; clear kq
    clear hW7
    refine go_take2 0 16 #[true, false, false, false] rfl rfl rfl (by kernel_rfl) (yieldsIf_load_row (by rfl) 36 _ rfl (uw1.heap.size) rfl 36 (e4 n0) (fun _ h => M5.out.below h M5.out.lt) Try.underlying36 rfl (by rw [e4_size]; kernel_rfl)) ((below_dr W7)) ?_
    (try simp only [sI, sS, sZ])
    refine go_take2 2 18 #[true, false, true, false] rfl rfl rfl (by kernel_rfl) (yieldsIf_load_row (by rfl) 24 _ rfl (w.heap.size) rfl 24 (k32 n0) (fun _ h => M1.out.below h M1.out.lt) Try.underlying24 rfl (by rw [k32_size]; kernel_rfl)) ((below_dr W7)) ?_
    (try simp only [sI, sS, sZ])
    refine wpBut_r1 (i := 1) (by kernel_rfl) ?_
    refine go_call 1 17 #[true, true, true, false] rfl rfl rfl (by rfl) rfl rfl (by rfl) ent73 (by rfl) (Hk2.out _) ?_
    rintro e wW71 ⟨rfl, hb⟩
    have hkW71 := held_next (below_dr W7) hb
    refine ⟨_, rfl, fun _ => hkW71, ?_⟩
    clear hb
    (try simp only [sI, sS, sZ])
    refine go_take2 3 19 #[true, true, true, true] (v := ?uv1) rfl rfl rfl (by kernel_rfl) (Or.inl ⟨by rfl, ?uy1⟩) (hkW71) ?urest1
    case uy1 => (intro _ _; go_simp; try with_reducible rfl)
    (try simp only [sI, sS, sZ])
    refine wpBut_done (by kernel_rfl) (NoPanic.normal ?_)
    replace M1 := Lib.hid (M1.out.call hkW71)
    replace M2 := Lib.hid (M2.out.call hkW71)
    replace M5 := Lib.hid (M5.out.call hkW71)
    replace HB := Lib.hid (held_next HB.out hkW71)
    clear heq
    repeat ((fail_if_success (with_reducible (show wpList _ _ _ _ _ _))); go_step)
    refine wpList_load (by rfl) 36 _ rfl (uw1.heap.size) rfl 36 (e4 n0) M5.out Try.underlying36 rfl (by rw [e4_size]; kernel_rfl) 21 rfl ?_
    (try simp only [Act.put, sI, sS, sZ])
    refine wpList_step (fun K hK => ?_)
    go_simp
    (try go_bits)
    refine hK _ _ ?_
    clear hK K
    refine wpList_call (by rfl) rfl rfl (by rfl) ent87 (by rfl) (Hb2.out _) 23 rfl ?_
    rintro e uw2 ⟨px, py, pz, pb, hpt, rfl, hb⟩
    replace M1 := Lib.hid (M1.out.call hb)
    replace M2 := Lib.hid (M2.out.call hb)
    replace M5 := Lib.hid (M5.out.call hb)
    replace HB := Lib.hid (held_next HB.out hb)
    refine ⟨_, rfl, ?_⟩
    clear hb
    (try simp only [Act.put, sI, sS, sZ])
    refine wpList_step (fun K hK => ?_)
    go_simp
    (try go_bits)
    refine hK _ _ ?_
    clear hK K
    refine wpList_step (fun K hK => ?_)
    go_simp
    (try go_bits)
    refine hK _ _ ?_
    clear hK K
    first | (obtain ⟨Zq, hZ, mZ⟩ := M2.out) | (obtain ⟨Zq, hZ, mZ⟩ := M2.out.toN (pt_size ..))
    refine wpList_store2 (by rfl) 53 _ _ rfl rfl (w.heap.size + 1) (pt px py pz pb) rfl rfl 53 Zq mZ (by rw [pt_size]; kernel_rfl) (hZ.trans (pt_size ..).symm) (pt_one _ _ _ _) ?_
    intro yw8 hw2
    have kq := M1.out.setRow_other (w.heap.size + 1) (pt px py pz pb) (by omega); rw [← hw2] at kq; clear M1; have M1 := Lib.hid kq; clear kq
    have kq := M5.out.setRow_other (w.heap.size + 1) (pt px py pz pb) (by omega); rw [← hw2] at kq; clear M5; have M5 := Lib.hid kq; clear kq
    have kq := mZ.setRow (pt px py pz pb); rw [← hw2] at kq; clear M2; have M2 := Lib.hid kq; clear kq mZ hZ
    have kq := below_setRow HB.out (w.heap.size + 1) (pt px py pz pb) (by omega); rw [← hw2] at kq; clear HB; have HB := Lib.hid kq; clear kq hw2
    refine wpList_step (fun K hK => ?_)
    go_simp
    (try go_bits)
    refine hK _ _ ?_
    clear hK K
    refine wpList_nil ?_
    go_wp2_with fail
    exact bodyPost_ret (v := .tuple #[.agg (pt px py pz pb), .bool R.1]) (results_cell_tmp_row (fn := Try.f47) (p := 2) (t2 := 3) (ty := 53) (t := 53) (by rfl) _ _ (w.heap.size + 1) _ _ _ rfl M2.out Try.underlying53 rfl (by rw [pt_size]; kernel_rfl)) rfl ⟨px, py, pz, pb, hpt, rfl, HB.out⟩
  · have hne : ¬ n0 % PP = n0 := by
      have := Nat.mod_lt n0 PP_pos
      omega
    have heq := fun w => k32_eq (n0 % PP) n0 (modPP_lt n0) Hl0.out w
    rw [decide_eq_false hne] at heq
    obtain ⟨r, hr⟩ : ∃ r, r = n0 % PP := ⟨_, rfl⟩
    have hk2 := Hkey.out
    rw [← hr] at hk2 heq
    have hR := Hno.out hlt
    clear hr hne
    have Hk2 := Lib.hid hk2; clear hk2
    have HR := Lib.hid hR; clear hR
    refine wp_region_noPanic ?_
    refine wp_region_go 99 4 #[false, false, false, false] (by kernel_rfl) rfl rfl ?_
    intro W7 hW7
    have kq := M1.out; rw [← hW7] at kq; clear M1; have M1 := Lib.hid kq; clear kq
    have kq := M2.out; rw [← hW7] at kq; clear M2; have M2 := Lib.hid kq; clear kq
    have kq := M5.out; rw [← hW7] at kq; clear M5; have M5 := Lib.hid kq; clear kq
    have kq := HB.out; rw [← hW7] at kq; clear HB; have HB := Lib.hid kq; clear kq
    clear hW7
    refine go_take2 0 16 #[true, false, false, false] rfl rfl rfl (by kernel_rfl) (yieldsIf_load_row (by rfl) 36 _ rfl (uw1.heap.size) rfl 36 (e4 n0) (fun _ h => M5.out.below h M5.out.lt) Try.underlying36 rfl (by rw [e4_size]; kernel_rfl)) ((below_dr W7)) ?_
    (try simp only [sI, sS, sZ])
    refine go_take2 2 18 #[true, false, true, false] rfl rfl rfl (by kernel_rfl) (yieldsIf_load_row (by rfl) 24 _ rfl (w.heap.size) rfl 24 (k32 n0) (fun _ h => M1.out.below h M1.out.lt) Try.underlying24 rfl (by rw [k32_size]; kernel_rfl)) ((below_dr W7)) ?_
    (try simp only [sI, sS, sZ])
    refine wpBut_r1 (i := 1) (by kernel_rfl) ?_
    refine go_call 1 17 #[true, true, true, false] rfl rfl rfl (by rfl) rfl rfl (by rfl) ent73 (by rfl) (Hk2.out _) ?_
    rintro e wW71 ⟨rfl, hb⟩
    have hkW71 := held_next (below_dr W7) hb
    refine ⟨_, rfl, fun _ => hkW71, ?_⟩
    clear hb
    (try simp only [sI, sS, sZ])
    refine go_take2 3 19 #[true, true, true, true] (v := ?uv2) rfl rfl rfl (by kernel_rfl) (Or.inl ⟨by rfl, ?uy2⟩) (hkW71) ?urest2
    case uy2 => (intro _ _; go_simp; try with_reducible rfl)
    (try simp only [sI, sS, sZ])
    refine wpBut_done (by kernel_rfl) (NoPanic.normal ?_)
    replace M1 := Lib.hid (M1.out.call hkW71)
    replace M2 := Lib.hid (M2.out.call hkW71)
    replace M5 := Lib.hid (M5.out.call hkW71)
    replace HB := Lib.hid (held_next HB.out hkW71)
    clear heq
    repeat ((fail_if_success (with_reducible (show wpList _ _ _ _ _ _))); go_step)
    refine wpList_built (by rfl) 53 _ rfl _ (by rfl) (pt 0 0 0 false) (bd53z) 20 rfl ?_
    (try simp only [Act.put, sI, sS, sZ])
    first | (obtain ⟨Zq, hZ, mZ⟩ := M2.out) | (obtain ⟨Zq, hZ, mZ⟩ := M2.out.toN (pt_size ..))
    refine wpList_store2 (by rfl) 53 _ _ rfl rfl (w.heap.size + 1) (pt 0 0 0 false) rfl rfl 53 Zq mZ (by rw [pt_size]; kernel_rfl) (hZ.trans (pt_size ..).symm) (pt_one _ _ _ _) ?_
    intro yw8 hw2
    have kq := M1.out.setRow_other (w.heap.size + 1) (pt 0 0 0 false) (by omega); rw [← hw2] at kq; clear M1; have M1 := Lib.hid kq; clear kq
    have kq := M5.out.setRow_other (w.heap.size + 1) (pt 0 0 0 false) (by omega); rw [← hw2] at kq; clear M5; have M5 := Lib.hid kq; clear kq
    have kq := mZ.setRow (pt 0 0 0 false); rw [← hw2] at kq; clear M2; have M2 := Lib.hid kq; clear kq mZ hZ
    have kq := below_setRow HB.out (w.heap.size + 1) (pt 0 0 0 false) (by omega); rw [← hw2] at kq; clear HB; have HB := Lib.hid kq; clear kq hw2
    refine wpList_step (fun K hK => ?_)
    go_simp
    (try go_bits)
    refine hK _ _ ?_
    clear hK K
    refine wpList_nil ?_
    go_wp2_with fail
    exact bodyPost_ret (v := .tuple #[.agg (pt 0 0 0 false), .bool false]) (results_cell_tmp_row (fn := Try.f47) (p := 2) (t2 := 3) (ty := 53) (t := 53) (by rfl) _ _ (w.heap.size + 1) _ _ _ rfl M2.out Try.underlying53 rfl (by rw [pt_size]; kernel_rfl)) rfl ⟨0, 0, 0, false, by rw [HR.out]; exact ⟨⟨by decide, by decide, by decide⟩, .inr ⟨rfl, by rw [Nat.zero_mod], by rw [one_PP], rfl⟩⟩, by rw [HR.out], HB.out⟩
end Go.Proofs.Ytjiagjonlcadiaa
