/- Chapter 04: points are a group, without the document's answer. For all three keys the law returns true. -/
import Derived.Test.YtjiagjonlcadiaaCg2
section
namespace Go.Proofs.Ytjiagjonlcadiaa
open Go.RowKit Go.Lib

/-- the square of x at a y -/
def cx (Y : Nat) : Nat := (Y * Y % PP + (PP - 1)) % PP * pwm ((SL * (Y * Y % PP) % PP + 1) % PP) (PP - 2) % PP
/-- is there a point, and its x and y -/
def bes (C : Nat) (even : Bool) (Y : Nat) : Bool × Nat × Nat :=
  if rtok C = true ∧ ¬ (rt3 C = 0 ∧ even = false) then (true, (if even = true then rt3 C else (0 % PP + (PP - rt3 C)) % PP), Y) else (false, 0, 1)
theorem bes_no1 (C : Nat) (even : Bool) (Y : Nat) (h : rtok C = false) : bes C even Y = (false, 0, 1) := by
  unfold bes; rw [if_neg (by rw [h]; simp)]
theorem bes_no2 (C : Nat) (Y : Nat) (h : rt3 C = 0) : bes C false Y = (false, 0, 1) := by
  unfold bes; rw [if_neg (by simp [h])]
theorem bes_even (C : Nat) (Y : Nat) (h : rtok C = true) : bes C true Y = (true, rt3 C, Y) := by
  unfold bes; rw [if_pos ⟨h, by simp⟩, if_pos rfl]
theorem bes_odd (C : Nat) (Y : Nat) (h : rtok C = true) (h0 : ¬ rt3 C = 0) : bes C false Y = (true, (0 % PP + (PP - rt3 C)) % PP, Y) := by
  unfold bes; rw [if_pos ⟨h, fun hh => h0 hh.1⟩, if_neg (by simp)]
/-- a point of the answer r, and whether there is one -/
def BeP (r : Bool × Nat × Nat) (w : World) (e : Ending) (w' : World) : Prop :=
  ∃ (x y z1 : Nat) (b : Bool), IsPt x y z1 b r.2.1 r.2.2 (1 % PP) ∧ e = .returned (.tuple #[.agg (pt x y z1 b), .bool r.1]) ∧ Below w.heap.size w w'
theorem one_PP : 1 % PP = 1 := Nat.mod_eq_of_lt (by have := PP_val; omega)
theorem cx_res (y s n1 n2 n3 n4 n5 : Nat) (hs : s % PP = y * y % PP) (h1 : n1 % PP = (s % PP + (PP - 1 % PP)) % PP) (h2 : n2 % PP = SL) (h3 : n3 % PP = n2 * s % PP) (h4 : n4 % PP = (n3 + 1) % PP) (h5 : n5 % PP = n1 * pwm n4 (PP - 2) % PP) : n5 % PP = cx (y % PP) := by
  unfold cx
  have hy : y % PP * (y % PP) % PP = s % PP := by rw [hs, ← Nat.mul_mod]
  rw [hy, h5, mo_mul_l n1 ((s % PP + (PP - 1)) % PP) _ (by rw [h1, one_PP, Nat.mod_mod]), ← pwm_mod n4]
  have h6 : n4 % PP = (SL * (s % PP) % PP + 1) % PP := by
    rw [h4, mo_add_l n3 (SL * (s % PP) % PP) 1 (by rw [h3, Nat.mod_mod, Nat.mul_mod, h2])]
  rw [h6]
theorem root_un2 (q C : Nat) (ok : Bool) (R : Nat) (hq : q < 115792089237316195423570985008687907853269984665640564039457584007913129639936) (h : q % PP = C) (hok : ok = rtok C) (hR : R = rt3 C) (w : World) :
    Calls Try.prog 44 #[.agg (e4 q)] w fun e w' => ∃ m : Nat, m < 115792089237316195423570985008687907853269984665640564039457584007913129639936 ∧ m % PP = R ∧ e = .returned (.tuple #[.agg (e4 m), .bool ok]) ∧ Below w.heap.size w w' := by
  have := froot_any q hq w
  rw [h] at this
  rw [hok, hR]
  exact this
theorem is_zero4 (q R : Nat) (z : Bool) (hq : q < 115792089237316195423570985008687907853269984665640564039457584007913129639936) (h : q % PP = R) (hz : z = decide (R = 0 % PP)) (w : World) :
    Calls Try.prog 41 #[.agg (e4 q), .agg (e4 0)] w fun e w' => e = .returned (.bool z) ∧ Below w.heap.size w w' := by
  rw [hz, ← h]; exact is_any q 0 hq (by decide) w
set_option maxRecDepth 100000 in
set_option linter.unusedSimpArgs false in
set_option maxHeartbeats 8000000 in
theorem beside_any (y : Nat) (even : Bool) (hy : y < 115792089237316195423570985008687907853269984665640564039457584007913129639936) (w : World) :
    Calls Try.prog 87 #[.agg (e4 y), .bool even] w (BeP (bes (cx (y % PP)) even (y % PP)) w) := by
  have hint := fun w => fint_nn 1 (by decide) w
  have ht := times_any
  have hmi := minus_any
  have hp := plus_any
  have hsl := slope_any
  have hov := over_any
  have hmd := made_any
  have hcx := cx_res y
  obtain ⟨Y, hY⟩ : ∃ Y, Y = y % PP := ⟨_, rfl⟩
  rw [← hY] at hcx ⊢
  obtain ⟨C, hC⟩ : ∃ C, C = cx Y := ⟨_, rfl⟩
  rw [← hC] at hcx ⊢
  obtain ⟨ok, hok⟩ : ∃ ok, ok = rtok C := ⟨_, rfl⟩
  obtain ⟨R3, hR3⟩ : ∃ R, R = rt3 C := ⟨_, rfl⟩
  have hru := fun q hq h w => root_un2 q C ok R3 hq h hok hR3 w
  have hiz0 := fun q hq h w => is_zero4 q R3 (decide (R3 = 0 % PP)) hq h rfl w
  have hone : 1 < 115792089237316195423570985008687907853269984665640564039457584007913129639936 := by decide
  clear hC
  have Hint := Lib.hid hint; clear hint
  have Ht := Lib.hid ht; clear ht
  have Hmi := Lib.hid hmi; clear hmi
  have Hp := Lib.hid hp; clear hp
  have Hsl := Lib.hid hsl; clear hsl
  have Hov := Lib.hid hov; clear hov
  have Hmd := Lib.hid hmd; clear hmd
  have Hcx := Lib.hid hcx; clear hcx
  have Hok := Lib.hid hok; clear hok
  have HR3 := Lib.hid hR3; clear hR3
  have Hru := Lib.hid hru; clear hru
  have Hiz0 := Lib.hid hiz0; clear hiz0
  have Hy := Lib.hid hy; clear hy
  have Hone := Lib.hid hone; clear hone
  have HY := Lib.hid hY; clear hY
  go_enter Try.func87, Try.ntmps87
  repeat ((fail_if_success (with_reducible (show wpList _ _ _ _ _ _))); go_step)
  iterate 3 (refine wpList_step (fun K hK => ?_); go_simp; (try go_bits); refine hK _ _ ?_; clear hK K)
  refine wpList_nil ?_
  have M2 := Lib.hid ((Has.new w  (e4 y) 36).alloc (.cells (#[.int .u64 0, .int .u64 0, .int .u64 0, .int .u64 0, .int .u64 0, .int .u64 0, .int .u64 0, .int .u64 0, .int .u64 0, .int .u64 0, .int .u64 0, .int .u64 0, .bool false] : Array Value) 53))
  have M4 := Lib.hid (HasN.new1 w (.cells (e4 y) 36) (#[.int .u64 0, .int .u64 0, .int .u64 0, .int .u64 0, .int .u64 0, .int .u64 0, .int .u64 0, .int .u64 0, .int .u64 0, .int .u64 0, .int .u64 0, .int .u64 0, .bool false] : Array Value) 53 13 (by kernel_rfl))
  have HB := Lib.hid (below_2 w (.cells (e4 y) 36) (.cells (#[.int .u64 0, .int .u64 0, .int .u64 0, .int .u64 0, .int .u64 0, .int .u64 0, .int .u64 0, .int .u64 0, .int .u64 0, .int .u64 0, .int .u64 0, .int .u64 0, .bool false] : Array Value) 53))
  obtain ⟨yw1, hwyw1⟩ : ∃ ww, ww = ((w.alloc (.cells (e4 y) 36)).alloc (.cells (#[.int .u64 0, .int .u64 0, .int .u64 0, .int .u64 0, .int .u64 0, .int .u64 0, .int .u64 0, .int .u64 0, .int .u64 0, .int .u64 0, .int .u64 0, .int .u64 0, .bool false] : Array Value) 53)) := ⟨_, rfl⟩
  rw [← hwyw1] at M2 M4 HB ⊢
  clear hwyw1
  repeat ((fail_if_success (with_reducible (show wpList _ _ _ _ _ _))); go_step)
  refine wp_region_meet (α := Nat × Nat × Nat) (fun W0 x w' => x.2.2 < 115792089237316195423570985008687907853269984665640564039457584007913129639936 ∧ x.2.2 % PP = y * y % PP ∧ W0.heap.size ≤ x.1 ∧ Has w' x.1 (e4 1) 36 ∧ W0.heap.size ≤ x.2.1 ∧ Has w' x.2.1 (e4 x.2.2) 36 ∧ Below W0.heap.size W0 w') (fun ac x => ((((((ac.put (some 11) (.agg (e4 1))).put (some 12) (.agg (e4 y))).put (some 13) (.agg (e4 y))).put (some 14) (.agg (e4 x.2.2))).put (some 6) (.pointer (some ⟨x.1, 0, none⟩))).put (some 7) (.pointer (some ⟨x.2.1, 0, none⟩)))) ?_ ?_
  · intro Q' hQ'
    refine wp_region_noPanic ?_
    refine wp_region_go 99 8 #[ff,ff,ff,ff,ff,ff,ff,ff] (by kernel_rfl) rfl rfl ?_
    intro W2 hW2
    rw [← hW2] at hQ'
    simp only [Act.put, List.setIfInBounds_toArray, List.set_cons_succ, List.set_cons_zero] at hQ'
    have HQ := Lib.hid hQ'; clear hQ'
    rw [← hW2] at M2 M4 HB
    clear hW2
    refine go_take2 1 12 #[ff,tt,ff,ff,ff,ff,ff,ff] rfl rfl rfl (by kernel_rfl) (yieldsIf_load_row (by rfl) 36 _ rfl (w.heap.size) rfl 36 (e4 y) (fun _ h => M2.out.below h M2.out.lt) Try.underlying36 rfl (by rw [e4_size]; kernel_rfl)) ((below_dr W2)) ?_
    (try simp only [sI, sS, sZ])
    refine go_take2 2 13 #[ff,tt,tt,ff,ff,ff,ff,ff] rfl rfl rfl (by kernel_rfl) (yieldsIf_load_row (by rfl) 36 _ rfl (w.heap.size) rfl 36 (e4 y) (fun _ h => M2.out.below h M2.out.lt) Try.underlying36 rfl (by rw [e4_size]; kernel_rfl)) ((below_dr W2)) ?_
    (try simp only [sI, sS, sZ])
    refine wpBut_r3 (i := 0) (j := 4) (l := 5) (by kernel_rfl) ?_ ?_ ?_
    refine go_call 0 11 #[tt,tt,tt,ff,ff,ff,ff,ff] rfl rfl rfl (by rfl) rfl rfl (by rfl) ent34 (by rfl) (Hint.out _) ?_
    rintro e wW21 ⟨rfl, hb⟩
    have hkW21 := held_next (below_dr W2) hb
    refine ⟨_, rfl, fun _ => hkW21, ?_⟩
    clear hb
    (try simp only [sI, sS, sZ])
    refine wpBut_r3 (i := 3) (j := 4) (l := 5) (by kernel_rfl) ?_ ?_ ?_
    refine go_call 3 14 #[tt,tt,tt,tt,ff,ff,ff,ff] rfl rfl rfl (by rfl) rfl rfl (by rfl) ent31 (by rfl) (Ht.out y y Hy.out Hy.out _) ?_
    rintro e wW22 ⟨s, hs, hsr, rfl, hb⟩
    have hkW22 := held_next hkW21 hb
    refine ⟨_, rfl, fun _ => hkW22, ?_⟩
    clear hb
    (try simp only [sI, sS, sZ])
    refine wpBut_r2 (i := 4) (j := 5) (by kernel_rfl) ?_ ?_
    refine go_alloc 4 6 #[tt,tt,tt,tt,tt,ff,ff,ff] rfl rfl rfl (by rfl) 36 rfl _ al36 ?_
    intro wW23 hw2
    have hkW23 := (hkW22).alloc (hkW22).size (.cells z36 36)
    rw [← hw2] at hkW23
    have MA4 := Lib.hid (HasN.new (wW22) z36 36 4 (by kernel_rfl))
    rw [← hw2] at MA4
    have HA4 := Lib.hid (show W2.heap.size ≤ _ from (hkW22).size)
    clear hw2
    refine ⟨fun _ => hkW23, ?_⟩
    (try simp only [sI, sS, sZ])
    refine wpBut_r1 (i := 5) (by kernel_rfl) ?_
    refine go_alloc 5 7 #[tt,tt,tt,tt,tt,tt,ff,ff] rfl rfl rfl (by rfl) 36 rfl _ al36 ?_
    intro wW24 hw2
    have hkW24 := (hkW23).alloc (hkW23).size (.cells z36 36)
    rw [← hw2] at hkW24
    have hne4_5 := MA4.out.lt
    replace MA4 := Lib.hid (MA4.out.alloc (.cells z36 36))
    have MA5 := Lib.hid (HasN.new (wW23) z36 36 4 (by kernel_rfl))
    rw [← hw2] at MA4 MA5
    have HA5 := Lib.hid (show W2.heap.size ≤ _ from (hkW23).size)
    clear hw2
    refine ⟨fun _ => hkW24, ?_⟩
    (try simp only [sI, sS, sZ])
    refine wpBut_r1 (i := 6) (by kernel_rfl) ?_
    obtain ⟨Zq, hZ, mZ⟩ := MA4.out
    refine go_store2 6 #[tt,tt,tt,tt,tt,tt,tt,ff] rfl rfl rfl (by rfl) 36 _ _ rfl _ _ rfl rfl 36 Zq mZ (by rw [e4_size]; kernel_rfl) (hZ.trans (e4_size ..).symm) (row_one _ _ _) ?_
    intro wW25 hw2
    have hkW25 := below_setRow (hkW24) _ (e4 1) HA4.out
    rw [← hw2] at hkW25
    clear MA4
    replace MA5 := Lib.hid (MA5.out.setRow_other _ (e4 1) (show _ ≠ wW22.heap.size by omega))
    have MA4 := Lib.hid (mZ.setRow (e4 1))
    rw [← hw2] at MA5 MA4; clear mZ hZ hw2
    refine ⟨fun _ => hkW25, ?_⟩
    (try simp only [sI, sS, sZ])
    refine wpBut_r1 (i := 7) (by kernel_rfl) ?_
    obtain ⟨Zq, hZ, mZ⟩ := MA5.out
    refine go_store2 7 #[tt,tt,tt,tt,tt,tt,tt,tt] rfl rfl rfl (by rfl) 36 _ _ rfl _ _ rfl rfl 36 Zq mZ (by rw [e4_size]; kernel_rfl) (hZ.trans (e4_size ..).symm) (row_one _ _ _) ?_
    intro wW26 hw2
    have hkW26 := below_setRow (hkW25) _ (e4 s) HA5.out
    rw [← hw2] at hkW26
    clear MA5
    replace MA4 := Lib.hid (MA4.out.setRow_other _ (e4 s) (show _ ≠ wW23.heap.size by omega))
    have MA5 := Lib.hid (mZ.setRow (e4 s))
    rw [← hw2] at MA4 MA5; clear mZ hZ hw2
    refine ⟨fun _ => hkW26, ?_⟩
    (try simp only [sI, sS, sZ])
    exact wpBut_done (by kernel_rfl) (NoPanic.normal (HQ.out (_, _, s) _ ⟨hs, hsr, HA4.out, MA4.out, HA5.out, MA5.out, (hkW26)⟩))
    refine go_alloc 5 7 #[tt,tt,tt,tt,ff,tt,ff,ff] rfl rfl rfl (by rfl) 36 rfl _ al36 ?_
    intro wW23 hw2
    have hkW23 := (hkW22).alloc (hkW22).size (.cells z36 36)
    rw [← hw2] at hkW23
    have MA5 := Lib.hid (HasN.new (wW22) z36 36 4 (by kernel_rfl))
    rw [← hw2] at MA5
    have HA5 := Lib.hid (show W2.heap.size ≤ _ from (hkW22).size)
    clear hw2
    refine ⟨fun _ => hkW23, ?_⟩
    (try simp only [sI, sS, sZ])
    refine wpBut_r1 (i := 4) (by kernel_rfl) ?_
    refine go_alloc 4 6 #[tt,tt,tt,tt,tt,tt,ff,ff] rfl rfl rfl (by rfl) 36 rfl _ al36 ?_
    intro wW24 hw2
    have hkW24 := (hkW23).alloc (hkW23).size (.cells z36 36)
    rw [← hw2] at hkW24
    have hne5_4 := MA5.out.lt
    replace MA5 := Lib.hid (MA5.out.alloc (.cells z36 36))
    have MA4 := Lib.hid (HasN.new (wW23) z36 36 4 (by kernel_rfl))
    rw [← hw2] at MA5 MA4
    have HA4 := Lib.hid (show W2.heap.size ≤ _ from (hkW23).size)
    clear hw2
    refine ⟨fun _ => hkW24, ?_⟩
    (try simp only [sI, sS, sZ])
    refine wpBut_r1 (i := 6) (by kernel_rfl) ?_
    obtain ⟨Zq, hZ, mZ⟩ := MA4.out
    refine go_store2 6 #[tt,tt,tt,tt,tt,tt,tt,ff] rfl rfl rfl (by rfl) 36 _ _ rfl _ _ rfl rfl 36 Zq mZ (by rw [e4_size]; kernel_rfl) (hZ.trans (e4_size ..).symm) (row_one _ _ _) ?_
    intro wW25 hw2
    have hkW25 := below_setRow (hkW24) _ (e4 1) HA4.out
    rw [← hw2] at hkW25
    clear MA4
    replace MA5 := Lib.hid (MA5.out.setRow_other _ (e4 1) (show _ ≠ wW23.heap.size by omega))
    have MA4 := Lib.hid (mZ.setRow (e4 1))
    rw [← hw2] at MA5 MA4; clear mZ hZ hw2
    refine ⟨fun _ => hkW25, ?_⟩
    (try simp only [sI, sS, sZ])
    refine wpBut_r1 (i := 7) (by kernel_rfl) ?_
    obtain ⟨Zq, hZ, mZ⟩ := MA5.out
    refine go_store2 7 #[tt,tt,tt,tt,tt,tt,tt,tt] rfl rfl rfl (by rfl) 36 _ _ rfl _ _ rfl rfl 36 Zq mZ (by rw [e4_size]; kernel_rfl) (hZ.trans (e4_size ..).symm) (row_one _ _ _) ?_
    intro wW26 hw2
    have hkW26 := below_setRow (hkW25) _ (e4 s) HA5.out
    rw [← hw2] at hkW26
    clear MA5
    replace MA4 := Lib.hid (MA4.out.setRow_other _ (e4 s) (show _ ≠ wW22.heap.size by omega))
    have MA5 := Lib.hid (mZ.setRow (e4 s))
    rw [← hw2] at MA4 MA5; clear mZ hZ hw2
    refine ⟨fun _ => hkW26, ?_⟩
    (try simp only [sI, sS, sZ])
    exact wpBut_done (by kernel_rfl) (NoPanic.normal (HQ.out (_, _, s) _ ⟨hs, hsr, HA4.out, MA4.out, HA5.out, MA5.out, (hkW26)⟩))
    refine go_alloc 4 6 #[tt,tt,tt,ff,tt,ff,ff,ff] rfl rfl rfl (by rfl) 36 rfl _ al36 ?_
    intro wW22 hw2
    have hkW22 := (hkW21).alloc (hkW21).size (.cells z36 36)
    rw [← hw2] at hkW22
    have MA4 := Lib.hid (HasN.new (wW21) z36 36 4 (by kernel_rfl))
    rw [← hw2] at MA4
    have HA4 := Lib.hid (show W2.heap.size ≤ _ from (hkW21).size)
    clear hw2
    refine ⟨fun _ => hkW22, ?_⟩
    (try simp only [sI, sS, sZ])
    refine wpBut_r2 (i := 3) (j := 5) (by kernel_rfl) ?_ ?_
    refine go_call 3 14 #[tt,tt,tt,tt,tt,ff,ff,ff] rfl rfl rfl (by rfl) rfl rfl (by rfl) ent31 (by rfl) (Ht.out y y Hy.out Hy.out _) ?_
    rintro e wW23 ⟨s, hs, hsr, rfl, hb⟩
    have hkW23 := held_next hkW22 hb
    replace MA4 := Lib.hid (MA4.out.call hb)
    refine ⟨_, rfl, fun _ => hkW23, ?_⟩
    clear hb
    (try simp only [sI, sS, sZ])
    refine wpBut_r1 (i := 5) (by kernel_rfl) ?_
    refine go_alloc 5 7 #[tt,tt,tt,tt,tt,tt,ff,ff] rfl rfl rfl (by rfl) 36 rfl _ al36 ?_
    intro wW24 hw2
    have hkW24 := (hkW23).alloc (hkW23).size (.cells z36 36)
    rw [← hw2] at hkW24
    have hne4_5 := MA4.out.lt
    replace MA4 := Lib.hid (MA4.out.alloc (.cells z36 36))
    have MA5 := Lib.hid (HasN.new (wW23) z36 36 4 (by kernel_rfl))
    rw [← hw2] at MA4 MA5
    have HA5 := Lib.hid (show W2.heap.size ≤ _ from (hkW23).size)
    clear hw2
    refine ⟨fun _ => hkW24, ?_⟩
    (try simp only [sI, sS, sZ])
    refine wpBut_r1 (i := 6) (by kernel_rfl) ?_
    obtain ⟨Zq, hZ, mZ⟩ := MA4.out
    refine go_store2 6 #[tt,tt,tt,tt,tt,tt,tt,ff] rfl rfl rfl (by rfl) 36 _ _ rfl _ _ rfl rfl 36 Zq mZ (by rw [e4_size]; kernel_rfl) (hZ.trans (e4_size ..).symm) (row_one _ _ _) ?_
    intro wW25 hw2
    have hkW25 := below_setRow (hkW24) _ (e4 1) HA4.out
    rw [← hw2] at hkW25
    clear MA4
    replace MA5 := Lib.hid (MA5.out.setRow_other _ (e4 1) (show _ ≠ wW21.heap.size by omega))
    have MA4 := Lib.hid (mZ.setRow (e4 1))
    rw [← hw2] at MA5 MA4; clear mZ hZ hw2
    refine ⟨fun _ => hkW25, ?_⟩
    (try simp only [sI, sS, sZ])
    refine wpBut_r1 (i := 7) (by kernel_rfl) ?_
    obtain ⟨Zq, hZ, mZ⟩ := MA5.out
    refine go_store2 7 #[tt,tt,tt,tt,tt,tt,tt,tt] rfl rfl rfl (by rfl) 36 _ _ rfl _ _ rfl rfl 36 Zq mZ (by rw [e4_size]; kernel_rfl) (hZ.trans (e4_size ..).symm) (row_one _ _ _) ?_
    intro wW26 hw2
    have hkW26 := below_setRow (hkW25) _ (e4 s) HA5.out
    rw [← hw2] at hkW26
    clear MA5
    replace MA4 := Lib.hid (MA4.out.setRow_other _ (e4 s) (show _ ≠ wW23.heap.size by omega))
    have MA5 := Lib.hid (mZ.setRow (e4 s))
    rw [← hw2] at MA4 MA5; clear mZ hZ hw2
    refine ⟨fun _ => hkW26, ?_⟩
    (try simp only [sI, sS, sZ])
    exact wpBut_done (by kernel_rfl) (NoPanic.normal (HQ.out (_, _, s) _ ⟨hs, hsr, HA4.out, MA4.out, HA5.out, MA5.out, (hkW26)⟩))
    refine go_alloc 5 7 #[tt,tt,tt,ff,tt,tt,ff,ff] rfl rfl rfl (by rfl) 36 rfl _ al36 ?_
    intro wW23 hw2
    have hkW23 := (hkW22).alloc (hkW22).size (.cells z36 36)
    rw [← hw2] at hkW23
    have hne4_5 := MA4.out.lt
    replace MA4 := Lib.hid (MA4.out.alloc (.cells z36 36))
    have MA5 := Lib.hid (HasN.new (wW22) z36 36 4 (by kernel_rfl))
    rw [← hw2] at MA4 MA5
    have HA5 := Lib.hid (show W2.heap.size ≤ _ from (hkW22).size)
    clear hw2
    refine ⟨fun _ => hkW23, ?_⟩
    (try simp only [sI, sS, sZ])
    refine wpBut_r1 (i := 3) (by kernel_rfl) ?_
    refine go_call 3 14 #[tt,tt,tt,tt,tt,tt,ff,ff] rfl rfl rfl (by rfl) rfl rfl (by rfl) ent31 (by rfl) (Ht.out y y Hy.out Hy.out _) ?_
    rintro e wW24 ⟨s, hs, hsr, rfl, hb⟩
    have hkW24 := held_next hkW23 hb
    replace MA4 := Lib.hid (MA4.out.call hb)
    replace MA5 := Lib.hid (MA5.out.call hb)
    refine ⟨_, rfl, fun _ => hkW24, ?_⟩
    clear hb
    (try simp only [sI, sS, sZ])
    refine wpBut_r1 (i := 6) (by kernel_rfl) ?_
    obtain ⟨Zq, hZ, mZ⟩ := MA4.out
    refine go_store2 6 #[tt,tt,tt,tt,tt,tt,tt,ff] rfl rfl rfl (by rfl) 36 _ _ rfl _ _ rfl rfl 36 Zq mZ (by rw [e4_size]; kernel_rfl) (hZ.trans (e4_size ..).symm) (row_one _ _ _) ?_
    intro wW25 hw2
    have hkW25 := below_setRow (hkW24) _ (e4 1) HA4.out
    rw [← hw2] at hkW25
    clear MA4
    replace MA5 := Lib.hid (MA5.out.setRow_other _ (e4 1) (show _ ≠ wW21.heap.size by omega))
    have MA4 := Lib.hid (mZ.setRow (e4 1))
    rw [← hw2] at MA5 MA4; clear mZ hZ hw2
    refine ⟨fun _ => hkW25, ?_⟩
    (try simp only [sI, sS, sZ])
    refine wpBut_r1 (i := 7) (by kernel_rfl) ?_
    obtain ⟨Zq, hZ, mZ⟩ := MA5.out
    refine go_store2 7 #[tt,tt,tt,tt,tt,tt,tt,tt] rfl rfl rfl (by rfl) 36 _ _ rfl _ _ rfl rfl 36 Zq mZ (by rw [e4_size]; kernel_rfl) (hZ.trans (e4_size ..).symm) (row_one _ _ _) ?_
    intro wW26 hw2
    have hkW26 := below_setRow (hkW25) _ (e4 s) HA5.out
    rw [← hw2] at hkW26
    clear MA5
    replace MA4 := Lib.hid (MA4.out.setRow_other _ (e4 s) (show _ ≠ wW22.heap.size by omega))
    have MA5 := Lib.hid (mZ.setRow (e4 s))
    rw [← hw2] at MA4 MA5; clear mZ hZ hw2
    refine ⟨fun _ => hkW26, ?_⟩
    (try simp only [sI, sS, sZ])
    exact wpBut_done (by kernel_rfl) (NoPanic.normal (HQ.out (_, _, s) _ ⟨hs, hsr, HA4.out, MA4.out, HA5.out, MA5.out, (hkW26)⟩))
    refine go_alloc 5 7 #[tt,tt,tt,ff,ff,tt,ff,ff] rfl rfl rfl (by rfl) 36 rfl _ al36 ?_
    intro wW22 hw2
    have hkW22 := (hkW21).alloc (hkW21).size (.cells z36 36)
    rw [← hw2] at hkW22
    have MA5 := Lib.hid (HasN.new (wW21) z36 36 4 (by kernel_rfl))
    rw [← hw2] at MA5
    have HA5 := Lib.hid (show W2.heap.size ≤ _ from (hkW21).size)
    clear hw2
    refine ⟨fun _ => hkW22, ?_⟩
    (try simp only [sI, sS, sZ])
    refine wpBut_r2 (i := 3) (j := 4) (by kernel_rfl) ?_ ?_
    refine go_call 3 14 #[tt,tt,tt,tt,ff,tt,ff,ff] rfl rfl rfl (by rfl) rfl rfl (by rfl) ent31 (by rfl) (Ht.out y y Hy.out Hy.out _) ?_
    rintro e wW23 ⟨s, hs, hsr, rfl, hb⟩
    have hkW23 := held_next hkW22 hb
    replace MA5 := Lib.hid (MA5.out.call hb)
    refine ⟨_, rfl, fun _ => hkW23, ?_⟩
    clear hb
    (try simp only [sI, sS, sZ])
    refine wpBut_r1 (i := 4) (by kernel_rfl) ?_
    refine go_alloc 4 6 #[tt,tt,tt,tt,tt,tt,ff,ff] rfl rfl rfl (by rfl) 36 rfl _ al36 ?_
    intro wW24 hw2
    have hkW24 := (hkW23).alloc (hkW23).size (.cells z36 36)
    rw [← hw2] at hkW24
    have hne5_4 := MA5.out.lt
    replace MA5 := Lib.hid (MA5.out.alloc (.cells z36 36))
    have MA4 := Lib.hid (HasN.new (wW23) z36 36 4 (by kernel_rfl))
    rw [← hw2] at MA5 MA4
    have HA4 := Lib.hid (show W2.heap.size ≤ _ from (hkW23).size)
    clear hw2
    refine ⟨fun _ => hkW24, ?_⟩
    (try simp only [sI, sS, sZ])
    refine wpBut_r1 (i := 6) (by kernel_rfl) ?_
    obtain ⟨Zq, hZ, mZ⟩ := MA4.out
    refine go_store2 6 #[tt,tt,tt,tt,tt,tt,tt,ff] rfl rfl rfl (by rfl) 36 _ _ rfl _ _ rfl rfl 36 Zq mZ (by rw [e4_size]; kernel_rfl) (hZ.trans (e4_size ..).symm) (row_one _ _ _) ?_
    intro wW25 hw2
    have hkW25 := below_setRow (hkW24) _ (e4 1) HA4.out
    rw [← hw2] at hkW25
    clear MA4
    replace MA5 := Lib.hid (MA5.out.setRow_other _ (e4 1) (show _ ≠ wW23.heap.size by omega))
    have MA4 := Lib.hid (mZ.setRow (e4 1))
    rw [← hw2] at MA5 MA4; clear mZ hZ hw2
    refine ⟨fun _ => hkW25, ?_⟩
    (try simp only [sI, sS, sZ])
    refine wpBut_r1 (i := 7) (by kernel_rfl) ?_
    obtain ⟨Zq, hZ, mZ⟩ := MA5.out
    refine go_store2 7 #[tt,tt,tt,tt,tt,tt,tt,tt] rfl rfl rfl (by rfl) 36 _ _ rfl _ _ rfl rfl 36 Zq mZ (by rw [e4_size]; kernel_rfl) (hZ.trans (e4_size ..).symm) (row_one _ _ _) ?_
    intro wW26 hw2
    have hkW26 := below_setRow (hkW25) _ (e4 s) HA5.out
    rw [← hw2] at hkW26
    clear MA5
    replace MA4 := Lib.hid (MA4.out.setRow_other _ (e4 s) (show _ ≠ wW21.heap.size by omega))
    have MA5 := Lib.hid (mZ.setRow (e4 s))
    rw [← hw2] at MA4 MA5; clear mZ hZ hw2
    refine ⟨fun _ => hkW26, ?_⟩
    (try simp only [sI, sS, sZ])
    exact wpBut_done (by kernel_rfl) (NoPanic.normal (HQ.out (_, _, s) _ ⟨hs, hsr, HA4.out, MA4.out, HA5.out, MA5.out, (hkW26)⟩))
    refine go_alloc 4 6 #[tt,tt,tt,ff,tt,tt,ff,ff] rfl rfl rfl (by rfl) 36 rfl _ al36 ?_
    intro wW23 hw2
    have hkW23 := (hkW22).alloc (hkW22).size (.cells z36 36)
    rw [← hw2] at hkW23
    have hne5_4 := MA5.out.lt
    replace MA5 := Lib.hid (MA5.out.alloc (.cells z36 36))
    have MA4 := Lib.hid (HasN.new (wW22) z36 36 4 (by kernel_rfl))
    rw [← hw2] at MA5 MA4
    have HA4 := Lib.hid (show W2.heap.size ≤ _ from (hkW22).size)
    clear hw2
    refine ⟨fun _ => hkW23, ?_⟩
    (try simp only [sI, sS, sZ])
    refine wpBut_r1 (i := 3) (by kernel_rfl) ?_
    refine go_call 3 14 #[tt,tt,tt,tt,tt,tt,ff,ff] rfl rfl rfl (by rfl) rfl rfl (by rfl) ent31 (by rfl) (Ht.out y y Hy.out Hy.out _) ?_
    rintro e wW24 ⟨s, hs, hsr, rfl, hb⟩
    have hkW24 := held_next hkW23 hb
    replace MA5 := Lib.hid (MA5.out.call hb)
    replace MA4 := Lib.hid (MA4.out.call hb)
    refine ⟨_, rfl, fun _ => hkW24, ?_⟩
    clear hb
    (try simp only [sI, sS, sZ])
    refine wpBut_r1 (i := 6) (by kernel_rfl) ?_
    obtain ⟨Zq, hZ, mZ⟩ := MA4.out
    refine go_store2 6 #[tt,tt,tt,tt,tt,tt,tt,ff] rfl rfl rfl (by rfl) 36 _ _ rfl _ _ rfl rfl 36 Zq mZ (by rw [e4_size]; kernel_rfl) (hZ.trans (e4_size ..).symm) (row_one _ _ _) ?_
    intro wW25 hw2
    have hkW25 := below_setRow (hkW24) _ (e4 1) HA4.out
    rw [← hw2] at hkW25
    clear MA4
    replace MA5 := Lib.hid (MA5.out.setRow_other _ (e4 1) (show _ ≠ wW22.heap.size by omega))
    have MA4 := Lib.hid (mZ.setRow (e4 1))
    rw [← hw2] at MA5 MA4; clear mZ hZ hw2
    refine ⟨fun _ => hkW25, ?_⟩
    (try simp only [sI, sS, sZ])
    refine wpBut_r1 (i := 7) (by kernel_rfl) ?_
    obtain ⟨Zq, hZ, mZ⟩ := MA5.out
    refine go_store2 7 #[tt,tt,tt,tt,tt,tt,tt,tt] rfl rfl rfl (by rfl) 36 _ _ rfl _ _ rfl rfl 36 Zq mZ (by rw [e4_size]; kernel_rfl) (hZ.trans (e4_size ..).symm) (row_one _ _ _) ?_
    intro wW26 hw2
    have hkW26 := below_setRow (hkW25) _ (e4 s) HA5.out
    rw [← hw2] at hkW26
    clear MA5
    replace MA4 := Lib.hid (MA4.out.setRow_other _ (e4 s) (show _ ≠ wW21.heap.size by omega))
    have MA5 := Lib.hid (mZ.setRow (e4 s))
    rw [← hw2] at MA4 MA5; clear mZ hZ hw2
    refine ⟨fun _ => hkW26, ?_⟩
    (try simp only [sI, sS, sZ])
    exact wpBut_done (by kernel_rfl) (NoPanic.normal (HQ.out (_, _, s) _ ⟨hs, hsr, HA4.out, MA4.out, HA5.out, MA5.out, (hkW26)⟩))
    refine go_alloc 4 6 #[ff,tt,tt,ff,tt,ff,ff,ff] rfl rfl rfl (by rfl) 36 rfl _ al36 ?_
    intro wW21 hw2
    have hkW21 := ((below_dr W2)).alloc ((below_dr W2)).size (.cells z36 36)
    rw [← hw2] at hkW21
    have MA4 := Lib.hid (HasN.new (W2.drew) z36 36 4 (by kernel_rfl))
    rw [← hw2] at MA4
    have HA4 := Lib.hid (show W2.heap.size ≤ _ from ((below_dr W2)).size)
    clear hw2
    refine ⟨fun _ => hkW21, ?_⟩
    (try simp only [sI, sS, sZ])
    refine wpBut_r2 (i := 0) (j := 5) (by kernel_rfl) ?_ ?_
    refine go_call 0 11 #[tt,tt,tt,ff,tt,ff,ff,ff] rfl rfl rfl (by rfl) rfl rfl (by rfl) ent34 (by rfl) (Hint.out _) ?_
    rintro e wW22 ⟨rfl, hb⟩
    have hkW22 := held_next hkW21 hb
    replace MA4 := Lib.hid (MA4.out.call hb)
    refine ⟨_, rfl, fun _ => hkW22, ?_⟩
    clear hb
    (try simp only [sI, sS, sZ])
    refine wpBut_r2 (i := 3) (j := 5) (by kernel_rfl) ?_ ?_
    refine go_call 3 14 #[tt,tt,tt,tt,tt,ff,ff,ff] rfl rfl rfl (by rfl) rfl rfl (by rfl) ent31 (by rfl) (Ht.out y y Hy.out Hy.out _) ?_
    rintro e wW23 ⟨s, hs, hsr, rfl, hb⟩
    have hkW23 := held_next hkW22 hb
    replace MA4 := Lib.hid (MA4.out.call hb)
    refine ⟨_, rfl, fun _ => hkW23, ?_⟩
    clear hb
    (try simp only [sI, sS, sZ])
    refine wpBut_r1 (i := 5) (by kernel_rfl) ?_
    refine go_alloc 5 7 #[tt,tt,tt,tt,tt,tt,ff,ff] rfl rfl rfl (by rfl) 36 rfl _ al36 ?_
    intro wW24 hw2
    have hkW24 := (hkW23).alloc (hkW23).size (.cells z36 36)
    rw [← hw2] at hkW24
    have hne4_5 := MA4.out.lt
    replace MA4 := Lib.hid (MA4.out.alloc (.cells z36 36))
    have MA5 := Lib.hid (HasN.new (wW23) z36 36 4 (by kernel_rfl))
    rw [← hw2] at MA4 MA5
    have HA5 := Lib.hid (show W2.heap.size ≤ _ from (hkW23).size)
    clear hw2
    refine ⟨fun _ => hkW24, ?_⟩
    (try simp only [sI, sS, sZ])
    refine wpBut_r1 (i := 6) (by kernel_rfl) ?_
    obtain ⟨Zq, hZ, mZ⟩ := MA4.out
    refine go_store2 6 #[tt,tt,tt,tt,tt,tt,tt,ff] rfl rfl rfl (by rfl) 36 _ _ rfl _ _ rfl rfl 36 Zq mZ (by rw [e4_size]; kernel_rfl) (hZ.trans (e4_size ..).symm) (row_one _ _ _) ?_
    intro wW25 hw2
    have hkW25 := below_setRow (hkW24) _ (e4 1) HA4.out
    rw [← hw2] at hkW25
    clear MA4
    replace MA5 := Lib.hid (MA5.out.setRow_other _ (e4 1) (show _ ≠ W2.drew.heap.size by omega))
    have MA4 := Lib.hid (mZ.setRow (e4 1))
    rw [← hw2] at MA5 MA4; clear mZ hZ hw2
    refine ⟨fun _ => hkW25, ?_⟩
    (try simp only [sI, sS, sZ])
    refine wpBut_r1 (i := 7) (by kernel_rfl) ?_
    obtain ⟨Zq, hZ, mZ⟩ := MA5.out
    refine go_store2 7 #[tt,tt,tt,tt,tt,tt,tt,tt] rfl rfl rfl (by rfl) 36 _ _ rfl _ _ rfl rfl 36 Zq mZ (by rw [e4_size]; kernel_rfl) (hZ.trans (e4_size ..).symm) (row_one _ _ _) ?_
    intro wW26 hw2
    have hkW26 := below_setRow (hkW25) _ (e4 s) HA5.out
    rw [← hw2] at hkW26
    clear MA5
    replace MA4 := Lib.hid (MA4.out.setRow_other _ (e4 s) (show _ ≠ wW23.heap.size by omega))
    have MA5 := Lib.hid (mZ.setRow (e4 s))
    rw [← hw2] at MA4 MA5; clear mZ hZ hw2
    refine ⟨fun _ => hkW26, ?_⟩
    (try simp only [sI, sS, sZ])
    exact wpBut_done (by kernel_rfl) (NoPanic.normal (HQ.out (_, _, s) _ ⟨hs, hsr, HA4.out, MA4.out, HA5.out, MA5.out, (hkW26)⟩))
    refine go_alloc 5 7 #[tt,tt,tt,ff,tt,tt,ff,ff] rfl rfl rfl (by rfl) 36 rfl _ al36 ?_
    intro wW23 hw2
    have hkW23 := (hkW22).alloc (hkW22).size (.cells z36 36)
    rw [← hw2] at hkW23
    have hne4_5 := MA4.out.lt
    replace MA4 := Lib.hid (MA4.out.alloc (.cells z36 36))
    have MA5 := Lib.hid (HasN.new (wW22) z36 36 4 (by kernel_rfl))
    rw [← hw2] at MA4 MA5
    have HA5 := Lib.hid (show W2.heap.size ≤ _ from (hkW22).size)
    clear hw2
    refine ⟨fun _ => hkW23, ?_⟩
    (try simp only [sI, sS, sZ])
    refine wpBut_r1 (i := 3) (by kernel_rfl) ?_
    refine go_call 3 14 #[tt,tt,tt,tt,tt,tt,ff,ff] rfl rfl rfl (by rfl) rfl rfl (by rfl) ent31 (by rfl) (Ht.out y y Hy.out Hy.out _) ?_
    rintro e wW24 ⟨s, hs, hsr, rfl, hb⟩
    have hkW24 := held_next hkW23 hb
    replace MA4 := Lib.hid (MA4.out.call hb)
    replace MA5 := Lib.hid (MA5.out.call hb)
    refine ⟨_, rfl, fun _ => hkW24, ?_⟩
    clear hb
    (try simp only [sI, sS, sZ])
    refine wpBut_r1 (i := 6) (by kernel_rfl) ?_
    obtain ⟨Zq, hZ, mZ⟩ := MA4.out
    refine go_store2 6 #[tt,tt,tt,tt,tt,tt,tt,ff] rfl rfl rfl (by rfl) 36 _ _ rfl _ _ rfl rfl 36 Zq mZ (by rw [e4_size]; kernel_rfl) (hZ.trans (e4_size ..).symm) (row_one _ _ _) ?_
    intro wW25 hw2
    have hkW25 := below_setRow (hkW24) _ (e4 1) HA4.out
    rw [← hw2] at hkW25
    clear MA4
    replace MA5 := Lib.hid (MA5.out.setRow_other _ (e4 1) (show _ ≠ W2.drew.heap.size by omega))
    have MA4 := Lib.hid (mZ.setRow (e4 1))
    rw [← hw2] at MA5 MA4; clear mZ hZ hw2
    refine ⟨fun _ => hkW25, ?_⟩
    (try simp only [sI, sS, sZ])
    refine wpBut_r1 (i := 7) (by kernel_rfl) ?_
    obtain ⟨Zq, hZ, mZ⟩ := MA5.out
    refine go_store2 7 #[tt,tt,tt,tt,tt,tt,tt,tt] rfl rfl rfl (by rfl) 36 _ _ rfl _ _ rfl rfl 36 Zq mZ (by rw [e4_size]; kernel_rfl) (hZ.trans (e4_size ..).symm) (row_one _ _ _) ?_
    intro wW26 hw2
    have hkW26 := below_setRow (hkW25) _ (e4 s) HA5.out
    rw [← hw2] at hkW26
    clear MA5
    replace MA4 := Lib.hid (MA4.out.setRow_other _ (e4 s) (show _ ≠ wW22.heap.size by omega))
    have MA5 := Lib.hid (mZ.setRow (e4 s))
    rw [← hw2] at MA4 MA5; clear mZ hZ hw2
    refine ⟨fun _ => hkW26, ?_⟩
    (try simp only [sI, sS, sZ])
    exact wpBut_done (by kernel_rfl) (NoPanic.normal (HQ.out (_, _, s) _ ⟨hs, hsr, HA4.out, MA4.out, HA5.out, MA5.out, (hkW26)⟩))
    refine go_alloc 5 7 #[ff,tt,tt,ff,tt,tt,ff,ff] rfl rfl rfl (by rfl) 36 rfl _ al36 ?_
    intro wW22 hw2
    have hkW22 := (hkW21).alloc (hkW21).size (.cells z36 36)
    rw [← hw2] at hkW22
    have hne4_5 := MA4.out.lt
    replace MA4 := Lib.hid (MA4.out.alloc (.cells z36 36))
    have MA5 := Lib.hid (HasN.new (wW21) z36 36 4 (by kernel_rfl))
    rw [← hw2] at MA4 MA5
    have HA5 := Lib.hid (show W2.heap.size ≤ _ from (hkW21).size)
    clear hw2
    refine ⟨fun _ => hkW22, ?_⟩
    (try simp only [sI, sS, sZ])
    refine wpBut_r1 (i := 0) (by kernel_rfl) ?_
    refine go_call 0 11 #[tt,tt,tt,ff,tt,tt,ff,ff] rfl rfl rfl (by rfl) rfl rfl (by rfl) ent34 (by rfl) (Hint.out _) ?_
    rintro e wW23 ⟨rfl, hb⟩
    have hkW23 := held_next hkW22 hb
    replace MA4 := Lib.hid (MA4.out.call hb)
    replace MA5 := Lib.hid (MA5.out.call hb)
    refine ⟨_, rfl, fun _ => hkW23, ?_⟩
    clear hb
    (try simp only [sI, sS, sZ])
    refine wpBut_r1 (i := 3) (by kernel_rfl) ?_
    refine go_call 3 14 #[tt,tt,tt,tt,tt,tt,ff,ff] rfl rfl rfl (by rfl) rfl rfl (by rfl) ent31 (by rfl) (Ht.out y y Hy.out Hy.out _) ?_
    rintro e wW24 ⟨s, hs, hsr, rfl, hb⟩
    have hkW24 := held_next hkW23 hb
    replace MA4 := Lib.hid (MA4.out.call hb)
    replace MA5 := Lib.hid (MA5.out.call hb)
    refine ⟨_, rfl, fun _ => hkW24, ?_⟩
    clear hb
    (try simp only [sI, sS, sZ])
    refine wpBut_r1 (i := 6) (by kernel_rfl) ?_
    obtain ⟨Zq, hZ, mZ⟩ := MA4.out
    refine go_store2 6 #[tt,tt,tt,tt,tt,tt,tt,ff] rfl rfl rfl (by rfl) 36 _ _ rfl _ _ rfl rfl 36 Zq mZ (by rw [e4_size]; kernel_rfl) (hZ.trans (e4_size ..).symm) (row_one _ _ _) ?_
    intro wW25 hw2
    have hkW25 := below_setRow (hkW24) _ (e4 1) HA4.out
    rw [← hw2] at hkW25
    clear MA4
    replace MA5 := Lib.hid (MA5.out.setRow_other _ (e4 1) (show _ ≠ W2.drew.heap.size by omega))
    have MA4 := Lib.hid (mZ.setRow (e4 1))
    rw [← hw2] at MA5 MA4; clear mZ hZ hw2
    refine ⟨fun _ => hkW25, ?_⟩
    (try simp only [sI, sS, sZ])
    refine wpBut_r1 (i := 7) (by kernel_rfl) ?_
    obtain ⟨Zq, hZ, mZ⟩ := MA5.out
    refine go_store2 7 #[tt,tt,tt,tt,tt,tt,tt,tt] rfl rfl rfl (by rfl) 36 _ _ rfl _ _ rfl rfl 36 Zq mZ (by rw [e4_size]; kernel_rfl) (hZ.trans (e4_size ..).symm) (row_one _ _ _) ?_
    intro wW26 hw2
    have hkW26 := below_setRow (hkW25) _ (e4 s) HA5.out
    rw [← hw2] at hkW26
    clear MA5
    replace MA4 := Lib.hid (MA4.out.setRow_other _ (e4 s) (show _ ≠ wW21.heap.size by omega))
    have MA5 := Lib.hid (mZ.setRow (e4 s))
    rw [← hw2] at MA4 MA5; clear mZ hZ hw2
    refine ⟨fun _ => hkW26, ?_⟩
    (try simp only [sI, sS, sZ])
    exact wpBut_done (by kernel_rfl) (NoPanic.normal (HQ.out (_, _, s) _ ⟨hs, hsr, HA4.out, MA4.out, HA5.out, MA5.out, (hkW26)⟩))
    refine go_alloc 5 7 #[ff,tt,tt,ff,ff,tt,ff,ff] rfl rfl rfl (by rfl) 36 rfl _ al36 ?_
    intro wW21 hw2
    have hkW21 := ((below_dr W2)).alloc ((below_dr W2)).size (.cells z36 36)
    rw [← hw2] at hkW21
    have MA5 := Lib.hid (HasN.new (W2.drew) z36 36 4 (by kernel_rfl))
    rw [← hw2] at MA5
    have HA5 := Lib.hid (show W2.heap.size ≤ _ from ((below_dr W2)).size)
    clear hw2
    refine ⟨fun _ => hkW21, ?_⟩
    (try simp only [sI, sS, sZ])
    refine wpBut_r2 (i := 0) (j := 4) (by kernel_rfl) ?_ ?_
    refine go_call 0 11 #[tt,tt,tt,ff,ff,tt,ff,ff] rfl rfl rfl (by rfl) rfl rfl (by rfl) ent34 (by rfl) (Hint.out _) ?_
    rintro e wW22 ⟨rfl, hb⟩
    have hkW22 := held_next hkW21 hb
    replace MA5 := Lib.hid (MA5.out.call hb)
    refine ⟨_, rfl, fun _ => hkW22, ?_⟩
    clear hb
    (try simp only [sI, sS, sZ])
    refine wpBut_r2 (i := 3) (j := 4) (by kernel_rfl) ?_ ?_
    refine go_call 3 14 #[tt,tt,tt,tt,ff,tt,ff,ff] rfl rfl rfl (by rfl) rfl rfl (by rfl) ent31 (by rfl) (Ht.out y y Hy.out Hy.out _) ?_
    rintro e wW23 ⟨s, hs, hsr, rfl, hb⟩
    have hkW23 := held_next hkW22 hb
    replace MA5 := Lib.hid (MA5.out.call hb)
    refine ⟨_, rfl, fun _ => hkW23, ?_⟩
    clear hb
    (try simp only [sI, sS, sZ])
    refine wpBut_r1 (i := 4) (by kernel_rfl) ?_
    refine go_alloc 4 6 #[tt,tt,tt,tt,tt,tt,ff,ff] rfl rfl rfl (by rfl) 36 rfl _ al36 ?_
    intro wW24 hw2
    have hkW24 := (hkW23).alloc (hkW23).size (.cells z36 36)
    rw [← hw2] at hkW24
    have hne5_4 := MA5.out.lt
    replace MA5 := Lib.hid (MA5.out.alloc (.cells z36 36))
    have MA4 := Lib.hid (HasN.new (wW23) z36 36 4 (by kernel_rfl))
    rw [← hw2] at MA5 MA4
    have HA4 := Lib.hid (show W2.heap.size ≤ _ from (hkW23).size)
    clear hw2
    refine ⟨fun _ => hkW24, ?_⟩
    (try simp only [sI, sS, sZ])
    refine wpBut_r1 (i := 6) (by kernel_rfl) ?_
    obtain ⟨Zq, hZ, mZ⟩ := MA4.out
    refine go_store2 6 #[tt,tt,tt,tt,tt,tt,tt,ff] rfl rfl rfl (by rfl) 36 _ _ rfl _ _ rfl rfl 36 Zq mZ (by rw [e4_size]; kernel_rfl) (hZ.trans (e4_size ..).symm) (row_one _ _ _) ?_
    intro wW25 hw2
    have hkW25 := below_setRow (hkW24) _ (e4 1) HA4.out
    rw [← hw2] at hkW25
    clear MA4
    replace MA5 := Lib.hid (MA5.out.setRow_other _ (e4 1) (show _ ≠ wW23.heap.size by omega))
    have MA4 := Lib.hid (mZ.setRow (e4 1))
    rw [← hw2] at MA5 MA4; clear mZ hZ hw2
    refine ⟨fun _ => hkW25, ?_⟩
    (try simp only [sI, sS, sZ])
    refine wpBut_r1 (i := 7) (by kernel_rfl) ?_
    obtain ⟨Zq, hZ, mZ⟩ := MA5.out
    refine go_store2 7 #[tt,tt,tt,tt,tt,tt,tt,tt] rfl rfl rfl (by rfl) 36 _ _ rfl _ _ rfl rfl 36 Zq mZ (by rw [e4_size]; kernel_rfl) (hZ.trans (e4_size ..).symm) (row_one _ _ _) ?_
    intro wW26 hw2
    have hkW26 := below_setRow (hkW25) _ (e4 s) HA5.out
    rw [← hw2] at hkW26
    clear MA5
    replace MA4 := Lib.hid (MA4.out.setRow_other _ (e4 s) (show _ ≠ W2.drew.heap.size by omega))
    have MA5 := Lib.hid (mZ.setRow (e4 s))
    rw [← hw2] at MA4 MA5; clear mZ hZ hw2
    refine ⟨fun _ => hkW26, ?_⟩
    (try simp only [sI, sS, sZ])
    exact wpBut_done (by kernel_rfl) (NoPanic.normal (HQ.out (_, _, s) _ ⟨hs, hsr, HA4.out, MA4.out, HA5.out, MA5.out, (hkW26)⟩))
    refine go_alloc 4 6 #[tt,tt,tt,ff,tt,tt,ff,ff] rfl rfl rfl (by rfl) 36 rfl _ al36 ?_
    intro wW23 hw2
    have hkW23 := (hkW22).alloc (hkW22).size (.cells z36 36)
    rw [← hw2] at hkW23
    have hne5_4 := MA5.out.lt
    replace MA5 := Lib.hid (MA5.out.alloc (.cells z36 36))
    have MA4 := Lib.hid (HasN.new (wW22) z36 36 4 (by kernel_rfl))
    rw [← hw2] at MA5 MA4
    have HA4 := Lib.hid (show W2.heap.size ≤ _ from (hkW22).size)
    clear hw2
    refine ⟨fun _ => hkW23, ?_⟩
    (try simp only [sI, sS, sZ])
    refine wpBut_r1 (i := 3) (by kernel_rfl) ?_
    refine go_call 3 14 #[tt,tt,tt,tt,tt,tt,ff,ff] rfl rfl rfl (by rfl) rfl rfl (by rfl) ent31 (by rfl) (Ht.out y y Hy.out Hy.out _) ?_
    rintro e wW24 ⟨s, hs, hsr, rfl, hb⟩
    have hkW24 := held_next hkW23 hb
    replace MA5 := Lib.hid (MA5.out.call hb)
    replace MA4 := Lib.hid (MA4.out.call hb)
    refine ⟨_, rfl, fun _ => hkW24, ?_⟩
    clear hb
    (try simp only [sI, sS, sZ])
    refine wpBut_r1 (i := 6) (by kernel_rfl) ?_
    obtain ⟨Zq, hZ, mZ⟩ := MA4.out
    refine go_store2 6 #[tt,tt,tt,tt,tt,tt,tt,ff] rfl rfl rfl (by rfl) 36 _ _ rfl _ _ rfl rfl 36 Zq mZ (by rw [e4_size]; kernel_rfl) (hZ.trans (e4_size ..).symm) (row_one _ _ _) ?_
    intro wW25 hw2
    have hkW25 := below_setRow (hkW24) _ (e4 1) HA4.out
    rw [← hw2] at hkW25
    clear MA4
    replace MA5 := Lib.hid (MA5.out.setRow_other _ (e4 1) (show _ ≠ wW22.heap.size by omega))
    have MA4 := Lib.hid (mZ.setRow (e4 1))
    rw [← hw2] at MA5 MA4; clear mZ hZ hw2
    refine ⟨fun _ => hkW25, ?_⟩
    (try simp only [sI, sS, sZ])
    refine wpBut_r1 (i := 7) (by kernel_rfl) ?_
    obtain ⟨Zq, hZ, mZ⟩ := MA5.out
    refine go_store2 7 #[tt,tt,tt,tt,tt,tt,tt,tt] rfl rfl rfl (by rfl) 36 _ _ rfl _ _ rfl rfl 36 Zq mZ (by rw [e4_size]; kernel_rfl) (hZ.trans (e4_size ..).symm) (row_one _ _ _) ?_
    intro wW26 hw2
    have hkW26 := below_setRow (hkW25) _ (e4 s) HA5.out
    rw [← hw2] at hkW26
    clear MA5
    replace MA4 := Lib.hid (MA4.out.setRow_other _ (e4 s) (show _ ≠ W2.drew.heap.size by omega))
    have MA5 := Lib.hid (mZ.setRow (e4 s))
    rw [← hw2] at MA4 MA5; clear mZ hZ hw2
    refine ⟨fun _ => hkW26, ?_⟩
    (try simp only [sI, sS, sZ])
    exact wpBut_done (by kernel_rfl) (NoPanic.normal (HQ.out (_, _, s) _ ⟨hs, hsr, HA4.out, MA4.out, HA5.out, MA5.out, (hkW26)⟩))
    refine go_alloc 4 6 #[ff,tt,tt,ff,tt,tt,ff,ff] rfl rfl rfl (by rfl) 36 rfl _ al36 ?_
    intro wW22 hw2
    have hkW22 := (hkW21).alloc (hkW21).size (.cells z36 36)
    rw [← hw2] at hkW22
    have hne5_4 := MA5.out.lt
    replace MA5 := Lib.hid (MA5.out.alloc (.cells z36 36))
    have MA4 := Lib.hid (HasN.new (wW21) z36 36 4 (by kernel_rfl))
    rw [← hw2] at MA5 MA4
    have HA4 := Lib.hid (show W2.heap.size ≤ _ from (hkW21).size)
    clear hw2
    refine ⟨fun _ => hkW22, ?_⟩
    (try simp only [sI, sS, sZ])
    refine wpBut_r1 (i := 0) (by kernel_rfl) ?_
    refine go_call 0 11 #[tt,tt,tt,ff,tt,tt,ff,ff] rfl rfl rfl (by rfl) rfl rfl (by rfl) ent34 (by rfl) (Hint.out _) ?_
    rintro e wW23 ⟨rfl, hb⟩
    have hkW23 := held_next hkW22 hb
    replace MA5 := Lib.hid (MA5.out.call hb)
    replace MA4 := Lib.hid (MA4.out.call hb)
    refine ⟨_, rfl, fun _ => hkW23, ?_⟩
    clear hb
    (try simp only [sI, sS, sZ])
    refine wpBut_r1 (i := 3) (by kernel_rfl) ?_
    refine go_call 3 14 #[tt,tt,tt,tt,tt,tt,ff,ff] rfl rfl rfl (by rfl) rfl rfl (by rfl) ent31 (by rfl) (Ht.out y y Hy.out Hy.out _) ?_
    rintro e wW24 ⟨s, hs, hsr, rfl, hb⟩
    have hkW24 := held_next hkW23 hb
    replace MA5 := Lib.hid (MA5.out.call hb)
    replace MA4 := Lib.hid (MA4.out.call hb)
    refine ⟨_, rfl, fun _ => hkW24, ?_⟩
    clear hb
    (try simp only [sI, sS, sZ])
    refine wpBut_r1 (i := 6) (by kernel_rfl) ?_
    obtain ⟨Zq, hZ, mZ⟩ := MA4.out
    refine go_store2 6 #[tt,tt,tt,tt,tt,tt,tt,ff] rfl rfl rfl (by rfl) 36 _ _ rfl _ _ rfl rfl 36 Zq mZ (by rw [e4_size]; kernel_rfl) (hZ.trans (e4_size ..).symm) (row_one _ _ _) ?_
    intro wW25 hw2
    have hkW25 := below_setRow (hkW24) _ (e4 1) HA4.out
    rw [← hw2] at hkW25
    clear MA4
    replace MA5 := Lib.hid (MA5.out.setRow_other _ (e4 1) (show _ ≠ wW21.heap.size by omega))
    have MA4 := Lib.hid (mZ.setRow (e4 1))
    rw [← hw2] at MA5 MA4; clear mZ hZ hw2
    refine ⟨fun _ => hkW25, ?_⟩
    (try simp only [sI, sS, sZ])
    refine wpBut_r1 (i := 7) (by kernel_rfl) ?_
    obtain ⟨Zq, hZ, mZ⟩ := MA5.out
    refine go_store2 7 #[tt,tt,tt,tt,tt,tt,tt,tt] rfl rfl rfl (by rfl) 36 _ _ rfl _ _ rfl rfl 36 Zq mZ (by rw [e4_size]; kernel_rfl) (hZ.trans (e4_size ..).symm) (row_one _ _ _) ?_
    intro wW26 hw2
    have hkW26 := below_setRow (hkW25) _ (e4 s) HA5.out
    rw [← hw2] at hkW26
    clear MA5
    replace MA4 := Lib.hid (MA4.out.setRow_other _ (e4 s) (show _ ≠ W2.drew.heap.size by omega))
    have MA5 := Lib.hid (mZ.setRow (e4 s))
    rw [← hw2] at MA4 MA5; clear mZ hZ hw2
    refine ⟨fun _ => hkW26, ?_⟩
    (try simp only [sI, sS, sZ])
    exact wpBut_done (by kernel_rfl) (NoPanic.normal (HQ.out (_, _, s) _ ⟨hs, hsr, HA4.out, MA4.out, HA5.out, MA5.out, (hkW26)⟩))
  · rintro W2 ⟨B6, B7, s⟩ vw2 hW2 ⟨hs, hsr, hBq0, mBq0, hBq1, mBq1, hbw⟩
    simp only [Act.put, List.setIfInBounds_toArray, List.set_cons_succ, List.set_cons_zero] at hs hsr hBq0  mBq0 hBq1  mBq1 ⊢
    rw [← hW2] at M2 M4 HB
    clear hW2
    have hltM2_2 := M2.out.lt
    have hltM4_2 := M4.out.lt
    replace M2 := Lib.hid (M2.out.call hbw)
    replace M4 := Lib.hid (M4.out.call hbw)
    replace HB := Lib.hid (held_next HB.out hbw)
    have M6 := Lib.hid mBq0; clear mBq0
    have M7 := Lib.hid mBq1; clear mBq1
    clear hbw
    have Hsr := Lib.hid hsr; clear hsr
    repeat ((fail_if_success (with_reducible (show wpList _ _ _ _ _ _))); go_step)
    refine wp_region_meet (α := Nat × Nat × Nat × Nat × Nat × Nat × Nat) (fun W0 x w' => x.2.2.2.2.2.2 < 115792089237316195423570985008687907853269984665640564039457584007913129639936 ∧ x.2.2.2.2.2.2 % PP = R3 ∧ W0.heap.size ≤ x.1 ∧ Has w' x.1 (e4 x.2.2.2.2.2.2) 36 ∧ Below W0.heap.size W0 w') (fun ac x => (((((((((((((((ac.put (some 16) (.agg (e4 s))).put (some 17) (.agg (e4 1))).put (some 18) (.agg (e4 x.2.1))).put (some 19) (.agg (e4 x.2.2.1))).put (some 20) (.agg (e4 s))).put (some 21) (.agg (e4 x.2.2.2.1))).put (some 22) (.agg (e4 1))).put (some 23) (.agg (e4 x.2.2.2.2.1))).put (some 24) (.agg (e4 x.2.2.2.2.2.1))).put (some 25) (.tuple #[.agg (e4 x.2.2.2.2.2.2), .bool ok])).put (some 15) (.tuple #[.agg (e4 x.2.2.2.2.2.2), .bool ok])).put (some 26) (.agg (e4 x.2.2.2.2.2.2))).put (some 27) (.bool ok)).put (some 9) (.bool ok)).put (some 8) (.pointer (some ⟨x.1, 0, none⟩)))) ?_ ?_
    · intro Q' hQ'
      refine wp_region_noPanic ?_
      refine wp_region_go 99 16 #[ff,ff,ff,ff,ff,ff,ff,ff,ff,ff,ff,ff,ff,ff,ff,ff] (by kernel_rfl) rfl rfl ?_
      intro W3 hW3
      rw [← hW3] at hQ'
      simp only [Act.put, List.setIfInBounds_toArray, List.set_cons_succ, List.set_cons_zero] at hQ'
      have HQ := Lib.hid hQ'; clear hQ'
      rw [← hW3] at M2 M4 M6 M7 HB
      clear hW3
      refine go_take2 0 16 #[tt,ff,ff,ff,ff,ff,ff,ff,ff,ff,ff,ff,ff,ff,ff,ff] rfl rfl rfl (by kernel_rfl) (yieldsIf_load_row (by rfl) 36 _ rfl (B7) rfl 36 (e4 s) (fun _ h => M7.out.below h M7.out.lt) Try.underlying36 rfl (by rw [e4_size]; kernel_rfl)) ((below_dr W3)) ?_
      (try simp only [sI, sS, sZ])
      refine go_take2 1 17 #[tt,tt,ff,ff,ff,ff,ff,ff,ff,ff,ff,ff,ff,ff,ff,ff] rfl rfl rfl (by kernel_rfl) (yieldsIf_load_row (by rfl) 36 _ rfl (B6) rfl 36 (e4 1) (fun _ h => M6.out.below h M6.out.lt) Try.underlying36 rfl (by rw [e4_size]; kernel_rfl)) ((below_dr W3)) ?_
      (try simp only [sI, sS, sZ])
      refine go_take2 4 20 #[tt,tt,ff,ff,tt,ff,ff,ff,ff,ff,ff,ff,ff,ff,ff,ff] rfl rfl rfl (by kernel_rfl) (yieldsIf_load_row (by rfl) 36 _ rfl (B7) rfl 36 (e4 s) (fun _ h => M7.out.below h M7.out.lt) Try.underlying36 rfl (by rw [e4_size]; kernel_rfl)) ((below_dr W3)) ?_
      (try simp only [sI, sS, sZ])
      refine go_take2 6 22 #[tt,tt,ff,ff,tt,ff,tt,ff,ff,ff,ff,ff,ff,ff,ff,ff] rfl rfl rfl (by kernel_rfl) (yieldsIf_load_row (by rfl) 36 _ rfl (B6) rfl 36 (e4 1) (fun _ h => M6.out.below h M6.out.lt) Try.underlying36 rfl (by rw [e4_size]; kernel_rfl)) ((below_dr W3)) ?_
      (try simp only [sI, sS, sZ])
      refine wpBut_r2 (i := 2) (j := 13) (by kernel_rfl) ?_ ?_
      refine go_call 2 18 #[tt,tt,tt,ff,tt,ff,tt,ff,ff,ff,ff,ff,ff,ff,ff,ff] rfl rfl rfl (by rfl) rfl rfl (by rfl) ent39 (by rfl) (Hmi.out s 1 hs Hone.out _) ?_
      rintro e wW31 ⟨n1, hn1, hn1r, rfl, hb⟩
      have hkW31 := held_next (below_dr W3) hb
      refine ⟨_, rfl, fun _ => hkW31, ?_⟩
      clear hb
      (try simp only [sI, sS, sZ])
      refine wpBut_r2 (i := 3) (j := 13) (by kernel_rfl) ?_ ?_
      refine go_call 3 19 #[tt,tt,tt,tt,tt,ff,tt,ff,ff,ff,ff,ff,ff,ff,ff,ff] rfl rfl rfl (by rfl) rfl rfl (by rfl) ent91 (by rfl) (Hsl.out _) ?_
      rintro e wW32 ⟨n2, hn2, hn2r, rfl, hb⟩
      have hkW32 := held_next hkW31 hb
      refine ⟨_, rfl, fun _ => hkW32, ?_⟩
      clear hb
      (try simp only [sI, sS, sZ])
      refine wpBut_r2 (i := 5) (j := 13) (by kernel_rfl) ?_ ?_
      refine go_call 5 21 #[tt,tt,tt,tt,tt,tt,tt,ff,ff,ff,ff,ff,ff,ff,ff,ff] rfl rfl rfl (by rfl) rfl rfl (by rfl) ent31 (by rfl) (Ht.out n2 s hn2 hs _) ?_
      rintro e wW33 ⟨n3, hn3, hn3r, rfl, hb⟩
      have hkW33 := held_next hkW32 hb
      refine ⟨_, rfl, fun _ => hkW33, ?_⟩
      clear hb
      (try simp only [sI, sS, sZ])
      refine wpBut_r2 (i := 7) (j := 13) (by kernel_rfl) ?_ ?_
      refine go_call 7 23 #[tt,tt,tt,tt,tt,tt,tt,tt,ff,ff,ff,ff,ff,ff,ff,ff] rfl rfl rfl (by rfl) rfl rfl (by rfl) ent37 (by rfl) (Hp.out n3 1 hn3 Hone.out _) ?_
      rintro e wW34 ⟨n4, hn4, hn4r, rfl, hb⟩
      have hkW34 := held_next hkW33 hb
      refine ⟨_, rfl, fun _ => hkW34, ?_⟩
      clear hb
      (try simp only [sI, sS, sZ])
      refine wpBut_r2 (i := 8) (j := 13) (by kernel_rfl) ?_ ?_
      refine go_call 8 24 #[tt,tt,tt,tt,tt,tt,tt,tt,tt,ff,ff,ff,ff,ff,ff,ff] rfl rfl rfl (by rfl) rfl rfl (by rfl) ent42 (by rfl) (Hov.out n1 n4 hn1 hn4 _) ?_
      rintro e wW35 ⟨n5, hn5, hn5r, rfl, hb⟩
      have hkW35 := held_next hkW34 hb
      refine ⟨_, rfl, fun _ => hkW35, ?_⟩
      clear hb
      (try simp only [sI, sS, sZ])
      refine wpBut_r2 (i := 9) (j := 13) (by kernel_rfl) ?_ ?_
      refine go_call 9 25 #[tt,tt,tt,tt,tt,tt,tt,tt,tt,tt,ff,ff,ff,ff,ff,ff] rfl rfl rfl (by rfl) rfl rfl (by rfl) ent44 (by rfl) (Hru.out n5 hn5 (Hcx.out s n1 n2 n3 n4 n5 Hsr.out hn1r hn2r hn3r hn4r hn5r) _) ?_
      rintro e wW36 ⟨m, hm, hmr, rfl, hb⟩
      have hkW36 := held_next hkW35 hb
      refine ⟨_, rfl, fun _ => hkW36, ?_⟩
      clear hb
      (try simp only [sI, sS, sZ])
      refine go_take2 10 15 #[tt,tt,tt,tt,tt,tt,tt,tt,tt,tt,tt,ff,ff,ff,ff,ff] (v := ?uv1) rfl rfl rfl (by kernel_rfl) (Or.inl ⟨by rfl, ?uy1⟩) (hkW36) ?urest1
      case uy1 => (intro _ _; go_simp; try with_reducible rfl)
      (try simp only [sI, sS, sZ])
      refine go_take2 11 26 #[tt,tt,tt,tt,tt,tt,tt,tt,tt,tt,tt,tt,ff,ff,ff,ff] (v := ?uv2) rfl rfl rfl (by kernel_rfl) (Or.inl ⟨by rfl, ?uy2⟩) (hkW36) ?urest2
      case uy2 => (intro _ _; go_simp; try with_reducible rfl)
      (try simp only [sI, sS, sZ])
      refine go_take2 12 27 #[tt,tt,tt,tt,tt,tt,tt,tt,tt,tt,tt,tt,tt,ff,ff,ff] (v := ?uv3) rfl rfl rfl (by kernel_rfl) (Or.inl ⟨by rfl, ?uy3⟩) (hkW36) ?urest3
      case uy3 => (intro _ _; go_simp; try with_reducible rfl)
      (try simp only [sI, sS, sZ])
      refine wpBut_r1 (i := 13) (by kernel_rfl) ?_
      refine go_alloc 13 8 #[tt,tt,tt,tt,tt,tt,tt,tt,tt,tt,tt,tt,tt,tt,ff,ff] rfl rfl rfl (by rfl) 36 rfl _ al36 ?_
      intro wW37 hw2
      have hkW37 := (hkW36).alloc (hkW36).size (.cells z36 36)
      rw [← hw2] at hkW37
      have MA13 := Lib.hid (HasN.new (wW36) z36 36 4 (by kernel_rfl))
      rw [← hw2] at MA13
      have HA13 := Lib.hid (show W3.heap.size ≤ _ from (hkW36).size)
      clear hw2
      refine ⟨fun _ => hkW37, ?_⟩
      (try simp only [sI, sS, sZ])
      refine wpBut_r1 (i := 14) (by kernel_rfl) ?_
      obtain ⟨Zq, hZ, mZ⟩ := MA13.out
      refine go_store2 14 #[tt,tt,tt,tt,tt,tt,tt,tt,tt,tt,tt,tt,tt,tt,tt,ff] rfl rfl rfl (by rfl) 36 _ _ rfl _ _ rfl rfl 36 Zq mZ (by rw [e4_size]; kernel_rfl) (hZ.trans (e4_size ..).symm) (row_one _ _ _) ?_
      intro wW38 hw2
      have hkW38 := below_setRow (hkW37) _ (e4 m) HA13.out
      rw [← hw2] at hkW38
      clear MA13
      have MA13 := Lib.hid (mZ.setRow (e4 m))
      rw [← hw2] at MA13; clear mZ hZ hw2
      refine ⟨fun _ => hkW38, ?_⟩
      (try simp only [sI, sS, sZ])
      refine go_take2 15 9 #[tt,tt,tt,tt,tt,tt,tt,tt,tt,tt,tt,tt,tt,tt,tt,tt] (v := ?uv4) rfl rfl rfl (by kernel_rfl) (Or.inl ⟨by rfl, ?uy4⟩) (hkW38) ?urest4
      case uy4 => (intro _ _; go_simp; try with_reducible rfl)
      (try simp only [sI, sS, sZ])
      exact wpBut_done (by kernel_rfl) (NoPanic.normal (HQ.out (_, n1, n2, n3, n4, n5, m) _ ⟨hm, hmr, HA13.out, MA13.out, (hkW38)⟩))
      refine go_alloc 13 8 #[tt,tt,tt,tt,tt,tt,tt,tt,tt,ff,ff,ff,ff,tt,ff,ff] rfl rfl rfl (by rfl) 36 rfl _ al36 ?_
      intro wW36 hw2
      have hkW36 := (hkW35).alloc (hkW35).size (.cells z36 36)
      rw [← hw2] at hkW36
      have MA13 := Lib.hid (HasN.new (wW35) z36 36 4 (by kernel_rfl))
      rw [← hw2] at MA13
      have HA13 := Lib.hid (show W3.heap.size ≤ _ from (hkW35).size)
      clear hw2
      refine ⟨fun _ => hkW36, ?_⟩
      (try simp only [sI, sS, sZ])
      refine wpBut_r1 (i := 9) (by kernel_rfl) ?_
      refine go_call 9 25 #[tt,tt,tt,tt,tt,tt,tt,tt,tt,tt,ff,ff,ff,tt,ff,ff] rfl rfl rfl (by rfl) rfl rfl (by rfl) ent44 (by rfl) (Hru.out n5 hn5 (Hcx.out s n1 n2 n3 n4 n5 Hsr.out hn1r hn2r hn3r hn4r hn5r) _) ?_
      rintro e wW37 ⟨m, hm, hmr, rfl, hb⟩
      have hkW37 := held_next hkW36 hb
      replace MA13 := Lib.hid (MA13.out.call hb)
      refine ⟨_, rfl, fun _ => hkW37, ?_⟩
      clear hb
      (try simp only [sI, sS, sZ])
      refine go_take2 10 15 #[tt,tt,tt,tt,tt,tt,tt,tt,tt,tt,tt,ff,ff,tt,ff,ff] (v := ?uv5) rfl rfl rfl (by kernel_rfl) (Or.inl ⟨by rfl, ?uy5⟩) (hkW37) ?urest5
      case uy5 => (intro _ _; go_simp; try with_reducible rfl)
      (try simp only [sI, sS, sZ])
      refine go_take2 11 26 #[tt,tt,tt,tt,tt,tt,tt,tt,tt,tt,tt,tt,ff,tt,ff,ff] (v := ?uv6) rfl rfl rfl (by kernel_rfl) (Or.inl ⟨by rfl, ?uy6⟩) (hkW37) ?urest6
      case uy6 => (intro _ _; go_simp; try with_reducible rfl)
      (try simp only [sI, sS, sZ])
      refine go_take2 12 27 #[tt,tt,tt,tt,tt,tt,tt,tt,tt,tt,tt,tt,tt,tt,ff,ff] (v := ?uv7) rfl rfl rfl (by kernel_rfl) (Or.inl ⟨by rfl, ?uy7⟩) (hkW37) ?urest7
      case uy7 => (intro _ _; go_simp; try with_reducible rfl)
      (try simp only [sI, sS, sZ])
      refine wpBut_r1 (i := 14) (by kernel_rfl) ?_
      obtain ⟨Zq, hZ, mZ⟩ := MA13.out
      refine go_store2 14 #[tt,tt,tt,tt,tt,tt,tt,tt,tt,tt,tt,tt,tt,tt,tt,ff] rfl rfl rfl (by rfl) 36 _ _ rfl _ _ rfl rfl 36 Zq mZ (by rw [e4_size]; kernel_rfl) (hZ.trans (e4_size ..).symm) (row_one _ _ _) ?_
      intro wW38 hw2
      have hkW38 := below_setRow (hkW37) _ (e4 m) HA13.out
      rw [← hw2] at hkW38
      clear MA13
      have MA13 := Lib.hid (mZ.setRow (e4 m))
      rw [← hw2] at MA13; clear mZ hZ hw2
      refine ⟨fun _ => hkW38, ?_⟩
      (try simp only [sI, sS, sZ])
      refine go_take2 15 9 #[tt,tt,tt,tt,tt,tt,tt,tt,tt,tt,tt,tt,tt,tt,tt,tt] (v := ?uv8) rfl rfl rfl (by kernel_rfl) (Or.inl ⟨by rfl, ?uy8⟩) (hkW38) ?urest8
      case uy8 => (intro _ _; go_simp; try with_reducible rfl)
      (try simp only [sI, sS, sZ])
      exact wpBut_done (by kernel_rfl) (NoPanic.normal (HQ.out (_, n1, n2, n3, n4, n5, m) _ ⟨hm, hmr, HA13.out, MA13.out, (hkW38)⟩))
      refine go_alloc 13 8 #[tt,tt,tt,tt,tt,tt,tt,tt,ff,ff,ff,ff,ff,tt,ff,ff] rfl rfl rfl (by rfl) 36 rfl _ al36 ?_
      intro wW35 hw2
      have hkW35 := (hkW34).alloc (hkW34).size (.cells z36 36)
      rw [← hw2] at hkW35
      have MA13 := Lib.hid (HasN.new (wW34) z36 36 4 (by kernel_rfl))
      rw [← hw2] at MA13
      have HA13 := Lib.hid (show W3.heap.size ≤ _ from (hkW34).size)
      clear hw2
      refine ⟨fun _ => hkW35, ?_⟩
      (try simp only [sI, sS, sZ])
      refine wpBut_r1 (i := 8) (by kernel_rfl) ?_
      refine go_call 8 24 #[tt,tt,tt,tt,tt,tt,tt,tt,tt,ff,ff,ff,ff,tt,ff,ff] rfl rfl rfl (by rfl) rfl rfl (by rfl) ent42 (by rfl) (Hov.out n1 n4 hn1 hn4 _) ?_
      rintro e wW36 ⟨n5, hn5, hn5r, rfl, hb⟩
      have hkW36 := held_next hkW35 hb
      replace MA13 := Lib.hid (MA13.out.call hb)
      refine ⟨_, rfl, fun _ => hkW36, ?_⟩
      clear hb
      (try simp only [sI, sS, sZ])
      refine wpBut_r1 (i := 9) (by kernel_rfl) ?_
      refine go_call 9 25 #[tt,tt,tt,tt,tt,tt,tt,tt,tt,tt,ff,ff,ff,tt,ff,ff] rfl rfl rfl (by rfl) rfl rfl (by rfl) ent44 (by rfl) (Hru.out n5 hn5 (Hcx.out s n1 n2 n3 n4 n5 Hsr.out hn1r hn2r hn3r hn4r hn5r) _) ?_
      rintro e wW37 ⟨m, hm, hmr, rfl, hb⟩
      have hkW37 := held_next hkW36 hb
      replace MA13 := Lib.hid (MA13.out.call hb)
      refine ⟨_, rfl, fun _ => hkW37, ?_⟩
      clear hb
      (try simp only [sI, sS, sZ])
      refine go_take2 10 15 #[tt,tt,tt,tt,tt,tt,tt,tt,tt,tt,tt,ff,ff,tt,ff,ff] (v := ?uv9) rfl rfl rfl (by kernel_rfl) (Or.inl ⟨by rfl, ?uy9⟩) (hkW37) ?urest9
      case uy9 => (intro _ _; go_simp; try with_reducible rfl)
      (try simp only [sI, sS, sZ])
      refine go_take2 11 26 #[tt,tt,tt,tt,tt,tt,tt,tt,tt,tt,tt,tt,ff,tt,ff,ff] (v := ?uv10) rfl rfl rfl (by kernel_rfl) (Or.inl ⟨by rfl, ?uy10⟩) (hkW37) ?urest10
      case uy10 => (intro _ _; go_simp; try with_reducible rfl)
      (try simp only [sI, sS, sZ])
      refine go_take2 12 27 #[tt,tt,tt,tt,tt,tt,tt,tt,tt,tt,tt,tt,tt,tt,ff,ff] (v := ?uv11) rfl rfl rfl (by kernel_rfl) (Or.inl ⟨by rfl, ?uy11⟩) (hkW37) ?urest11
      case uy11 => (intro _ _; go_simp; try with_reducible rfl)
      (try simp only [sI, sS, sZ])
      refine wpBut_r1 (i := 14) (by kernel_rfl) ?_
      obtain ⟨Zq, hZ, mZ⟩ := MA13.out
      refine go_store2 14 #[tt,tt,tt,tt,tt,tt,tt,tt,tt,tt,tt,tt,tt,tt,tt,ff] rfl rfl rfl (by rfl) 36 _ _ rfl _ _ rfl rfl 36 Zq mZ (by rw [e4_size]; kernel_rfl) (hZ.trans (e4_size ..).symm) (row_one _ _ _) ?_
      intro wW38 hw2
      have hkW38 := below_setRow (hkW37) _ (e4 m) HA13.out
      rw [← hw2] at hkW38
      clear MA13
      have MA13 := Lib.hid (mZ.setRow (e4 m))
      rw [← hw2] at MA13; clear mZ hZ hw2
      refine ⟨fun _ => hkW38, ?_⟩
      (try simp only [sI, sS, sZ])
      refine go_take2 15 9 #[tt,tt,tt,tt,tt,tt,tt,tt,tt,tt,tt,tt,tt,tt,tt,tt] (v := ?uv12) rfl rfl rfl (by kernel_rfl) (Or.inl ⟨by rfl, ?uy12⟩) (hkW38) ?urest12
      case uy12 => (intro _ _; go_simp; try with_reducible rfl)
      (try simp only [sI, sS, sZ])
      exact wpBut_done (by kernel_rfl) (NoPanic.normal (HQ.out (_, n1, n2, n3, n4, n5, m) _ ⟨hm, hmr, HA13.out, MA13.out, (hkW38)⟩))
      refine go_alloc 13 8 #[tt,tt,tt,tt,tt,tt,tt,ff,ff,ff,ff,ff,ff,tt,ff,ff] rfl rfl rfl (by rfl) 36 rfl _ al36 ?_
      intro wW34 hw2
      have hkW34 := (hkW33).alloc (hkW33).size (.cells z36 36)
      rw [← hw2] at hkW34
      have MA13 := Lib.hid (HasN.new (wW33) z36 36 4 (by kernel_rfl))
      rw [← hw2] at MA13
      have HA13 := Lib.hid (show W3.heap.size ≤ _ from (hkW33).size)
      clear hw2
      refine ⟨fun _ => hkW34, ?_⟩
      (try simp only [sI, sS, sZ])
      refine wpBut_r1 (i := 7) (by kernel_rfl) ?_
      refine go_call 7 23 #[tt,tt,tt,tt,tt,tt,tt,tt,ff,ff,ff,ff,ff,tt,ff,ff] rfl rfl rfl (by rfl) rfl rfl (by rfl) ent37 (by rfl) (Hp.out n3 1 hn3 Hone.out _) ?_
      rintro e wW35 ⟨n4, hn4, hn4r, rfl, hb⟩
      have hkW35 := held_next hkW34 hb
      replace MA13 := Lib.hid (MA13.out.call hb)
      refine ⟨_, rfl, fun _ => hkW35, ?_⟩
      clear hb
      (try simp only [sI, sS, sZ])
      refine wpBut_r1 (i := 8) (by kernel_rfl) ?_
      refine go_call 8 24 #[tt,tt,tt,tt,tt,tt,tt,tt,tt,ff,ff,ff,ff,tt,ff,ff] rfl rfl rfl (by rfl) rfl rfl (by rfl) ent42 (by rfl) (Hov.out n1 n4 hn1 hn4 _) ?_
      rintro e wW36 ⟨n5, hn5, hn5r, rfl, hb⟩
      have hkW36 := held_next hkW35 hb
      replace MA13 := Lib.hid (MA13.out.call hb)
      refine ⟨_, rfl, fun _ => hkW36, ?_⟩
      clear hb
      (try simp only [sI, sS, sZ])
      refine wpBut_r1 (i := 9) (by kernel_rfl) ?_
      refine go_call 9 25 #[tt,tt,tt,tt,tt,tt,tt,tt,tt,tt,ff,ff,ff,tt,ff,ff] rfl rfl rfl (by rfl) rfl rfl (by rfl) ent44 (by rfl) (Hru.out n5 hn5 (Hcx.out s n1 n2 n3 n4 n5 Hsr.out hn1r hn2r hn3r hn4r hn5r) _) ?_
      rintro e wW37 ⟨m, hm, hmr, rfl, hb⟩
      have hkW37 := held_next hkW36 hb
      replace MA13 := Lib.hid (MA13.out.call hb)
      refine ⟨_, rfl, fun _ => hkW37, ?_⟩
      clear hb
      (try simp only [sI, sS, sZ])
      refine go_take2 10 15 #[tt,tt,tt,tt,tt,tt,tt,tt,tt,tt,tt,ff,ff,tt,ff,ff] (v := ?uv13) rfl rfl rfl (by kernel_rfl) (Or.inl ⟨by rfl, ?uy13⟩) (hkW37) ?urest13
      case uy13 => (intro _ _; go_simp; try with_reducible rfl)
      (try simp only [sI, sS, sZ])
      refine go_take2 11 26 #[tt,tt,tt,tt,tt,tt,tt,tt,tt,tt,tt,tt,ff,tt,ff,ff] (v := ?uv14) rfl rfl rfl (by kernel_rfl) (Or.inl ⟨by rfl, ?uy14⟩) (hkW37) ?urest14
      case uy14 => (intro _ _; go_simp; try with_reducible rfl)
      (try simp only [sI, sS, sZ])
      refine go_take2 12 27 #[tt,tt,tt,tt,tt,tt,tt,tt,tt,tt,tt,tt,tt,tt,ff,ff] (v := ?uv15) rfl rfl rfl (by kernel_rfl) (Or.inl ⟨by rfl, ?uy15⟩) (hkW37) ?urest15
      case uy15 => (intro _ _; go_simp; try with_reducible rfl)
      (try simp only [sI, sS, sZ])
      refine wpBut_r1 (i := 14) (by kernel_rfl) ?_
      obtain ⟨Zq, hZ, mZ⟩ := MA13.out
      refine go_store2 14 #[tt,tt,tt,tt,tt,tt,tt,tt,tt,tt,tt,tt,tt,tt,tt,ff] rfl rfl rfl (by rfl) 36 _ _ rfl _ _ rfl rfl 36 Zq mZ (by rw [e4_size]; kernel_rfl) (hZ.trans (e4_size ..).symm) (row_one _ _ _) ?_
      intro wW38 hw2
      have hkW38 := below_setRow (hkW37) _ (e4 m) HA13.out
      rw [← hw2] at hkW38
      clear MA13
      have MA13 := Lib.hid (mZ.setRow (e4 m))
      rw [← hw2] at MA13; clear mZ hZ hw2
      refine ⟨fun _ => hkW38, ?_⟩
      (try simp only [sI, sS, sZ])
      refine go_take2 15 9 #[tt,tt,tt,tt,tt,tt,tt,tt,tt,tt,tt,tt,tt,tt,tt,tt] (v := ?uv16) rfl rfl rfl (by kernel_rfl) (Or.inl ⟨by rfl, ?uy16⟩) (hkW38) ?urest16
      case uy16 => (intro _ _; go_simp; try with_reducible rfl)
      (try simp only [sI, sS, sZ])
      exact wpBut_done (by kernel_rfl) (NoPanic.normal (HQ.out (_, n1, n2, n3, n4, n5, m) _ ⟨hm, hmr, HA13.out, MA13.out, (hkW38)⟩))
      refine go_alloc 13 8 #[tt,tt,tt,tt,tt,ff,tt,ff,ff,ff,ff,ff,ff,tt,ff,ff] rfl rfl rfl (by rfl) 36 rfl _ al36 ?_
      intro wW33 hw2
      have hkW33 := (hkW32).alloc (hkW32).size (.cells z36 36)
      rw [← hw2] at hkW33
      have MA13 := Lib.hid (HasN.new (wW32) z36 36 4 (by kernel_rfl))
      rw [← hw2] at MA13
      have HA13 := Lib.hid (show W3.heap.size ≤ _ from (hkW32).size)
      clear hw2
      refine ⟨fun _ => hkW33, ?_⟩
      (try simp only [sI, sS, sZ])
      refine wpBut_r1 (i := 5) (by kernel_rfl) ?_
      refine go_call 5 21 #[tt,tt,tt,tt,tt,tt,tt,ff,ff,ff,ff,ff,ff,tt,ff,ff] rfl rfl rfl (by rfl) rfl rfl (by rfl) ent31 (by rfl) (Ht.out n2 s hn2 hs _) ?_
      rintro e wW34 ⟨n3, hn3, hn3r, rfl, hb⟩
      have hkW34 := held_next hkW33 hb
      replace MA13 := Lib.hid (MA13.out.call hb)
      refine ⟨_, rfl, fun _ => hkW34, ?_⟩
      clear hb
      (try simp only [sI, sS, sZ])
      refine wpBut_r1 (i := 7) (by kernel_rfl) ?_
      refine go_call 7 23 #[tt,tt,tt,tt,tt,tt,tt,tt,ff,ff,ff,ff,ff,tt,ff,ff] rfl rfl rfl (by rfl) rfl rfl (by rfl) ent37 (by rfl) (Hp.out n3 1 hn3 Hone.out _) ?_
      rintro e wW35 ⟨n4, hn4, hn4r, rfl, hb⟩
      have hkW35 := held_next hkW34 hb
      replace MA13 := Lib.hid (MA13.out.call hb)
      refine ⟨_, rfl, fun _ => hkW35, ?_⟩
      clear hb
      (try simp only [sI, sS, sZ])
      refine wpBut_r1 (i := 8) (by kernel_rfl) ?_
      refine go_call 8 24 #[tt,tt,tt,tt,tt,tt,tt,tt,tt,ff,ff,ff,ff,tt,ff,ff] rfl rfl rfl (by rfl) rfl rfl (by rfl) ent42 (by rfl) (Hov.out n1 n4 hn1 hn4 _) ?_
      rintro e wW36 ⟨n5, hn5, hn5r, rfl, hb⟩
      have hkW36 := held_next hkW35 hb
      replace MA13 := Lib.hid (MA13.out.call hb)
      refine ⟨_, rfl, fun _ => hkW36, ?_⟩
      clear hb
      (try simp only [sI, sS, sZ])
      refine wpBut_r1 (i := 9) (by kernel_rfl) ?_
      refine go_call 9 25 #[tt,tt,tt,tt,tt,tt,tt,tt,tt,tt,ff,ff,ff,tt,ff,ff] rfl rfl rfl (by rfl) rfl rfl (by rfl) ent44 (by rfl) (Hru.out n5 hn5 (Hcx.out s n1 n2 n3 n4 n5 Hsr.out hn1r hn2r hn3r hn4r hn5r) _) ?_
      rintro e wW37 ⟨m, hm, hmr, rfl, hb⟩
      have hkW37 := held_next hkW36 hb
      replace MA13 := Lib.hid (MA13.out.call hb)
      refine ⟨_, rfl, fun _ => hkW37, ?_⟩
      clear hb
      (try simp only [sI, sS, sZ])
      refine go_take2 10 15 #[tt,tt,tt,tt,tt,tt,tt,tt,tt,tt,tt,ff,ff,tt,ff,ff] (v := ?uv17) rfl rfl rfl (by kernel_rfl) (Or.inl ⟨by rfl, ?uy17⟩) (hkW37) ?urest17
      case uy17 => (intro _ _; go_simp; try with_reducible rfl)
      (try simp only [sI, sS, sZ])
      refine go_take2 11 26 #[tt,tt,tt,tt,tt,tt,tt,tt,tt,tt,tt,tt,ff,tt,ff,ff] (v := ?uv18) rfl rfl rfl (by kernel_rfl) (Or.inl ⟨by rfl, ?uy18⟩) (hkW37) ?urest18
      case uy18 => (intro _ _; go_simp; try with_reducible rfl)
      (try simp only [sI, sS, sZ])
      refine go_take2 12 27 #[tt,tt,tt,tt,tt,tt,tt,tt,tt,tt,tt,tt,tt,tt,ff,ff] (v := ?uv19) rfl rfl rfl (by kernel_rfl) (Or.inl ⟨by rfl, ?uy19⟩) (hkW37) ?urest19
      case uy19 => (intro _ _; go_simp; try with_reducible rfl)
      (try simp only [sI, sS, sZ])
      refine wpBut_r1 (i := 14) (by kernel_rfl) ?_
      obtain ⟨Zq, hZ, mZ⟩ := MA13.out
      refine go_store2 14 #[tt,tt,tt,tt,tt,tt,tt,tt,tt,tt,tt,tt,tt,tt,tt,ff] rfl rfl rfl (by rfl) 36 _ _ rfl _ _ rfl rfl 36 Zq mZ (by rw [e4_size]; kernel_rfl) (hZ.trans (e4_size ..).symm) (row_one _ _ _) ?_
      intro wW38 hw2
      have hkW38 := below_setRow (hkW37) _ (e4 m) HA13.out
      rw [← hw2] at hkW38
      clear MA13
      have MA13 := Lib.hid (mZ.setRow (e4 m))
      rw [← hw2] at MA13; clear mZ hZ hw2
      refine ⟨fun _ => hkW38, ?_⟩
      (try simp only [sI, sS, sZ])
      refine go_take2 15 9 #[tt,tt,tt,tt,tt,tt,tt,tt,tt,tt,tt,tt,tt,tt,tt,tt] (v := ?uv20) rfl rfl rfl (by kernel_rfl) (Or.inl ⟨by rfl, ?uy20⟩) (hkW38) ?urest20
      case uy20 => (intro _ _; go_simp; try with_reducible rfl)
      (try simp only [sI, sS, sZ])
      exact wpBut_done (by kernel_rfl) (NoPanic.normal (HQ.out (_, n1, n2, n3, n4, n5, m) _ ⟨hm, hmr, HA13.out, MA13.out, (hkW38)⟩))
      refine go_alloc 13 8 #[tt,tt,tt,ff,tt,ff,tt,ff,ff,ff,ff,ff,ff,tt,ff,ff] rfl rfl rfl (by rfl) 36 rfl _ al36 ?_
      intro wW32 hw2
      have hkW32 := (hkW31).alloc (hkW31).size (.cells z36 36)
      rw [← hw2] at hkW32
      have MA13 := Lib.hid (HasN.new (wW31) z36 36 4 (by kernel_rfl))
      rw [← hw2] at MA13
      have HA13 := Lib.hid (show W3.heap.size ≤ _ from (hkW31).size)
      clear hw2
      refine ⟨fun _ => hkW32, ?_⟩
      (try simp only [sI, sS, sZ])
      refine wpBut_r1 (i := 3) (by kernel_rfl) ?_
      refine go_call 3 19 #[tt,tt,tt,tt,tt,ff,tt,ff,ff,ff,ff,ff,ff,tt,ff,ff] rfl rfl rfl (by rfl) rfl rfl (by rfl) ent91 (by rfl) (Hsl.out _) ?_
      rintro e wW33 ⟨n2, hn2, hn2r, rfl, hb⟩
      have hkW33 := held_next hkW32 hb
      replace MA13 := Lib.hid (MA13.out.call hb)
      refine ⟨_, rfl, fun _ => hkW33, ?_⟩
      clear hb
      (try simp only [sI, sS, sZ])
      refine wpBut_r1 (i := 5) (by kernel_rfl) ?_
      refine go_call 5 21 #[tt,tt,tt,tt,tt,tt,tt,ff,ff,ff,ff,ff,ff,tt,ff,ff] rfl rfl rfl (by rfl) rfl rfl (by rfl) ent31 (by rfl) (Ht.out n2 s hn2 hs _) ?_
      rintro e wW34 ⟨n3, hn3, hn3r, rfl, hb⟩
      have hkW34 := held_next hkW33 hb
      replace MA13 := Lib.hid (MA13.out.call hb)
      refine ⟨_, rfl, fun _ => hkW34, ?_⟩
      clear hb
      (try simp only [sI, sS, sZ])
      refine wpBut_r1 (i := 7) (by kernel_rfl) ?_
      refine go_call 7 23 #[tt,tt,tt,tt,tt,tt,tt,tt,ff,ff,ff,ff,ff,tt,ff,ff] rfl rfl rfl (by rfl) rfl rfl (by rfl) ent37 (by rfl) (Hp.out n3 1 hn3 Hone.out _) ?_
      rintro e wW35 ⟨n4, hn4, hn4r, rfl, hb⟩
      have hkW35 := held_next hkW34 hb
      replace MA13 := Lib.hid (MA13.out.call hb)
      refine ⟨_, rfl, fun _ => hkW35, ?_⟩
      clear hb
      (try simp only [sI, sS, sZ])
      refine wpBut_r1 (i := 8) (by kernel_rfl) ?_
      refine go_call 8 24 #[tt,tt,tt,tt,tt,tt,tt,tt,tt,ff,ff,ff,ff,tt,ff,ff] rfl rfl rfl (by rfl) rfl rfl (by rfl) ent42 (by rfl) (Hov.out n1 n4 hn1 hn4 _) ?_
      rintro e wW36 ⟨n5, hn5, hn5r, rfl, hb⟩
      have hkW36 := held_next hkW35 hb
      replace MA13 := Lib.hid (MA13.out.call hb)
      refine ⟨_, rfl, fun _ => hkW36, ?_⟩
      clear hb
      (try simp only [sI, sS, sZ])
      refine wpBut_r1 (i := 9) (by kernel_rfl) ?_
      refine go_call 9 25 #[tt,tt,tt,tt,tt,tt,tt,tt,tt,tt,ff,ff,ff,tt,ff,ff] rfl rfl rfl (by rfl) rfl rfl (by rfl) ent44 (by rfl) (Hru.out n5 hn5 (Hcx.out s n1 n2 n3 n4 n5 Hsr.out hn1r hn2r hn3r hn4r hn5r) _) ?_
      rintro e wW37 ⟨m, hm, hmr, rfl, hb⟩
      have hkW37 := held_next hkW36 hb
      replace MA13 := Lib.hid (MA13.out.call hb)
      refine ⟨_, rfl, fun _ => hkW37, ?_⟩
      clear hb
      (try simp only [sI, sS, sZ])
      refine go_take2 10 15 #[tt,tt,tt,tt,tt,tt,tt,tt,tt,tt,tt,ff,ff,tt,ff,ff] (v := ?uv21) rfl rfl rfl (by kernel_rfl) (Or.inl ⟨by rfl, ?uy21⟩) (hkW37) ?urest21
      case uy21 => (intro _ _; go_simp; try with_reducible rfl)
      (try simp only [sI, sS, sZ])
      refine go_take2 11 26 #[tt,tt,tt,tt,tt,tt,tt,tt,tt,tt,tt,tt,ff,tt,ff,ff] (v := ?uv22) rfl rfl rfl (by kernel_rfl) (Or.inl ⟨by rfl, ?uy22⟩) (hkW37) ?urest22
      case uy22 => (intro _ _; go_simp; try with_reducible rfl)
      (try simp only [sI, sS, sZ])
      refine go_take2 12 27 #[tt,tt,tt,tt,tt,tt,tt,tt,tt,tt,tt,tt,tt,tt,ff,ff] (v := ?uv23) rfl rfl rfl (by kernel_rfl) (Or.inl ⟨by rfl, ?uy23⟩) (hkW37) ?urest23
      case uy23 => (intro _ _; go_simp; try with_reducible rfl)
      (try simp only [sI, sS, sZ])
      refine wpBut_r1 (i := 14) (by kernel_rfl) ?_
      obtain ⟨Zq, hZ, mZ⟩ := MA13.out
      refine go_store2 14 #[tt,tt,tt,tt,tt,tt,tt,tt,tt,tt,tt,tt,tt,tt,tt,ff] rfl rfl rfl (by rfl) 36 _ _ rfl _ _ rfl rfl 36 Zq mZ (by rw [e4_size]; kernel_rfl) (hZ.trans (e4_size ..).symm) (row_one _ _ _) ?_
      intro wW38 hw2
      have hkW38 := below_setRow (hkW37) _ (e4 m) HA13.out
      rw [← hw2] at hkW38
      clear MA13
      have MA13 := Lib.hid (mZ.setRow (e4 m))
      rw [← hw2] at MA13; clear mZ hZ hw2
      refine ⟨fun _ => hkW38, ?_⟩
      (try simp only [sI, sS, sZ])
      refine go_take2 15 9 #[tt,tt,tt,tt,tt,tt,tt,tt,tt,tt,tt,tt,tt,tt,tt,tt] (v := ?uv24) rfl rfl rfl (by kernel_rfl) (Or.inl ⟨by rfl, ?uy24⟩) (hkW38) ?urest24
      case uy24 => (intro _ _; go_simp; try with_reducible rfl)
      (try simp only [sI, sS, sZ])
      exact wpBut_done (by kernel_rfl) (NoPanic.normal (HQ.out (_, n1, n2, n3, n4, n5, m) _ ⟨hm, hmr, HA13.out, MA13.out, (hkW38)⟩))
      refine go_alloc 13 8 #[tt,tt,ff,ff,tt,ff,tt,ff,ff,ff,ff,ff,ff,tt,ff,ff] rfl rfl rfl (by rfl) 36 rfl _ al36 ?_
      intro wW31 hw2
      have hkW31 := ((below_dr W3)).alloc ((below_dr W3)).size (.cells z36 36)
      rw [← hw2] at hkW31
      have MA13 := Lib.hid (HasN.new (W3.drew) z36 36 4 (by kernel_rfl))
      rw [← hw2] at MA13
      have HA13 := Lib.hid (show W3.heap.size ≤ _ from ((below_dr W3)).size)
      clear hw2
      refine ⟨fun _ => hkW31, ?_⟩
      (try simp only [sI, sS, sZ])
      refine wpBut_r1 (i := 2) (by kernel_rfl) ?_
      refine go_call 2 18 #[tt,tt,tt,ff,tt,ff,tt,ff,ff,ff,ff,ff,ff,tt,ff,ff] rfl rfl rfl (by rfl) rfl rfl (by rfl) ent39 (by rfl) (Hmi.out s 1 hs Hone.out _) ?_
      rintro e wW32 ⟨n1, hn1, hn1r, rfl, hb⟩
      have hkW32 := held_next hkW31 hb
      replace MA13 := Lib.hid (MA13.out.call hb)
      refine ⟨_, rfl, fun _ => hkW32, ?_⟩
      clear hb
      (try simp only [sI, sS, sZ])
      refine wpBut_r1 (i := 3) (by kernel_rfl) ?_
      refine go_call 3 19 #[tt,tt,tt,tt,tt,ff,tt,ff,ff,ff,ff,ff,ff,tt,ff,ff] rfl rfl rfl (by rfl) rfl rfl (by rfl) ent91 (by rfl) (Hsl.out _) ?_
      rintro e wW33 ⟨n2, hn2, hn2r, rfl, hb⟩
      have hkW33 := held_next hkW32 hb
      replace MA13 := Lib.hid (MA13.out.call hb)
      refine ⟨_, rfl, fun _ => hkW33, ?_⟩
      clear hb
      (try simp only [sI, sS, sZ])
      refine wpBut_r1 (i := 5) (by kernel_rfl) ?_
      refine go_call 5 21 #[tt,tt,tt,tt,tt,tt,tt,ff,ff,ff,ff,ff,ff,tt,ff,ff] rfl rfl rfl (by rfl) rfl rfl (by rfl) ent31 (by rfl) (Ht.out n2 s hn2 hs _) ?_
      rintro e wW34 ⟨n3, hn3, hn3r, rfl, hb⟩
      have hkW34 := held_next hkW33 hb
      replace MA13 := Lib.hid (MA13.out.call hb)
      refine ⟨_, rfl, fun _ => hkW34, ?_⟩
      clear hb
      (try simp only [sI, sS, sZ])
      refine wpBut_r1 (i := 7) (by kernel_rfl) ?_
      refine go_call 7 23 #[tt,tt,tt,tt,tt,tt,tt,tt,ff,ff,ff,ff,ff,tt,ff,ff] rfl rfl rfl (by rfl) rfl rfl (by rfl) ent37 (by rfl) (Hp.out n3 1 hn3 Hone.out _) ?_
      rintro e wW35 ⟨n4, hn4, hn4r, rfl, hb⟩
      have hkW35 := held_next hkW34 hb
      replace MA13 := Lib.hid (MA13.out.call hb)
      refine ⟨_, rfl, fun _ => hkW35, ?_⟩
      clear hb
      (try simp only [sI, sS, sZ])
      refine wpBut_r1 (i := 8) (by kernel_rfl) ?_
      refine go_call 8 24 #[tt,tt,tt,tt,tt,tt,tt,tt,tt,ff,ff,ff,ff,tt,ff,ff] rfl rfl rfl (by rfl) rfl rfl (by rfl) ent42 (by rfl) (Hov.out n1 n4 hn1 hn4 _) ?_
      rintro e wW36 ⟨n5, hn5, hn5r, rfl, hb⟩
      have hkW36 := held_next hkW35 hb
      replace MA13 := Lib.hid (MA13.out.call hb)
      refine ⟨_, rfl, fun _ => hkW36, ?_⟩
      clear hb
      (try simp only [sI, sS, sZ])
      refine wpBut_r1 (i := 9) (by kernel_rfl) ?_
      refine go_call 9 25 #[tt,tt,tt,tt,tt,tt,tt,tt,tt,tt,ff,ff,ff,tt,ff,ff] rfl rfl rfl (by rfl) rfl rfl (by rfl) ent44 (by rfl) (Hru.out n5 hn5 (Hcx.out s n1 n2 n3 n4 n5 Hsr.out hn1r hn2r hn3r hn4r hn5r) _) ?_
      rintro e wW37 ⟨m, hm, hmr, rfl, hb⟩
      have hkW37 := held_next hkW36 hb
      replace MA13 := Lib.hid (MA13.out.call hb)
      refine ⟨_, rfl, fun _ => hkW37, ?_⟩
      clear hb
      (try simp only [sI, sS, sZ])
      refine go_take2 10 15 #[tt,tt,tt,tt,tt,tt,tt,tt,tt,tt,tt,ff,ff,tt,ff,ff] (v := ?uv25) rfl rfl rfl (by kernel_rfl) (Or.inl ⟨by rfl, ?uy25⟩) (hkW37) ?urest25
      case uy25 => (intro _ _; go_simp; try with_reducible rfl)
      (try simp only [sI, sS, sZ])
      refine go_take2 11 26 #[tt,tt,tt,tt,tt,tt,tt,tt,tt,tt,tt,tt,ff,tt,ff,ff] (v := ?uv26) rfl rfl rfl (by kernel_rfl) (Or.inl ⟨by rfl, ?uy26⟩) (hkW37) ?urest26
      case uy26 => (intro _ _; go_simp; try with_reducible rfl)
      (try simp only [sI, sS, sZ])
      refine go_take2 12 27 #[tt,tt,tt,tt,tt,tt,tt,tt,tt,tt,tt,tt,tt,tt,ff,ff] (v := ?uv27) rfl rfl rfl (by kernel_rfl) (Or.inl ⟨by rfl, ?uy27⟩) (hkW37) ?urest27
      case uy27 => (intro _ _; go_simp; try with_reducible rfl)
      (try simp only [sI, sS, sZ])
      refine wpBut_r1 (i := 14) (by kernel_rfl) ?_
      obtain ⟨Zq, hZ, mZ⟩ := MA13.out
      refine go_store2 14 #[tt,tt,tt,tt,tt,tt,tt,tt,tt,tt,tt,tt,tt,tt,tt,ff] rfl rfl rfl (by rfl) 36 _ _ rfl _ _ rfl rfl 36 Zq mZ (by rw [e4_size]; kernel_rfl) (hZ.trans (e4_size ..).symm) (row_one _ _ _) ?_
      intro wW38 hw2
      have hkW38 := below_setRow (hkW37) _ (e4 m) HA13.out
      rw [← hw2] at hkW38
      clear MA13
      have MA13 := Lib.hid (mZ.setRow (e4 m))
      rw [← hw2] at MA13; clear mZ hZ hw2
      refine ⟨fun _ => hkW38, ?_⟩
      (try simp only [sI, sS, sZ])
      refine go_take2 15 9 #[tt,tt,tt,tt,tt,tt,tt,tt,tt,tt,tt,tt,tt,tt,tt,tt] (v := ?uv28) rfl rfl rfl (by kernel_rfl) (Or.inl ⟨by rfl, ?uy28⟩) (hkW38) ?urest28
      case uy28 => (intro _ _; go_simp; try with_reducible rfl)
      (try simp only [sI, sS, sZ])
      exact wpBut_done (by kernel_rfl) (NoPanic.normal (HQ.out (_, n1, n2, n3, n4, n5, m) _ ⟨hm, hmr, HA13.out, MA13.out, (hkW38)⟩))
    · rintro W3 ⟨B8, n1, n2, n3, n4, n5, m⟩ vw3 hW3 ⟨hm, hmr, hBq0, mBq0, hbw⟩
      simp only [Act.put, List.setIfInBounds_toArray, List.set_cons_succ, List.set_cons_zero] at hm hmr hBq0  mBq0 ⊢
      rw [← hW3] at M2 M4 M6 M7 HB
      clear hW3
      have hltM2_3 := M2.out.lt
      have hltM4_3 := M4.out.lt
      have hltM6_3 := M6.out.lt
      have hltM7_3 := M7.out.lt
      replace M2 := Lib.hid (M2.out.call hbw)
      replace M4 := Lib.hid (M4.out.call hbw)
      replace M6 := Lib.hid (M6.out.call hbw)
      replace M7 := Lib.hid (M7.out.call hbw)
      replace HB := Lib.hid (held_next HB.out hbw)
      have M8 := Lib.hid mBq0; clear mBq0
      clear hbw
      have Hmr := Lib.hid hmr; clear hmr
      clear M7
      clear Hcx Hru Hsl Hov Hp Ht Hint Hsr
      cases ok
      · have Hiz := Hiz0; clear Hiz0
        cases even
        · repeat ((fail_if_success (with_reducible (show wpList _ _ _ _ _ _))); go_step)
          refine wpList_load (by rfl) 36 _ rfl (B8) rfl 36 (e4 m) M8.out Try.underlying36 rfl (by rw [e4_size]; kernel_rfl) 28 rfl ?_
          (try simp only [Act.put, sI, sS, sZ])
          refine wpList_built (by rfl) 36 _ rfl _ (by rfl) (e4 0) (bd36z) 29 rfl ?_
          (try simp only [Act.put, sI, sS, sZ])
          refine wpList_call (by rfl) rfl rfl (by rfl) ent41 (by rfl) (Hiz.out m hm Hmr.out _) 30 rfl ?_
          rintro e uw1 ⟨rfl, hb⟩
          replace M2 := Lib.hid (M2.out.call hb)
          replace M4 := Lib.hid (M4.out.call hb)
          replace M6 := Lib.hid (M6.out.call hb)
          replace M8 := Lib.hid (M8.out.call hb)
          replace HB := Lib.hid (held_next HB.out hb)
          refine ⟨_, rfl, ?_⟩
          clear hb
          (try simp only [Act.put, sI, sS, sZ])
          (refine wpList_step (fun K hK => ?_); go_simp; (try go_bits); refine hK _ _ ?_; clear hK K)
          refine wpList_nil ?_
          repeat ((fail_if_success (with_reducible (show wpList _ _ _ _ _ _))); go_step)
          iterate 9 (refine wpList_step (fun K hK => ?_); go_simp; (try go_bits); refine hK _ _ ?_; clear hK K)
          refine wpList_nil ?_
          repeat ((fail_if_success (with_reducible (show wpList _ _ _ _ _ _))); go_step)
          refine wpList_built (by rfl) 53 _ rfl _ (by rfl) (pt 0 0 0 false) (bd53z) 40 rfl ?_
          (try simp only [Act.put, sI, sS, sZ])
          first | (obtain ⟨Zq, hZ, mZ⟩ := M4.out) | (obtain ⟨Zq, hZ, mZ⟩ := M4.out.toN (pt_size ..))
          refine wpList_store2 (by rfl) 53 _ _ rfl rfl (w.heap.size + 1) (pt 0 0 0 false) rfl rfl 53 Zq mZ (by rw [pt_size]; kernel_rfl) (hZ.trans (pt_size ..).symm) (pt_one _ _ _ _) ?_
          intro yw4 hw2
          replace M2 := Lib.hid (M2.out.setRow_other (w.heap.size + 1) (pt 0 0 0 false) (by omega))
          replace M6 := Lib.hid (M6.out.setRow_other (w.heap.size + 1) (pt 0 0 0 false) (by omega))
          replace M8 := Lib.hid (M8.out.setRow_other (w.heap.size + 1) (pt 0 0 0 false) (by omega))
          replace M4 := Lib.hid (mZ.setRow (pt 0 0 0 false))
          replace HB := Lib.hid (below_setRow HB.out (w.heap.size + 1) (pt 0 0 0 false) (by omega))
          rw [← hw2] at M2 M6 M8 M4 HB; clear mZ hZ hw2
          (refine wpList_step (fun K hK => ?_); go_simp; (try go_bits); refine hK _ _ ?_; clear hK K)
          refine wpList_nil ?_
          go_wp2_with fail
          have hb := bes_no1 C false Y Hok.out.symm
          exact bodyPost_ret (v := .tuple #[.agg (pt 0 0 0 false), .bool false]) (results_cell_tmp_row (fn := Try.f87) (p := 4) (t2 := 5) (ty := 53) (t := 53) (by rfl) _ _ (w.heap.size + 1) _ _ _ rfl M4.out Try.underlying53 rfl (by rw [pt_size]; kernel_rfl)) rfl ⟨0, 0, 0, false, by rw [hb]; exact ⟨⟨by decide, by decide, by decide⟩, .inr ⟨rfl, by rw [Nat.zero_mod], by rw [one_PP], rfl⟩⟩, by rw [hb], HB.out⟩
        · repeat ((fail_if_success (with_reducible (show wpList _ _ _ _ _ _))); go_step)
          refine wpList_load (by rfl) 36 _ rfl (B8) rfl 36 (e4 m) M8.out Try.underlying36 rfl (by rw [e4_size]; kernel_rfl) 28 rfl ?_
          (try simp only [Act.put, sI, sS, sZ])
          refine wpList_built (by rfl) 36 _ rfl _ (by rfl) (e4 0) (bd36z) 29 rfl ?_
          (try simp only [Act.put, sI, sS, sZ])
          refine wpList_call (by rfl) rfl rfl (by rfl) ent41 (by rfl) (Hiz.out m hm Hmr.out _) 30 rfl ?_
          rintro e uw1 ⟨rfl, hb⟩
          replace M2 := Lib.hid (M2.out.call hb)
          replace M4 := Lib.hid (M4.out.call hb)
          replace M6 := Lib.hid (M6.out.call hb)
          replace M8 := Lib.hid (M8.out.call hb)
          replace HB := Lib.hid (held_next HB.out hb)
          refine ⟨_, rfl, ?_⟩
          clear hb
          (try simp only [Act.put, sI, sS, sZ])
          (refine wpList_step (fun K hK => ?_); go_simp; (try go_bits); refine hK _ _ ?_; clear hK K)
          refine wpList_nil ?_
          repeat ((fail_if_success (with_reducible (show wpList _ _ _ _ _ _))); go_step)
          iterate 9 (refine wpList_step (fun K hK => ?_); go_simp; (try go_bits); refine hK _ _ ?_; clear hK K)
          refine wpList_nil ?_
          repeat ((fail_if_success (with_reducible (show wpList _ _ _ _ _ _))); go_step)
          refine wpList_built (by rfl) 53 _ rfl _ (by rfl) (pt 0 0 0 false) (bd53z) 40 rfl ?_
          (try simp only [Act.put, sI, sS, sZ])
          first | (obtain ⟨Zq, hZ, mZ⟩ := M4.out) | (obtain ⟨Zq, hZ, mZ⟩ := M4.out.toN (pt_size ..))
          refine wpList_store2 (by rfl) 53 _ _ rfl rfl (w.heap.size + 1) (pt 0 0 0 false) rfl rfl 53 Zq mZ (by rw [pt_size]; kernel_rfl) (hZ.trans (pt_size ..).symm) (pt_one _ _ _ _) ?_
          intro yw4 hw2
          replace M2 := Lib.hid (M2.out.setRow_other (w.heap.size + 1) (pt 0 0 0 false) (by omega))
          replace M6 := Lib.hid (M6.out.setRow_other (w.heap.size + 1) (pt 0 0 0 false) (by omega))
          replace M8 := Lib.hid (M8.out.setRow_other (w.heap.size + 1) (pt 0 0 0 false) (by omega))
          replace M4 := Lib.hid (mZ.setRow (pt 0 0 0 false))
          replace HB := Lib.hid (below_setRow HB.out (w.heap.size + 1) (pt 0 0 0 false) (by omega))
          rw [← hw2] at M2 M6 M8 M4 HB; clear mZ hZ hw2
          (refine wpList_step (fun K hK => ?_); go_simp; (try go_bits); refine hK _ _ ?_; clear hK K)
          refine wpList_nil ?_
          go_wp2_with fail
          have hb := bes_no1 C true Y Hok.out.symm
          exact bodyPost_ret (v := .tuple #[.agg (pt 0 0 0 false), .bool false]) (results_cell_tmp_row (fn := Try.f87) (p := 4) (t2 := 5) (ty := 53) (t := 53) (by rfl) _ _ (w.heap.size + 1) _ _ _ rfl M4.out Try.underlying53 rfl (by rw [pt_size]; kernel_rfl)) rfl ⟨0, 0, 0, false, by rw [hb]; exact ⟨⟨by decide, by decide, by decide⟩, .inr ⟨rfl, by rw [Nat.zero_mod], by rw [one_PP], rfl⟩⟩, by rw [hb], HB.out⟩
      · have hiz := Hiz0.out; clear Hiz0
        cases even
        · by_cases hz : R3 = 0 % PP
          · have hzz : R3 = 0 := by rw [hz, Nat.zero_mod]
            have HIZ := Lib.hid hiz; clear hiz
            have hiz := HIZ.out; rw [decide_eq_true hz] at hiz; clear HIZ
            have Hiz := Lib.hid hiz; clear hiz hz
            have HZ := Lib.hid hzz; clear hzz
            repeat ((fail_if_success (with_reducible (show wpList _ _ _ _ _ _))); go_step)
            refine wpList_load (by rfl) 36 _ rfl (B8) rfl 36 (e4 m) M8.out Try.underlying36 rfl (by rw [e4_size]; kernel_rfl) 28 rfl ?_
            (try simp only [Act.put, sI, sS, sZ])
            refine wpList_built (by rfl) 36 _ rfl _ (by rfl) (e4 0) (bd36z) 29 rfl ?_
            (try simp only [Act.put, sI, sS, sZ])
            refine wpList_call (by rfl) rfl rfl (by rfl) ent41 (by rfl) (Hiz.out m hm Hmr.out _) 30 rfl ?_
            rintro e uw1 ⟨rfl, hb⟩
            replace M2 := Lib.hid (M2.out.call hb)
            replace M4 := Lib.hid (M4.out.call hb)
            replace M6 := Lib.hid (M6.out.call hb)
            replace M8 := Lib.hid (M8.out.call hb)
            replace HB := Lib.hid (held_next HB.out hb)
            refine ⟨_, rfl, ?_⟩
            clear hb
            (try simp only [Act.put, sI, sS, sZ])
            (refine wpList_step (fun K hK => ?_); go_simp; (try go_bits); refine hK _ _ ?_; clear hK K)
            refine wpList_nil ?_
            repeat ((fail_if_success (with_reducible (show wpList _ _ _ _ _ _))); go_step)
            iterate 9 (refine wpList_step (fun K hK => ?_); go_simp; (try go_bits); refine hK _ _ ?_; clear hK K)
            refine wpList_nil ?_
            repeat ((fail_if_success (with_reducible (show wpList _ _ _ _ _ _))); go_step)
            refine wpList_built (by rfl) 53 _ rfl _ (by rfl) (pt 0 0 0 false) (bd53z) 40 rfl ?_
            (try simp only [Act.put, sI, sS, sZ])
            first | (obtain ⟨Zq, hZ, mZ⟩ := M4.out) | (obtain ⟨Zq, hZ, mZ⟩ := M4.out.toN (pt_size ..))
            refine wpList_store2 (by rfl) 53 _ _ rfl rfl (w.heap.size + 1) (pt 0 0 0 false) rfl rfl 53 Zq mZ (by rw [pt_size]; kernel_rfl) (hZ.trans (pt_size ..).symm) (pt_one _ _ _ _) ?_
            intro yw4 hw2
            replace M2 := Lib.hid (M2.out.setRow_other (w.heap.size + 1) (pt 0 0 0 false) (by omega))
            replace M6 := Lib.hid (M6.out.setRow_other (w.heap.size + 1) (pt 0 0 0 false) (by omega))
            replace M8 := Lib.hid (M8.out.setRow_other (w.heap.size + 1) (pt 0 0 0 false) (by omega))
            replace M4 := Lib.hid (mZ.setRow (pt 0 0 0 false))
            replace HB := Lib.hid (below_setRow HB.out (w.heap.size + 1) (pt 0 0 0 false) (by omega))
            rw [← hw2] at M2 M6 M8 M4 HB; clear mZ hZ hw2
            (refine wpList_step (fun K hK => ?_); go_simp; (try go_bits); refine hK _ _ ?_; clear hK K)
            refine wpList_nil ?_
            go_wp2_with fail
            have hb := bes_no2 C Y (by rw [← HR3.out]; exact HZ.out)
            exact bodyPost_ret (v := .tuple #[.agg (pt 0 0 0 false), .bool false]) (results_cell_tmp_row (fn := Try.f87) (p := 4) (t2 := 5) (ty := 53) (t := 53) (by rfl) _ _ (w.heap.size + 1) _ _ _ rfl M4.out Try.underlying53 rfl (by rw [pt_size]; kernel_rfl)) rfl ⟨0, 0, 0, false, by rw [hb]; exact ⟨⟨by decide, by decide, by decide⟩, .inr ⟨rfl, by rw [Nat.zero_mod], by rw [one_PP], rfl⟩⟩, by rw [hb], HB.out⟩
          · have hzz : ¬ R3 = 0 := by rw [Nat.zero_mod] at hz; exact hz
            rw [decide_eq_false hz] at hiz
            have Hiz := Lib.hid hiz; clear hiz hz
            have HZ := Lib.hid hzz; clear hzz
            repeat ((fail_if_success (with_reducible (show wpList _ _ _ _ _ _))); go_step)
            refine wpList_load (by rfl) 36 _ rfl (B8) rfl 36 (e4 m) M8.out Try.underlying36 rfl (by rw [e4_size]; kernel_rfl) 28 rfl ?_
            (try simp only [Act.put, sI, sS, sZ])
            refine wpList_built (by rfl) 36 _ rfl _ (by rfl) (e4 0) (bd36z) 29 rfl ?_
            (try simp only [Act.put, sI, sS, sZ])
            refine wpList_call (by rfl) rfl rfl (by rfl) ent41 (by rfl) (Hiz.out m hm Hmr.out _) 30 rfl ?_
            rintro e uw1 ⟨rfl, hb⟩
            replace M2 := Lib.hid (M2.out.call hb)
            replace M4 := Lib.hid (M4.out.call hb)
            replace M6 := Lib.hid (M6.out.call hb)
            replace M8 := Lib.hid (M8.out.call hb)
            replace HB := Lib.hid (held_next HB.out hb)
            refine ⟨_, rfl, ?_⟩
            clear hb
            (try simp only [Act.put, sI, sS, sZ])
            (refine wpList_step (fun K hK => ?_); go_simp; (try go_bits); refine hK _ _ ?_; clear hK K)
            refine wpList_nil ?_
            repeat ((fail_if_success (with_reducible (show wpList _ _ _ _ _ _))); go_step)
            iterate 9 (refine wpList_step (fun K hK => ?_); go_simp; (try go_bits); refine hK _ _ ?_; clear hK K)
            refine wpList_nil ?_
            repeat ((fail_if_success (with_reducible (show wpList _ _ _ _ _ _))); go_step)
            iterate 2 (refine wpList_step (fun K hK => ?_); go_simp; (try go_bits); refine hK _ _ ?_; clear hK K)
            refine wpList_nil ?_
            repeat ((fail_if_success (with_reducible (show wpList _ _ _ _ _ _))); go_step)
            refine wpList_built (by rfl) 36 _ rfl _ (by rfl) (e4 0) (bd36z) 43 rfl ?_
            (try simp only [Act.put, sI, sS, sZ])
            refine wpList_load (by rfl) 36 _ rfl (B8) rfl 36 (e4 m) M8.out Try.underlying36 rfl (by rw [e4_size]; kernel_rfl) 44 rfl ?_
            (try simp only [Act.put, sI, sS, sZ])
            refine wpList_call (by rfl) rfl rfl (by rfl) ent39 (by rfl) (Hmi.out 0 m (by decide) hm _) 45 rfl ?_
            rintro e uw2 ⟨m9, hm9, hm9r, rfl, hb⟩
            replace M2 := Lib.hid (M2.out.call hb)
            replace M4 := Lib.hid (M4.out.call hb)
            replace M6 := Lib.hid (M6.out.call hb)
            replace M8 := Lib.hid (M8.out.call hb)
            replace HB := Lib.hid (held_next HB.out hb)
            refine ⟨_, rfl, ?_⟩
            clear hb
            (try simp only [Act.put, sI, sS, sZ])
            first | (obtain ⟨Zq, hZ, mZ⟩ := M8.out) | (obtain ⟨Zq, hZ, mZ⟩ := M8.out.toN (e4_size ..))
            refine wpList_store2 (by rfl) 36 _ _ rfl rfl (B8) (e4 m9) rfl rfl 36 Zq mZ (by rw [e4_size]; kernel_rfl) (hZ.trans (e4_size ..).symm) (row_one _ _ _) ?_
            intro yw4 hw2
            replace M2 := Lib.hid (M2.out.setRow_other (B8) (e4 m9) (by omega))
            replace M4 := Lib.hid (M4.out.setRow_other (B8) (e4 m9) (by omega))
            replace M6 := Lib.hid (M6.out.setRow_other (B8) (e4 m9) (by omega))
            replace M8 := Lib.hid (mZ.setRow (e4 m9))
            replace HB := Lib.hid (below_setRow HB.out (B8) (e4 m9) (by omega))
            rw [← hw2] at M2 M4 M6 M8 HB; clear mZ hZ hw2
            refine wpList_nil ?_
            have Hm9r := Lib.hid hm9r; clear hm9r
            repeat ((fail_if_success (with_reducible (show wpList _ _ _ _ _ _))); go_step)
            refine wpList_load (by rfl) 36 _ rfl (B8) rfl 36 (e4 m9) M8.out Try.underlying36 rfl (by rw [e4_size]; kernel_rfl) 46 rfl ?_
            (try simp only [Act.put, sI, sS, sZ])
            refine wpList_load (by rfl) 36 _ rfl (w.heap.size) rfl 36 (e4 y) M2.out Try.underlying36 rfl (by rw [e4_size]; kernel_rfl) 47 rfl ?_
            (try simp only [Act.put, sI, sS, sZ])
            refine wpList_load (by rfl) 36 _ rfl (B6) rfl 36 (e4 1) M6.out Try.underlying36 rfl (by rw [e4_size]; kernel_rfl) 48 rfl ?_
            (try simp only [Act.put, sI, sS, sZ])
            refine wpList_call (by rfl) rfl rfl (by rfl) ent93 (by rfl) (Hmd.out m9 y 1 hm9 Hy.out (by decide) _) 49 rfl ?_
            rintro e uw3 ⟨px, py, pz, pb, hpt, rfl, hb⟩
            replace M2 := Lib.hid (M2.out.call hb)
            replace M4 := Lib.hid (M4.out.call hb)
            replace M6 := Lib.hid (M6.out.call hb)
            replace M8 := Lib.hid (M8.out.call hb)
            replace HB := Lib.hid (held_next HB.out hb)
            refine ⟨_, rfl, ?_⟩
            clear hb
            (try simp only [Act.put, sI, sS, sZ])
            first | (obtain ⟨Zq, hZ, mZ⟩ := M4.out) | (obtain ⟨Zq, hZ, mZ⟩ := M4.out.toN (pt_size ..))
            refine wpList_store2 (by rfl) 53 _ _ rfl rfl (w.heap.size + 1) (pt px py pz pb) rfl rfl 53 Zq mZ (by rw [pt_size]; kernel_rfl) (hZ.trans (pt_size ..).symm) (pt_one _ _ _ _) ?_
            intro yw5 hw2
            replace M2 := Lib.hid (M2.out.setRow_other (w.heap.size + 1) (pt px py pz pb) (by omega))
            replace M6 := Lib.hid (M6.out.setRow_other (w.heap.size + 1) (pt px py pz pb) (by omega))
            replace M8 := Lib.hid (M8.out.setRow_other (w.heap.size + 1) (pt px py pz pb) (by omega))
            replace M4 := Lib.hid (mZ.setRow (pt px py pz pb))
            replace HB := Lib.hid (below_setRow HB.out (w.heap.size + 1) (pt px py pz pb) (by omega))
            rw [← hw2] at M2 M6 M8 M4 HB; clear mZ hZ hw2
            (refine wpList_step (fun K hK => ?_); go_simp; (try go_bits); refine hK _ _ ?_; clear hK K)
            refine wpList_nil ?_
            go_wp2_with fail
            have hb := bes_odd C Y Hok.out.symm (by rw [← HR3.out]; exact HZ.out)
            rw [show m9 % PP = (0 % PP + (PP - rt3 C)) % PP by rw [Hm9r.out, Hmr.out, HR3.out], HY.out.symm] at hpt
            exact bodyPost_ret (v := .tuple #[.agg (pt px py pz pb), .bool true]) (results_cell_tmp_row (fn := Try.f87) (p := 4) (t2 := 5) (ty := 53) (t := 53) (by rfl) _ _ (w.heap.size + 1) _ _ _ rfl M4.out Try.underlying53 rfl (by rw [pt_size]; kernel_rfl)) rfl ⟨px, py, pz, pb, by rw [hb]; exact hpt, by rw [hb], HB.out⟩
        · by_cases hz : R3 = 0 % PP
          · have hzz : R3 = 0 := by rw [hz, Nat.zero_mod]
            have HIZ := Lib.hid hiz; clear hiz
            have hiz := HIZ.out; rw [decide_eq_true hz] at hiz; clear HIZ
            have Hiz := Lib.hid hiz; clear hiz hz
            have HZ := Lib.hid hzz; clear hzz
            repeat ((fail_if_success (with_reducible (show wpList _ _ _ _ _ _))); go_step)
            refine wpList_load (by rfl) 36 _ rfl (B8) rfl 36 (e4 m) M8.out Try.underlying36 rfl (by rw [e4_size]; kernel_rfl) 28 rfl ?_
            (try simp only [Act.put, sI, sS, sZ])
            refine wpList_built (by rfl) 36 _ rfl _ (by rfl) (e4 0) (bd36z) 29 rfl ?_
            (try simp only [Act.put, sI, sS, sZ])
            refine wpList_call (by rfl) rfl rfl (by rfl) ent41 (by rfl) (Hiz.out m hm Hmr.out _) 30 rfl ?_
            rintro e uw1 ⟨rfl, hb⟩
            replace M2 := Lib.hid (M2.out.call hb)
            replace M4 := Lib.hid (M4.out.call hb)
            replace M6 := Lib.hid (M6.out.call hb)
            replace M8 := Lib.hid (M8.out.call hb)
            replace HB := Lib.hid (held_next HB.out hb)
            refine ⟨_, rfl, ?_⟩
            clear hb
            (try simp only [Act.put, sI, sS, sZ])
            (refine wpList_step (fun K hK => ?_); go_simp; (try go_bits); refine hK _ _ ?_; clear hK K)
            refine wpList_nil ?_
            repeat ((fail_if_success (with_reducible (show wpList _ _ _ _ _ _))); go_step)
            iterate 9 (refine wpList_step (fun K hK => ?_); go_simp; (try go_bits); refine hK _ _ ?_; clear hK K)
            refine wpList_nil ?_
            repeat ((fail_if_success (with_reducible (show wpList _ _ _ _ _ _))); go_step)
            iterate 2 (refine wpList_step (fun K hK => ?_); go_simp; (try go_bits); refine hK _ _ ?_; clear hK K)
            refine wpList_nil ?_
            repeat ((fail_if_success (with_reducible (show wpList _ _ _ _ _ _))); go_step)
            refine wpList_load (by rfl) 36 _ rfl (B8) rfl 36 (e4 m) M8.out Try.underlying36 rfl (by rw [e4_size]; kernel_rfl) 46 rfl ?_
            (try simp only [Act.put, sI, sS, sZ])
            refine wpList_load (by rfl) 36 _ rfl (w.heap.size) rfl 36 (e4 y) M2.out Try.underlying36 rfl (by rw [e4_size]; kernel_rfl) 47 rfl ?_
            (try simp only [Act.put, sI, sS, sZ])
            refine wpList_load (by rfl) 36 _ rfl (B6) rfl 36 (e4 1) M6.out Try.underlying36 rfl (by rw [e4_size]; kernel_rfl) 48 rfl ?_
            (try simp only [Act.put, sI, sS, sZ])
            refine wpList_call (by rfl) rfl rfl (by rfl) ent93 (by rfl) (Hmd.out m y 1 hm Hy.out (by decide) _) 49 rfl ?_
            rintro e uw2 ⟨px, py, pz, pb, hpt, rfl, hb⟩
            replace M2 := Lib.hid (M2.out.call hb)
            replace M4 := Lib.hid (M4.out.call hb)
            replace M6 := Lib.hid (M6.out.call hb)
            replace M8 := Lib.hid (M8.out.call hb)
            replace HB := Lib.hid (held_next HB.out hb)
            refine ⟨_, rfl, ?_⟩
            clear hb
            (try simp only [Act.put, sI, sS, sZ])
            first | (obtain ⟨Zq, hZ, mZ⟩ := M4.out) | (obtain ⟨Zq, hZ, mZ⟩ := M4.out.toN (pt_size ..))
            refine wpList_store2 (by rfl) 53 _ _ rfl rfl (w.heap.size + 1) (pt px py pz pb) rfl rfl 53 Zq mZ (by rw [pt_size]; kernel_rfl) (hZ.trans (pt_size ..).symm) (pt_one _ _ _ _) ?_
            intro yw4 hw2
            replace M2 := Lib.hid (M2.out.setRow_other (w.heap.size + 1) (pt px py pz pb) (by omega))
            replace M6 := Lib.hid (M6.out.setRow_other (w.heap.size + 1) (pt px py pz pb) (by omega))
            replace M8 := Lib.hid (M8.out.setRow_other (w.heap.size + 1) (pt px py pz pb) (by omega))
            replace M4 := Lib.hid (mZ.setRow (pt px py pz pb))
            replace HB := Lib.hid (below_setRow HB.out (w.heap.size + 1) (pt px py pz pb) (by omega))
            rw [← hw2] at M2 M6 M8 M4 HB; clear mZ hZ hw2
            (refine wpList_step (fun K hK => ?_); go_simp; (try go_bits); refine hK _ _ ?_; clear hK K)
            refine wpList_nil ?_
            go_wp2_with fail
            have hb := bes_even C Y Hok.out.symm
            rw [show m % PP = rt3 C from Hmr.out.trans HR3.out, HY.out.symm] at hpt
            exact bodyPost_ret (v := .tuple #[.agg (pt px py pz pb), .bool true]) (results_cell_tmp_row (fn := Try.f87) (p := 4) (t2 := 5) (ty := 53) (t := 53) (by rfl) _ _ (w.heap.size + 1) _ _ _ rfl M4.out Try.underlying53 rfl (by rw [pt_size]; kernel_rfl)) rfl ⟨px, py, pz, pb, by rw [hb]; exact hpt, by rw [hb], HB.out⟩
          · have hzz : ¬ R3 = 0 := by rw [Nat.zero_mod] at hz; exact hz
            rw [decide_eq_false hz] at hiz
            have Hiz := Lib.hid hiz; clear hiz hz
            have HZ := Lib.hid hzz; clear hzz
            repeat ((fail_if_success (with_reducible (show wpList _ _ _ _ _ _))); go_step)
            refine wpList_load (by rfl) 36 _ rfl (B8) rfl 36 (e4 m) M8.out Try.underlying36 rfl (by rw [e4_size]; kernel_rfl) 28 rfl ?_
            (try simp only [Act.put, sI, sS, sZ])
            refine wpList_built (by rfl) 36 _ rfl _ (by rfl) (e4 0) (bd36z) 29 rfl ?_
            (try simp only [Act.put, sI, sS, sZ])
            refine wpList_call (by rfl) rfl rfl (by rfl) ent41 (by rfl) (Hiz.out m hm Hmr.out _) 30 rfl ?_
            rintro e uw1 ⟨rfl, hb⟩
            replace M2 := Lib.hid (M2.out.call hb)
            replace M4 := Lib.hid (M4.out.call hb)
            replace M6 := Lib.hid (M6.out.call hb)
            replace M8 := Lib.hid (M8.out.call hb)
            replace HB := Lib.hid (held_next HB.out hb)
            refine ⟨_, rfl, ?_⟩
            clear hb
            (try simp only [Act.put, sI, sS, sZ])
            (refine wpList_step (fun K hK => ?_); go_simp; (try go_bits); refine hK _ _ ?_; clear hK K)
            refine wpList_nil ?_
            repeat ((fail_if_success (with_reducible (show wpList _ _ _ _ _ _))); go_step)
            iterate 9 (refine wpList_step (fun K hK => ?_); go_simp; (try go_bits); refine hK _ _ ?_; clear hK K)
            refine wpList_nil ?_
            repeat ((fail_if_success (with_reducible (show wpList _ _ _ _ _ _))); go_step)
            iterate 2 (refine wpList_step (fun K hK => ?_); go_simp; (try go_bits); refine hK _ _ ?_; clear hK K)
            refine wpList_nil ?_
            repeat ((fail_if_success (with_reducible (show wpList _ _ _ _ _ _))); go_step)
            refine wpList_load (by rfl) 36 _ rfl (B8) rfl 36 (e4 m) M8.out Try.underlying36 rfl (by rw [e4_size]; kernel_rfl) 46 rfl ?_
            (try simp only [Act.put, sI, sS, sZ])
            refine wpList_load (by rfl) 36 _ rfl (w.heap.size) rfl 36 (e4 y) M2.out Try.underlying36 rfl (by rw [e4_size]; kernel_rfl) 47 rfl ?_
            (try simp only [Act.put, sI, sS, sZ])
            refine wpList_load (by rfl) 36 _ rfl (B6) rfl 36 (e4 1) M6.out Try.underlying36 rfl (by rw [e4_size]; kernel_rfl) 48 rfl ?_
            (try simp only [Act.put, sI, sS, sZ])
            refine wpList_call (by rfl) rfl rfl (by rfl) ent93 (by rfl) (Hmd.out m y 1 hm Hy.out (by decide) _) 49 rfl ?_
            rintro e uw2 ⟨px, py, pz, pb, hpt, rfl, hb⟩
            replace M2 := Lib.hid (M2.out.call hb)
            replace M4 := Lib.hid (M4.out.call hb)
            replace M6 := Lib.hid (M6.out.call hb)
            replace M8 := Lib.hid (M8.out.call hb)
            replace HB := Lib.hid (held_next HB.out hb)
            refine ⟨_, rfl, ?_⟩
            clear hb
            (try simp only [Act.put, sI, sS, sZ])
            first | (obtain ⟨Zq, hZ, mZ⟩ := M4.out) | (obtain ⟨Zq, hZ, mZ⟩ := M4.out.toN (pt_size ..))
            refine wpList_store2 (by rfl) 53 _ _ rfl rfl (w.heap.size + 1) (pt px py pz pb) rfl rfl 53 Zq mZ (by rw [pt_size]; kernel_rfl) (hZ.trans (pt_size ..).symm) (pt_one _ _ _ _) ?_
            intro yw4 hw2
            replace M2 := Lib.hid (M2.out.setRow_other (w.heap.size + 1) (pt px py pz pb) (by omega))
            replace M6 := Lib.hid (M6.out.setRow_other (w.heap.size + 1) (pt px py pz pb) (by omega))
            replace M8 := Lib.hid (M8.out.setRow_other (w.heap.size + 1) (pt px py pz pb) (by omega))
            replace M4 := Lib.hid (mZ.setRow (pt px py pz pb))
            replace HB := Lib.hid (below_setRow HB.out (w.heap.size + 1) (pt px py pz pb) (by omega))
            rw [← hw2] at M2 M6 M8 M4 HB; clear mZ hZ hw2
            (refine wpList_step (fun K hK => ?_); go_simp; (try go_bits); refine hK _ _ ?_; clear hK K)
            refine wpList_nil ?_
            go_wp2_with fail
            have hb := bes_even C Y Hok.out.symm
            rw [show m % PP = rt3 C from Hmr.out.trans HR3.out, HY.out.symm] at hpt
            exact bodyPost_ret (v := .tuple #[.agg (pt px py pz pb), .bool true]) (results_cell_tmp_row (fn := Try.f87) (p := 4) (t2 := 5) (ty := 53) (t := 53) (by rfl) _ _ (w.heap.size + 1) _ _ _ rfl M4.out Try.underlying53 rfl (by rw [pt_size]; kernel_rfl)) rfl ⟨px, py, pz, pb, by rw [hb]; exact hpt, by rw [hb], HB.out⟩
end Go.Proofs.Ytjiagjonlcadiaa
end
