/- Chapter 04: the generator, and the fixed fact. -/
import Derived.Test.YtjiagjonlcadiaaCrvJ
namespace Go.Proofs.Ytjiagjonlcadiaa
open Go.RowKit Go.Lib

def GX : Nat := 15112221349535400772501151409588531511454012693041857206046113283949847762202
def GY : Nat := 46316835694926478169428394003475163141307993866256225615783033603165251855960
theorem GX_lt : GX < PP := by decide +kernel
theorem GY_lt : GY < PP := by decide +kernel
theorem gy_pm : 4 * Nm.pm PP 256 5 (PP - 2) % PP = GY := by decide +kernel
theorem gx_pm : (GY * GY % PP + (PP - 1)) % PP * Nm.pm PP 256 ((SL * (GY * GY % PP) % PP + 1) % PP) (PP - 2) % PP = GX * GX % PP := by decide +kernel
theorem gy_val : 4 * pwm 5 (PP - 2) % PP = GY := by rw [pwm_pm _ _ pp2_lt, gy_pm]
theorem cx_pm (Y r : Nat) (h : (Y * Y % PP + (PP - 1)) % PP * Nm.pm PP 256 ((SL * (Y * Y % PP) % PP + 1) % PP) (PP - 2) % PP = r) : cx Y = r := by
  unfold cx; rw [pwm_pm _ _ pp2_lt, h]
theorem root_even (r : Nat) (hr : r < PP) (he : r % 2 = 0) : rt3 (r * r % PP) = r := by
  rcases rt3_root r with h | h
  · rw [h, Nat.mod_eq_of_lt hr]
  · have h1 := rt3_even (r * r % PP)
    have h2 := rt3_lt (r * r % PP)
    have h3 := PP_odd
    by_cases hh : rt3 (r * r % PP) + r < PP
    · rw [Nat.mod_eq_of_lt hh] at h; omega
    · have h4 : (rt3 (r * r % PP) + r) = PP + (rt3 (r * r % PP) + r - PP) := by omega
      rw [h4, Nat.add_mod_left, Nat.mod_eq_of_lt (by omega)] at h
      omega
theorem gx_even : GX % 2 = 0 := by decide +kernel
theorem gen_bes : bes (cx GY) true GY = (true, GX, GY) := by
  rw [cx_pm GY _ gx_pm, bes_even _ _ (rtok_sq GX), root_even GX GX_lt gx_even]
theorem pwm_base1 (e : Nat) : pwm 1 e = 1 := by unfold pwm; rw [Nat.one_pow, one_PP]
theorem keyn_one (X Y : Nat) (hX : X < PP) (hY : Y < PP) : keyn X Y 1 = Y + X % 2 * 57896044618658097711785492504343953926634992332820282019728792003956564819968 := by
  unfold keyn; rw [pwm_base1, Nat.mul_one, Nat.mul_one, Nat.mod_eq_of_lt hX, Nat.mod_eq_of_lt hY]
theorem gen_key : keyn GX GY 1 = GY := by rw [keyn_one GX GY GX_lt GY_lt, gx_even, Nat.zero_mul, Nat.add_zero]

set_option maxRecDepth 100000 in
set_option linter.unusedSimpArgs false in
set_option maxHeartbeats 8000000 in
theorem gen_any (w : World) : Calls Try.prog 58 #[] w (PtP GX GY 1 w) := by
  have h4 := fun w => fint_nn 4 (by decide) w
  have h5 := fun w => fint_nn 5 (by decide) w
  have hov := fun w => over_any 4 5 (by decide) (by decide) w
  rw [gy_val] at hov
  have hbe : ∀ m, m < 115792089237316195423570985008687907853269984665640564039457584007913129639936 → m % PP = GY → ∀ w, Calls Try.prog 87 #[.agg (e4 m), .bool true] w fun e w' => ∃ (x y z1 : Nat) (b : Bool), IsPt x y z1 b GX GY 1 ∧ e = .returned (.tuple #[.agg (pt x y z1 b), .bool true]) ∧ Below w.heap.size w w' := by
    intro m hm hr w
    have := beside_any m true hm w
    rw [hr, gen_bes] at this
    refine this.mono ?_
    rintro e w' ⟨x, y, z1, b, h1, h2, h3⟩
    rw [one_PP] at h1
    exact ⟨x, y, z1, b, h1, h2, h3⟩
  have H4 := Lib.hid h4; clear h4
  have H5 := Lib.hid h5; clear h5
  have Hov := Lib.hid hov; clear hov
  have Hbe := Lib.hid hbe; clear hbe
  go_enter Try.func58, Try.ntmps58
  repeat ((fail_if_success (with_reducible (show wpList _ _ _ _ _ _))); go_step)
  refine wpList_step (fun K hK => ?_)
  go_simp
  (try go_bits)
  refine hK _ _ ?_
  clear hK K
  refine wpList_nil ?_
  have M0 := Lib.hid (HasN.new w  (#[.int .u64 0, .int .u64 0, .int .u64 0, .int .u64 0, .int .u64 0, .int .u64 0, .int .u64 0, .int .u64 0, .int .u64 0, .int .u64 0, .int .u64 0, .int .u64 0, .bool false] : Array Value) 53 13 (by kernel_rfl))
  have HB := Lib.hid (below_1 w (.cells (#[.int .u64 0, .int .u64 0, .int .u64 0, .int .u64 0, .int .u64 0, .int .u64 0, .int .u64 0, .int .u64 0, .int .u64 0, .int .u64 0, .int .u64 0, .int .u64 0, .bool false] : Array Value) 53))
  obtain ⟨yw1, hwyw1⟩ : ∃ ww, ww = (w.alloc (.cells (#[.int .u64 0, .int .u64 0, .int .u64 0, .int .u64 0, .int .u64 0, .int .u64 0, .int .u64 0, .int .u64 0, .int .u64 0, .int .u64 0, .int .u64 0, .int .u64 0, .bool false] : Array Value) 53)) := ⟨_, rfl⟩
  rw [← hwyw1] at M0 HB ⊢
  clear hwyw1
  repeat ((fail_if_success (with_reducible (show wpList _ _ _ _ _ _))); go_step)
  refine wpList_call (by rfl) rfl rfl (by rfl) ent34 (by rfl) (H4.out _) 4 rfl ?_
  rintro e uw1 ⟨rfl, hb⟩
  replace M0 := Lib.hid (M0.out.call hb)
  replace HB := Lib.hid (held_next HB.out hb)
  refine ⟨_, rfl, ?_⟩
  clear hb
  (try simp only [Act.put, sI, sS, sZ])
  refine wpList_call (by rfl) rfl rfl (by rfl) ent34 (by rfl) (H5.out _) 5 rfl ?_
  rintro e uw2 ⟨rfl, hb⟩
  replace M0 := Lib.hid (M0.out.call hb)
  replace HB := Lib.hid (held_next HB.out hb)
  refine ⟨_, rfl, ?_⟩
  clear hb
  (try simp only [Act.put, sI, sS, sZ])
  refine wpList_call (by rfl) rfl rfl (by rfl) ent42 (by rfl) (Hov.out _) 6 rfl ?_
  rintro e uw3 ⟨m, hm, hmr, rfl, hb⟩
  replace M0 := Lib.hid (M0.out.call hb)
  replace HB := Lib.hid (held_next HB.out hb)
  refine ⟨_, rfl, ?_⟩
  clear hb
  (try simp only [Act.put, sI, sS, sZ])
  refine wpList_call (by rfl) rfl rfl (by rfl) ent87 (by rfl) (Hbe.out m hm hmr _) 7 rfl ?_
  rintro e uw4 ⟨px, py, pz, pb, hpt, rfl, hb⟩
  replace M0 := Lib.hid (M0.out.call hb)
  replace HB := Lib.hid (held_next HB.out hb)
  refine ⟨_, rfl, ?_⟩
  clear hb
  (try simp only [Act.put, sI, sS, sZ])
  refine wpList_step (fun K hK => ?_)
  go_simp
  (try go_bits)
  refine hK _ _ ?_
  clear hK K
  refine wpList_step (fun K hK => ?_)
  go_simp
  (try go_bits)
  refine hK _ _ ?_
  clear hK K
  refine wpList_step (fun K hK => ?_)
  go_simp
  (try go_bits)
  refine hK _ _ ?_
  clear hK K
  refine wpList_alloc (by rfl) 53 rfl _ al53 1 rfl ?_
  intro yw2 hw2
  have hlt3 := M0.out.lt
  have hsz := HB.out.size
  have kq := M0.out.alloc (.cells z53 53); rw [← hw2] at kq; clear M0; have M0 := Lib.hid kq; clear kq
  have kq := HasN.new uw4 z53 53 13 (by kernel_rfl); rw [← hw2] at kq; have M1 := Lib.hid kq; clear kq
  have kq := HB.out.alloc hsz (.cells z53 53); rw [← hw2] at kq; clear HB; have HB := Lib.hid kq; clear kq hw2
  (try simp only [Act.put, sI, sS, sZ])
  first | (obtain ⟨Zq, hZ, mZ⟩ := M1.out) | (obtain ⟨Zq, hZ, mZ⟩ := M1.out.toN (pt_size ..))
  refine wpList_store2 (by rfl) 53 _ _ rfl rfl (uw4.heap.size) (pt px py pz pb) rfl rfl 53 Zq mZ (by rw [pt_size]; kernel_rfl) (hZ.trans (pt_size ..).symm) (pt_one _ _ _ _) ?_
  intro yw4 hw2
  have kq := M0.out.setRow_other (uw4.heap.size) (pt px py pz pb) (by omega); rw [← hw2] at kq; clear M0; have M0 := Lib.hid kq; clear kq
  have kq := mZ.setRow (pt px py pz pb); rw [← hw2] at kq; clear M1; have M1 := Lib.hid kq; clear kq mZ hZ
  have kq := below_setRow HB.out (uw4.heap.size) (pt px py pz pb) (by omega); rw [← hw2] at kq; clear HB; have HB := Lib.hid kq; clear kq hw2
  refine wpList_step (fun K hK => ?_)
  go_simp
  (try go_bits)
  refine hK _ _ ?_
  clear hK K
  refine wpList_nil ?_
  repeat ((fail_if_success (with_reducible (show wpList _ _ _ _ _ _))); go_step)
  refine wpList_load (by rfl) 53 _ rfl (uw4.heap.size) rfl 53 (pt px py pz pb) M1.out Try.underlying53 rfl (by rw [pt_size]; kernel_rfl) 10 rfl ?_
  (try simp only [Act.put, sI, sS, sZ])
  first | (obtain ⟨Zq, hZ, mZ⟩ := M0.out) | (obtain ⟨Zq, hZ, mZ⟩ := M0.out.toN (pt_size ..))
  refine wpList_store2 (by rfl) 53 _ _ rfl rfl (w.heap.size) (pt px py pz pb) rfl rfl 53 Zq mZ (by rw [pt_size]; kernel_rfl) (hZ.trans (pt_size ..).symm) (pt_one _ _ _ _) ?_
  intro yw5 hw2
  have kq := M1.out.setRow_other (w.heap.size) (pt px py pz pb) (by omega); rw [← hw2] at kq; clear M1; have M1 := Lib.hid kq; clear kq
  have kq := mZ.setRow (pt px py pz pb); rw [← hw2] at kq; clear M0; have M0 := Lib.hid kq; clear kq mZ hZ
  have kq := below_setRow HB.out (w.heap.size) (pt px py pz pb) (by omega); rw [← hw2] at kq; clear HB; have HB := Lib.hid kq; clear kq hw2
  refine wpList_nil ?_
  go_wp2_with fail
  exact bodyPost_ret (v := .agg (pt px py pz pb)) (results_cell_row (t := 53) (by rfl) _ _ (w.heap.size) _ _ _ rfl M0.out Try.underlying53 rfl (by rw [pt_size]; kernel_rfl)) rfl ⟨px, py, pz, pb, hpt, rfl, HB.out⟩

theorem gen_minus : (decide ((padd SL GX GY 1 (negP GX) GY 1).1 * 1 % PP = 0 * (padd SL GX GY 1 (negP GX) GY 1).2.2 % PP) && decide ((padd SL GX GY 1 (negP GX) GY 1).2.1 * 1 % PP = 1 * (padd SL GX GY 1 (negP GX) GY 1).2.2 % PP)) = true := by decide +kernel
theorem zero_pt : IsPt 0 0 0 false 0 1 1 := ⟨⟨by decide, by decide, by decide⟩, .inr ⟨rfl, Nat.zero_mod _, one_PP, one_PP⟩⟩

set_option maxRecDepth 100000 in
set_option linter.unusedSimpArgs false in
set_option maxHeartbeats 8000000 in
theorem law4_alive (w : World) : Calls Try.prog 46 #[] w fun e w' => e = .returned (.bool true) ∧ Below w.heap.size w w' := by
  have hg := gen_any
  have hk := fun x y z b h w => pkey_any x y z b GX GY 1 h w
  simp only [gen_key] at hk
  have hmi := fun x y z b h x2 y2 z2 b2 h2 w => pminus_any x y z b GX GY 1 h x2 y2 z2 b2 GX GY 1 h2 w
  have hgm := gen_minus
  obtain ⟨R, hR⟩ : ∃ R, R = padd SL GX GY 1 (negP GX) GY 1 := ⟨_, rfl⟩
  rw [← hR] at hgm
  simp only [← hR] at hmi
  have his : ∀ x y z b, IsPt x y z b R.1 R.2.1 R.2.2 → ∀ w, Calls Try.prog 55 #[.agg (pt x y z b), .agg (pt 0 0 0 false)] w fun e w' => e = .returned (.bool true) ∧ Below w.heap.size w w' := by
    intro x y z b h w
    have := pis_any x y z b R.1 R.2.1 R.2.2 h 0 0 0 false 0 1 1 zero_pt w
    rwa [hgm] at this
  have hc0 : dg 256 GY 0 = 88 := by decide +kernel
  have hc1 : dg 256 GY 1 = 102 := by decide +kernel
  have hc31 : dg 256 GY 31 = 102 := by decide +kernel
  obtain ⟨gy, hgy⟩ : ∃ g, g = GY := ⟨_, rfl⟩
  rw [← hgy] at hc0 hc1 hc31
  simp only [← hgy] at hg hk hmi
  obtain ⟨gx, hgx⟩ : ∃ g, g = GX := ⟨_, rfl⟩
  simp only [← hgx] at hg hk hmi
  clear hR hgm hgy hgx
  have Hg := Lib.hid hg; clear hg
  have Hk := Lib.hid hk; clear hk
  have Hmi := Lib.hid hmi; clear hmi
  have His := Lib.hid his; clear his
  have Hc0 := Lib.hid hc0; clear hc0
  have Hc1 := Lib.hid hc1; clear hc1
  have Hc31 := Lib.hid hc31; clear hc31
  go_enter Try.func46, Try.ntmps46
  repeat ((fail_if_success (with_reducible (show wpList _ _ _ _ _ _))); go_step)
  refine wpList_step (fun K hK => ?_)
  go_simp
  (try go_bits)
  refine hK _ _ ?_
  clear hK K
  refine wpList_nil ?_
  have HB := Lib.hid (Below.refl w.heap.size w)
  repeat ((fail_if_success (with_reducible (show wpList _ _ _ _ _ _))); go_step)
  refine wpList_call (by rfl) rfl rfl (by rfl) ent58 (by rfl) (Hg.out _) 2 rfl ?_
  rintro e uw1 ⟨x1, y1, c1, b1, p1, rfl, hb⟩
  replace HB := Lib.hid (held_next HB.out hb)
  refine ⟨_, rfl, ?_⟩
  clear hb
  (try simp only [Act.put, sI, sS, sZ])
  refine wpList_call (by rfl) rfl rfl (by rfl) ent49 (by rfl) (Hk.out x1 y1 c1 b1 p1 _) 3 rfl ?_
  rintro e uw2 ⟨rfl, hb⟩
  replace HB := Lib.hid (held_next HB.out hb)
  refine ⟨_, rfl, ?_⟩
  clear hb
  (try simp only [Act.put, sI, sS, sZ])
  refine wpList_alloc (by rfl) 24 rfl _ al24 1 rfl ?_
  intro yw1 hw2
  have hsz := HB.out.size
  have kq := HasN.new uw2 z24 24 32 (by kernel_rfl); rw [← hw2] at kq; have M1 := Lib.hid kq; clear kq
  have kq := HB.out.alloc hsz (.cells z24 24); rw [← hw2] at kq; clear HB; have HB := Lib.hid kq; clear kq hw2
  (try simp only [Act.put, sI, sS, sZ])
  first | (obtain ⟨Zq, hZ, mZ⟩ := M1.out) | (obtain ⟨Zq, hZ, mZ⟩ := M1.out.toN (k32_size ..))
  refine wpList_store2 (by rfl) 24 _ _ rfl rfl (uw2.heap.size) (k32 gy) rfl rfl 24 Zq mZ (by rw [k32_size]; kernel_rfl) (hZ.trans (k32_size ..).symm) (row_one _ _ _) ?_
  intro yw2 hw2
  have kq := mZ.setRow (k32 gy); rw [← hw2] at kq; clear M1; have M1 := Lib.hid kq; clear kq mZ hZ
  have kq := below_setRow HB.out (uw2.heap.size) (k32 gy) (by omega); rw [← hw2] at kq; clear HB; have HB := Lib.hid kq; clear kq hw2
  refine wpList_nil ?_
  clear p1
  have h0 := M1.out.cell 0 (by omega)
  have h1 := M1.out.cell 1 (by omega)
  have h31 := M1.out.cell 31 (by omega)
  rw [Hc0.out] at h0
  rw [Hc1.out] at h1
  rw [Hc31.out] at h31
  repeat ((fail_if_success (with_reducible (show wpList _ _ _ _ _ _))); go_step)
  refine wpList_step (fun K hK => ?_)
  go_simp
  (try go_bits)
  refine hK _ _ ?_
  clear hK K
  refine wpList_step (fun K hK => ?_)
  go_simp
  (try go_bits)
  refine hK _ _ ?_
  clear hK K
  refine wpList_step (fun K hK => ?_)
  go_simp
  (try go_bits)
  refine hK _ _ ?_
  clear hK K
  refine wpList_step (fun K hK => ?_)
  go_simp
  (try go_bits)
  refine hK _ _ ?_
  clear hK K
  refine wpList_step (fun K hK => ?_)
  go_simp
  (try go_bits)
  refine hK _ _ ?_
  clear hK K
  refine wpList_step (fun K hK => ?_)
  go_simp
  (try go_bits)
  refine hK _ _ ?_
  clear hK K
  refine wpList_step (fun K hK => ?_)
  go_simp
  (try go_bits)
  refine hK _ _ ?_
  clear hK K
  refine wpList_step (fun K hK => ?_)
  go_simp
  (try go_bits)
  refine hK _ _ ?_
  clear hK K
  refine wpList_step (fun K hK => ?_)
  go_simp
  (try go_bits)
  refine hK _ _ ?_
  clear hK K
  refine wpList_step (fun K hK => ?_)
  go_simp
  (try go_bits)
  refine hK _ _ ?_
  clear hK K
  refine wpList_step (fun K hK => ?_)
  go_simp
  (try go_bits)
  refine hK _ _ ?_
  clear hK K
  refine wpList_step (fun K hK => ?_)
  go_simp
  (try go_bits)
  refine hK _ _ ?_
  clear hK K
  refine wpList_step (fun K hK => ?_)
  go_simp
  (try go_bits)
  refine hK _ _ ?_
  clear hK K
  refine wpList_step (fun K hK => ?_)
  go_simp
  (try go_bits)
  refine hK _ _ ?_
  clear hK K
  
  clear h0 h1 h31
  refine wpList_call (by rfl) rfl rfl (by rfl) ent58 (by rfl) (Hg.out _) 18 rfl ?_
  rintro e uw3 ⟨x1, y1, c1, b1, p1, rfl, hb⟩
  replace M1 := Lib.hid (M1.out.call hb)
  replace HB := Lib.hid (held_next HB.out hb)
  refine ⟨_, rfl, ?_⟩
  clear hb
  (try simp only [Act.put, sI, sS, sZ])
  refine wpList_call (by rfl) rfl rfl (by rfl) ent58 (by rfl) (Hg.out _) 19 rfl ?_
  rintro e uw4 ⟨x2, y2, c2, b2, p2, rfl, hb⟩
  replace M1 := Lib.hid (M1.out.call hb)
  replace HB := Lib.hid (held_next HB.out hb)
  refine ⟨_, rfl, ?_⟩
  clear hb
  (try simp only [Act.put, sI, sS, sZ])
  refine wpList_call (by rfl) rfl rfl (by rfl) ent53 (by rfl) (Hmi.out x1 y1 c1 b1 p1 x2 y2 c2 b2 p2 _) 20 rfl ?_
  rintro e uw5 ⟨x3, y3, c3, b3, p3, rfl, hb⟩
  replace M1 := Lib.hid (M1.out.call hb)
  replace HB := Lib.hid (held_next HB.out hb)
  refine ⟨_, rfl, ?_⟩
  clear hb
  (try simp only [Act.put, sI, sS, sZ])
  refine wpList_built (by rfl) 53 _ rfl _ (by rfl) (pt 0 0 0 false) (bd53z) 21 rfl ?_
  (try simp only [Act.put, sI, sS, sZ])
  refine wpList_call (by rfl) rfl rfl (by rfl) ent55 (by rfl) (His.out x3 y3 c3 b3 p3 _) 22 rfl ?_
  rintro e uw6 ⟨rfl, hb⟩
  replace M1 := Lib.hid (M1.out.call hb)
  replace HB := Lib.hid (held_next HB.out hb)
  refine ⟨_, rfl, ?_⟩
  clear hb
  (try simp only [Act.put, sI, sS, sZ])
  refine wpList_step (fun K hK => ?_)
  go_simp
  (try go_bits)
  refine hK _ _ ?_
  clear hK K
  refine wpList_step (fun K hK => ?_)
  go_simp
  (try go_bits)
  refine hK _ _ ?_
  clear hK K
  refine wpList_nil ?_
  go_wp2_with fail
  go_ret
  exact ⟨rfl, HB.out⟩
end Go.Proofs.Ytjiagjonlcadiaa
