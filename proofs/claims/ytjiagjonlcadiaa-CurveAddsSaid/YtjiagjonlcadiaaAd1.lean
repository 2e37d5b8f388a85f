/- For every key and every two bytes the law CurveAdds returns true, and what came in reads as it did; no condition. -/
import Derived.Test.YtjiagjonlcadiaaBa6
section
namespace Go.Proofs.Ytjiagjonlcadiaa
open Go.RowKit Go.Lib

/-- a key of one byte, of two bytes -/
def f24 (x y : Nat) (i : Nat) : Int := if i = 0 then (x : Int) else if i = 1 then (y : Int) else 0
theorem bd24_a (x : Nat) : Try.prog.built 24 [(0, .int .u8 (x : Int))] = some (row .u8 32 (f24 x 0)) := by kernel_rfl
theorem bd24_b (x y : Nat) : Try.prog.built 24 [(0, .int .u8 (x : Int)), (1, .int .u8 (y : Int))] = some (row .u8 32 (f24 x y)) := by kernel_rfl
theorem f24_k (x y : Nat) (hx : x < 256) (hy : y < 256) : k32 (x + 256 * y) = row .u8 32 (f24 x y) := by
  refine row_ext _ _ _ _ fun i _ => ?_
  unfold dg f24
  by_cases h : i = 0
  · subst h; rw [if_pos rfl, Nat.pow_zero, Nat.div_one]; omega
  · rw [if_neg h]
    by_cases h1 : i = 1
    · subst h1; rw [if_pos rfl, Nat.pow_one]; omega
    · have h2 : (256 : Nat) ^ 2 ≤ 256 ^ i := Nat.pow_le_pow_right (by decide) (by omega)
      rw [if_neg h1, Nat.div_eq_of_lt (Nat.lt_of_lt_of_le (by omega) h2)]; rfl
theorem bd24_1 (a : Nat) (ha : a < 256) : Try.prog.built 24 [(0, .int .u8 (a : Int))] = some (k32 a) := by
  have := f24_k a 0 ha (by decide)
  rw [Nat.mul_zero, Nat.add_zero] at this
  rw [this]; exact bd24_a a
theorem bd24_2 (s r q : Nat) (hr : r < 256) (hq : q < 256) (hs : s = r + 256 * q) : Try.prog.built 24 [(0, .int .u8 (r : Int)), (1, .int .u8 (q : Int))] = some (k32 s) := by
  rw [hs, f24_k r q hr hq]; exact bd24_b r q

set_option maxRecDepth 100000 in
set_option linter.unusedSimpArgs false in
set_option maxHeartbeats 8000000 in
theorem law_curveAdds (n1 : Nat) (ai bi : Int) (hn1 : n1 < 115792089237316195423570985008687907853269984665640564039457584007913129639936) (ha0 : 0 ≤ ai) (ha1 : ai < 256) (hb0 : 0 ≤ bi) (hb1 : bi < 256) (w : World) :
    Calls Try.prog 15 #[.agg (k32 n1), .int .u8 ai, .int .u8 bi] w fun e w' => e = .returned (.bool true) ∧ Below w.heap.size w w' := by
  obtain ⟨a, rfl⟩ := Int.eq_ofNat_of_zero_le ha0
  obtain ⟨b, rfl⟩ := Int.eq_ofNat_of_zero_le hb0
  have la : a < 256 := by omega
  have lb : b < 256 := by omega
  have hal := law4_alive
  have hg := g_gen
  have hm := fun x y z b h w => g_many x y z n1 b gG h hn1 w
  have hon : OnP fd (mulA finv fd gG n1) := fld.on_mul gG gG_on n1
  obtain ⟨P, hP⟩ : ∃ P, P = mulA finv fd gG n1 := ⟨_, rfl⟩
  rw [← hP] at hon
  simp only [← hP] at hm
  have hk := fun x y z b h w => g_key x y z b P h w
  have hof := fun w => g_ofk P hon w
  have hkl := keyP_lt P
  obtain ⟨K, hK⟩ : ∃ k, k = keyP P := ⟨_, rfl⟩
  simp only [← hK] at hk hof hkl
  have heq := fun w => k32_same K hkl w
  have his : ∀ (Q : Fin PP × Fin PP) x1 y1 z1 b1, PtA x1 y1 z1 b1 Q → ∀ x2 y2 z2 b2, PtA x2 y2 z2 b2 Q → ∀ w, Calls Try.prog 55 #[.agg (pt x1 y1 z1 b1), .agg (pt x2 y2 z2 b2)] w fun e w' => e = .returned (.bool true) ∧ Below w.heap.size w w' := by
    intro Q x1 y1 z1 b1 h1 x2 y2 z2 b2 h2 w
    have := g_is x1 y1 z1 b1 Q h1 x2 y2 z2 b2 Q h2 w
    rwa [decide_eq_true rfl] at this
  have hma := fun x y z c h w => g_many x y z a c P h (by omega) w
  have hmb := fun x y z c h w => g_many x y z b c P h (by omega) w
  have hms := fun x y z c h w => g_many x y z (a + b) c P h (by omega) w
  have hpl : ∀ x1 y1 z1 b1, PtA x1 y1 z1 b1 (mulA finv fd P a) → ∀ x2 y2 z2 b2, PtA x2 y2 z2 b2 (mulA finv fd P b) → ∀ w, Calls Try.prog 51 #[.agg (pt x1 y1 z1 b1), .agg (pt x2 y2 z2 b2)] w (PtG (mulA finv fd P (a + b)) w) := by
    intro x1 y1 z1 b1 h1 x2 y2 z2 b2 h2 w
    have := g_plus x1 y1 z1 b1 _ h1 x2 y2 z2 b2 _ h2 w
    rwa [← fld.mul_add P hon] at this
  have hmi : ∀ x1 y1 z1 b1, PtA x1 y1 z1 b1 P → ∀ x2 y2 z2 b2, PtA x2 y2 z2 b2 P → ∀ w, Calls Try.prog 53 #[.agg (pt x1 y1 z1 b1), .agg (pt x2 y2 z2 b2)] w (PtG (0, 1) w) := by
    intro x1 y1 z1 b1 h1 x2 y2 z2 b2 h2 w
    have := g_minus x1 y1 z1 b1 _ h1 x2 y2 z2 b2 _ h2 w
    rwa [show padA finv fd P (negA P) = (0, 1) from fld.add_neg P hon] at this
  have hp0 : ∀ x1 y1 z1 b1, PtA x1 y1 z1 b1 P → ∀ w, Calls Try.prog 51 #[.agg (pt x1 y1 z1 b1), .agg (pt 0 0 0 false)] w (PtG P w) := by
    intro x1 y1 z1 b1 h1 w
    have := g_plus x1 y1 z1 b1 _ h1 0 0 0 false (0, 1) zero_pta w
    rwa [fld.add_zero P hon] at this
  obtain ⟨s, hs⟩ : ∃ s, s = a + b := ⟨_, rfl⟩
  have ls : s < 65536 := by omega
  simp only [← hs] at hms hpl
  have hsi : (a : Int) + (b : Int) = (s : Int) := by omega
  obtain ⟨q, hq⟩ : ∃ q, q = s / 256 := ⟨_, rfl⟩
  obtain ⟨r, hr⟩ : ∃ r, r = s % 256 := ⟨_, rfl⟩
  have lq : q < 256 := by omega
  have lr : r < 256 := by omega
  have hsq : s = r + 256 * q := by omega
  have hw1 : IntKind.u8.wrap (s : Int) = (r : Int) := by rw [IntKind.wrap_u8]; omega
  have hw2 : (s : Int) / 256 = (q : Int) := by omega
  have hw3 : IntKind.u8.wrap (q : Int) = (q : Int) := by rw [IntKind.wrap_u8]; omega
  have gs0 : (0 : Int) ≤ (s : Int) := by omega
  have gs1 : (s : Int) < 65536 := by omega
  clear hK hP hon hkl hs hn1 hq hr
  have Hal := Lib.hid hal; clear hal
  have Hg := Lib.hid hg; clear hg
  have Hm := Lib.hid hm; clear hm
  have Hk := Lib.hid hk; clear hk
  have Hof := Lib.hid hof; clear hof
  have Heq := Lib.hid heq; clear heq
  have His := Lib.hid his; clear his
  have Hma := Lib.hid hma; clear hma
  have Hmb := Lib.hid hmb; clear hmb
  have Hms := Lib.hid hms; clear hms
  have Hpl := Lib.hid hpl; clear hpl
  have Hmi := Lib.hid hmi; clear hmi
  have Hp0 := Lib.hid hp0; clear hp0
  have Hsi := Lib.hid hsi; clear hsi
  have Hw1 := Lib.hid hw1; clear hw1
  have Hw2 := Lib.hid hw2; clear hw2
  have Hw3 := Lib.hid hw3; clear hw3
  have Hsq := Lib.hid hsq; clear hsq
  go_enter Try.func15, Try.ntmps15
  repeat ((fail_if_success (with_reducible (show wpList _ _ _ _ _ _))); go_step)
  iterate 2 (refine wpList_step (fun K hK => ?_); go_simp; (try go_bits); refine hK _ _ ?_; clear hK K)
  refine wpList_nil ?_
  have M3 := Lib.hid (Has.new w  (k32 n1) 24)
  have HB := Lib.hid (below_1 w (.cells (k32 n1) 24))
  obtain ⟨yw1, hwyw1⟩ : ∃ ww, ww = (w.alloc (.cells (k32 n1) 24)) := ⟨_, rfl⟩
  rw [← hwyw1] at M3 HB ⊢
  clear hwyw1
  repeat ((fail_if_success (with_reducible (show wpList _ _ _ _ _ _))); go_step)
  refine wpList_call (by rfl) rfl rfl (by rfl) ent46 (by rfl) (Hal.out _) 11 rfl ?_
  rintro e uw1 ⟨rfl, hb⟩
  replace M3 := Lib.hid (M3.out.call hb)
  replace HB := Lib.hid (held_next HB.out hb)
  refine ⟨_, rfl, ?_⟩
  clear hb
  (try simp only [Act.put, sI, sS, sZ])
  (refine wpList_step (fun K hK => ?_); go_simp; (try go_bits); refine hK _ _ ?_; clear hK K)
  refine wpList_nil ?_
  repeat ((fail_if_success (with_reducible (show wpList _ _ _ _ _ _))); go_step)
  refine wp_region_meet (α := Nat × Nat × Nat × Nat × Bool × Nat × Nat × Nat × Bool) (fun W0 x w' => PtA x.2.2.2.2.2.1 x.2.2.2.2.2.2.1 x.2.2.2.2.2.2.2.1 x.2.2.2.2.2.2.2.2 P ∧ W0.heap.size ≤ x.1 ∧ Has w' x.1 (pt x.2.2.2.2.2.1 x.2.2.2.2.2.2.1 x.2.2.2.2.2.2.2.1 x.2.2.2.2.2.2.2.2) 53 ∧ Below W0.heap.size W0 w') (fun ac x => ((((ac.put (some 13) (.agg (pt x.2.1 x.2.2.1 x.2.2.2.1 x.2.2.2.2.1))).put (some 14) (.agg (k32 n1))).put (some 15) (.agg (pt x.2.2.2.2.2.1 x.2.2.2.2.2.2.1 x.2.2.2.2.2.2.2.1 x.2.2.2.2.2.2.2.2))).put (some 7) (.pointer (some ⟨x.1, 0, none⟩)))) ?_ ?_
  · intro Q' hQ'
    refine wp_region_noPanic ?_
    refine wp_region_go 99 5 #[ff,ff,ff,ff,ff] (by kernel_rfl) rfl rfl ?_
    intro W2 hW2
    rw [← hW2] at hQ'
    simp only [Act.put, List.setIfInBounds_toArray, List.set_cons_succ, List.set_cons_zero] at hQ'
    have HQ := Lib.hid hQ'; clear hQ'
    rw [← hW2] at M3 HB
    clear hW2
    refine go_take2 1 14 #[ff,tt,ff,ff,ff] rfl rfl rfl (by kernel_rfl) (yieldsIf_load_row (by rfl) 24 _ rfl (w.heap.size) rfl 24 (k32 n1) (fun _ h => M3.out.below h M3.out.lt) Try.underlying24 rfl (by rw [k32_size]; kernel_rfl)) ((below_dr W2)) ?_
    (try simp only [sI, sS, sZ])
    refine wpBut_r2 (i := 0) (j := 3) (by kernel_rfl) ?_ ?_
    refine go_call 0 13 #[tt,tt,ff,ff,ff] rfl rfl rfl (by rfl) rfl rfl (by rfl) ent58 (by rfl) (Hg.out _) ?_
    rintro e wW21 ⟨x0, y0, z0, b0, g0, rfl, hb⟩
    have hkW21 := held_next (below_dr W2) hb
    refine ⟨_, rfl, fun _ => hkW21, ?_⟩
    clear hb
    (try simp only [sI, sS, sZ])
    refine wpBut_r2 (i := 2) (j := 3) (by kernel_rfl) ?_ ?_
    refine go_call 2 15 #[tt,tt,tt,ff,ff] rfl rfl rfl (by rfl) rfl rfl (by rfl) ent56 (by rfl) (Hm.out x0 y0 z0 b0 g0 _) ?_
    rintro e wW22 ⟨x1, y1, z1, b1, hp1, rfl, hb⟩
    have hkW22 := held_next hkW21 hb
    refine ⟨_, rfl, fun _ => hkW22, ?_⟩
    clear hb
    (try simp only [sI, sS, sZ])
    refine wpBut_r1 (i := 3) (by kernel_rfl) ?_
    refine go_alloc 3 7 #[tt,tt,tt,tt,ff] rfl rfl rfl (by rfl) 53 rfl _ al53 ?_
    intro wW23 hw2
    have hkW23 := (hkW22).alloc (hkW22).size (.cells z53 53)
    rw [← hw2] at hkW23
    have MA3 := Lib.hid (HasN.new (wW22) z53 53 13 (by kernel_rfl))
    rw [← hw2] at MA3
    have HA3 := Lib.hid (show W2.heap.size ≤ _ from (hkW22).size)
    clear hw2
    refine ⟨fun _ => hkW23, ?_⟩
    (try simp only [sI, sS, sZ])
    refine wpBut_r1 (i := 4) (by kernel_rfl) ?_
    obtain ⟨Zq, hZ, mZ⟩ := MA3.out
    refine go_store2 4 #[tt,tt,tt,tt,tt] rfl rfl rfl (by rfl) 53 _ _ rfl _ _ rfl rfl 53 Zq mZ (by rw [pt_size]; kernel_rfl) (hZ.trans (pt_size ..).symm) (pt_one _ _ _ _) ?_
    intro wW24 hw2
    have hkW24 := below_setRow (hkW23) _ (pt x1 y1 z1 b1) HA3.out
    rw [← hw2] at hkW24
    clear MA3
    have MA3 := Lib.hid (mZ.setRow (pt x1 y1 z1 b1))
    rw [← hw2] at MA3; clear mZ hZ hw2
    refine ⟨fun _ => hkW24, ?_⟩
    (try simp only [sI, sS, sZ])
    exact wpBut_done (by kernel_rfl) (NoPanic.normal (HQ.out (_, x0, y0, z0, b0, x1, y1, z1, b1) _ ⟨hp1, HA3.out, MA3.out, (hkW24)⟩))
    refine go_alloc 3 7 #[tt,tt,ff,tt,ff] rfl rfl rfl (by rfl) 53 rfl _ al53 ?_
    intro wW22 hw2
    have hkW22 := (hkW21).alloc (hkW21).size (.cells z53 53)
    rw [← hw2] at hkW22
    have MA3 := Lib.hid (HasN.new (wW21) z53 53 13 (by kernel_rfl))
    rw [← hw2] at MA3
    have HA3 := Lib.hid (show W2.heap.size ≤ _ from (hkW21).size)
    clear hw2
    refine ⟨fun _ => hkW22, ?_⟩
    (try simp only [sI, sS, sZ])
    refine wpBut_r1 (i := 2) (by kernel_rfl) ?_
    refine go_call 2 15 #[tt,tt,tt,tt,ff] rfl rfl rfl (by rfl) rfl rfl (by rfl) ent56 (by rfl) (Hm.out x0 y0 z0 b0 g0 _) ?_
    rintro e wW23 ⟨x1, y1, z1, b1, hp1, rfl, hb⟩
    have hkW23 := held_next hkW22 hb
    replace MA3 := Lib.hid (MA3.out.call hb)
    refine ⟨_, rfl, fun _ => hkW23, ?_⟩
    clear hb
    (try simp only [sI, sS, sZ])
    refine wpBut_r1 (i := 4) (by kernel_rfl) ?_
    obtain ⟨Zq, hZ, mZ⟩ := MA3.out
    refine go_store2 4 #[tt,tt,tt,tt,tt] rfl rfl rfl (by rfl) 53 _ _ rfl _ _ rfl rfl 53 Zq mZ (by rw [pt_size]; kernel_rfl) (hZ.trans (pt_size ..).symm) (pt_one _ _ _ _) ?_
    intro wW24 hw2
    have hkW24 := below_setRow (hkW23) _ (pt x1 y1 z1 b1) HA3.out
    rw [← hw2] at hkW24
    clear MA3
    have MA3 := Lib.hid (mZ.setRow (pt x1 y1 z1 b1))
    rw [← hw2] at MA3; clear mZ hZ hw2
    refine ⟨fun _ => hkW24, ?_⟩
    (try simp only [sI, sS, sZ])
    exact wpBut_done (by kernel_rfl) (NoPanic.normal (HQ.out (_, x0, y0, z0, b0, x1, y1, z1, b1) _ ⟨hp1, HA3.out, MA3.out, (hkW24)⟩))
    refine go_alloc 3 7 #[ff,tt,ff,tt,ff] rfl rfl rfl (by rfl) 53 rfl _ al53 ?_
    intro wW21 hw2
    have hkW21 := ((below_dr W2)).alloc ((below_dr W2)).size (.cells z53 53)
    rw [← hw2] at hkW21
    have MA3 := Lib.hid (HasN.new (W2.drew) z53 53 13 (by kernel_rfl))
    rw [← hw2] at MA3
    have HA3 := Lib.hid (show W2.heap.size ≤ _ from ((below_dr W2)).size)
    clear hw2
    refine ⟨fun _ => hkW21, ?_⟩
    (try simp only [sI, sS, sZ])
    refine wpBut_r1 (i := 0) (by kernel_rfl) ?_
    refine go_call 0 13 #[tt,tt,ff,tt,ff] rfl rfl rfl (by rfl) rfl rfl (by rfl) ent58 (by rfl) (Hg.out _) ?_
    rintro e wW22 ⟨x0, y0, z0, b0, g0, rfl, hb⟩
    have hkW22 := held_next hkW21 hb
    replace MA3 := Lib.hid (MA3.out.call hb)
    refine ⟨_, rfl, fun _ => hkW22, ?_⟩
    clear hb
    (try simp only [sI, sS, sZ])
    refine wpBut_r1 (i := 2) (by kernel_rfl) ?_
    refine go_call 2 15 #[tt,tt,tt,tt,ff] rfl rfl rfl (by rfl) rfl rfl (by rfl) ent56 (by rfl) (Hm.out x0 y0 z0 b0 g0 _) ?_
    rintro e wW23 ⟨x1, y1, z1, b1, hp1, rfl, hb⟩
    have hkW23 := held_next hkW22 hb
    replace MA3 := Lib.hid (MA3.out.call hb)
    refine ⟨_, rfl, fun _ => hkW23, ?_⟩
    clear hb
    (try simp only [sI, sS, sZ])
    refine wpBut_r1 (i := 4) (by kernel_rfl) ?_
    obtain ⟨Zq, hZ, mZ⟩ := MA3.out
    refine go_store2 4 #[tt,tt,tt,tt,tt] rfl rfl rfl (by rfl) 53 _ _ rfl _ _ rfl rfl 53 Zq mZ (by rw [pt_size]; kernel_rfl) (hZ.trans (pt_size ..).symm) (pt_one _ _ _ _) ?_
    intro wW24 hw2
    have hkW24 := below_setRow (hkW23) _ (pt x1 y1 z1 b1) HA3.out
    rw [← hw2] at hkW24
    clear MA3
    have MA3 := Lib.hid (mZ.setRow (pt x1 y1 z1 b1))
    rw [← hw2] at MA3; clear mZ hZ hw2
    refine ⟨fun _ => hkW24, ?_⟩
    (try simp only [sI, sS, sZ])
    exact wpBut_done (by kernel_rfl) (NoPanic.normal (HQ.out (_, x0, y0, z0, b0, x1, y1, z1, b1) _ ⟨hp1, HA3.out, MA3.out, (hkW24)⟩))
  · rintro W2 ⟨B7, x0, y0, z0, b0, x1, y1, z1, b1⟩ vw2 hW2 ⟨hp1, hBq0, mBq0, hbw⟩
    simp only [Act.put, List.setIfInBounds_toArray, List.set_cons_succ, List.set_cons_zero] at hp1 hBq0  mBq0 ⊢
    rw [← hW2] at M3 HB
    clear hW2
    have hltM3_2 := M3.out.lt
    replace M3 := Lib.hid (M3.out.call hbw)
    replace HB := Lib.hid (held_next HB.out hbw)
    have M7 := Lib.hid mBq0; clear mBq0
    clear hbw
    have Hp1 := Lib.hid hp1; clear hp1
    repeat ((fail_if_success (with_reducible (show wpList _ _ _ _ _ _))); go_step)
    refine wpList_load (by rfl) 53 _ rfl (B7) rfl 53 (pt x1 y1 z1 b1) M7.out Try.underlying53 rfl (by rw [pt_size]; kernel_rfl) 17 rfl ?_
    (try simp only [Act.put, sI, sS, sZ])
    refine wpList_call (by rfl) rfl rfl (by rfl) ent49 (by rfl) (Hk.out x1 y1 z1 b1 Hp1.out _) 18 rfl ?_
    rintro e uw2 ⟨rfl, hb⟩
    replace M3 := Lib.hid (M3.out.call hb)
    replace M7 := Lib.hid (M7.out.call hb)
    replace HB := Lib.hid (held_next HB.out hb)
    refine ⟨_, rfl, ?_⟩
    clear hb
    (try simp only [Act.put, sI, sS, sZ])
    refine wpList_call (by rfl) rfl rfl (by rfl) ent47 (by rfl) (Hof.out _) 19 rfl ?_
    rintro e uw3 ⟨x2, y2, z2, b2, hp2, rfl, hb⟩
    replace M3 := Lib.hid (M3.out.call hb)
    replace M7 := Lib.hid (M7.out.call hb)
    replace HB := Lib.hid (held_next HB.out hb)
    refine ⟨_, rfl, ?_⟩
    clear hb
    (try simp only [Act.put, sI, sS, sZ])
    iterate 3 (refine wpList_step (fun K hK => ?_); go_simp; (try go_bits); refine hK _ _ ?_; clear hK K)
    refine wpList_alloc (by rfl) 53 rfl _ al53 8 rfl ?_
    intro yw3 hw2
    have hlt4 := M3.out.lt
    have hlt5 := M7.out.lt
    have hsz := HB.out.size
    replace M3 := Lib.hid (M3.out.alloc (.cells z53 53))
    replace M7 := Lib.hid (M7.out.alloc (.cells z53 53))
    have M8 := Lib.hid (HasN.new uw3 z53 53 13 (by kernel_rfl))
    replace HB := Lib.hid (HB.out.alloc hsz (.cells z53 53))
    rw [← hw2] at M3 M7 M8 HB; clear hw2
    (try simp only [Act.put, sI, sS, sZ])
    first | (obtain ⟨Zq, hZ, mZ⟩ := M8.out) | (obtain ⟨Zq, hZ, mZ⟩ := M8.out.toN (pt_size ..))
    refine wpList_store2 (by rfl) 53 _ _ rfl rfl (uw3.heap.size) (pt x2 y2 z2 b2) rfl rfl 53 Zq mZ (by rw [pt_size]; kernel_rfl) (hZ.trans (pt_size ..).symm) (pt_one _ _ _ _) ?_
    intro yw6 hw2
    replace M3 := Lib.hid (M3.out.setRow_other (uw3.heap.size) (pt x2 y2 z2 b2) (by omega))
    replace M7 := Lib.hid (M7.out.setRow_other (uw3.heap.size) (pt x2 y2 z2 b2) (by omega))
    replace M8 := Lib.hid (mZ.setRow (pt x2 y2 z2 b2))
    replace HB := Lib.hid (below_setRow HB.out (uw3.heap.size) (pt x2 y2 z2 b2) (by omega))
    rw [← hw2] at M3 M7 M8 HB; clear mZ hZ hw2
    (refine wpList_step (fun K hK => ?_); go_simp; (try go_bits); refine hK _ _ ?_; clear hK K)
    refine wpList_nil ?_
    have Hp2 := Lib.hid hp2; clear hp2
    repeat ((fail_if_success (with_reducible (show wpList _ _ _ _ _ _))); go_step)
    have hsi := Hsi.out
    iterate 6 (refine wpList_step (fun K hK => ?_); go_simp; (try go_bits); refine hK _ _ ?_; clear hK K)
    refine wpList_nil ?_
    clear hsi
    repeat ((fail_if_success (with_reducible (show wpList _ _ _ _ _ _))); go_step)
    have hw1 := Hw1.out
    have hw2 := Hw2.out
    have hw3 := Hw3.out
    have heq := Heq.out
    refine wp_region_noPanic ?_
    refine wp_region_go 99 43 #[ff,ff,ff,ff,ff,ff,ff,ff,ff,ff,ff,ff,ff,ff,ff,ff,ff,ff,ff,ff,ff,ff,ff,ff,ff,ff,ff,ff,ff,ff,ff,ff,ff,ff,ff,ff,ff,ff,ff,ff,ff,ff,ff] (by kernel_rfl) rfl rfl ?_
    intro W7 hW7
    rw [← hW7] at M3 M7 M8 HB
    clear hW7
    refine go_take2 0 27 #[tt,ff,ff,ff,ff,ff,ff,ff,ff,ff,ff,ff,ff,ff,ff,ff,ff,ff,ff,ff,ff,ff,ff,ff,ff,ff,ff,ff,ff,ff,ff,ff,ff,ff,ff,ff,ff,ff,ff,ff,ff,ff,ff] (v := ?uv1) rfl rfl rfl (by kernel_rfl) (Or.inl ⟨by rfl, ?uy1⟩) ((below_dr W7)) ?urest1
    case uy1 => (intro _ _; go_simp; try with_reducible rfl)
    (try simp only [sI, sS, sZ])
    refine go_take2 1 28 #[tt,tt,ff,ff,ff,ff,ff,ff,ff,ff,ff,ff,ff,ff,ff,ff,ff,ff,ff,ff,ff,ff,ff,ff,ff,ff,ff,ff,ff,ff,ff,ff,ff,ff,ff,ff,ff,ff,ff,ff,ff,ff,ff] (v := ?uv2) rfl rfl rfl (by kernel_rfl) (Or.inl ⟨by rfl, ?uy2⟩) ((below_dr W7)) ?urest2
    case uy2 => (intro _ _; go_simp; try with_reducible rfl)
    (try simp only [sI, sS, sZ])
    refine go_take2 2 29 #[tt,tt,tt,ff,ff,ff,ff,ff,ff,ff,ff,ff,ff,ff,ff,ff,ff,ff,ff,ff,ff,ff,ff,ff,ff,ff,ff,ff,ff,ff,ff,ff,ff,ff,ff,ff,ff,ff,ff,ff,ff,ff,ff] rfl rfl rfl (by kernel_rfl) (yieldsIf_load_row (by rfl) 53 _ rfl (uw3.heap.size) rfl 53 (pt x2 y2 z2 b2) (fun _ h => M8.out.below h M8.out.lt) Try.underlying53 rfl (by rw [pt_size]; kernel_rfl)) ((below_dr W7)) ?_
    (try simp only [sI, sS, sZ])
    refine go_take2 3 30 #[tt,tt,tt,tt,ff,ff,ff,ff,ff,ff,ff,ff,ff,ff,ff,ff,ff,ff,ff,ff,ff,ff,ff,ff,ff,ff,ff,ff,ff,ff,ff,ff,ff,ff,ff,ff,ff,ff,ff,ff,ff,ff,ff] rfl rfl rfl (by kernel_rfl) (yieldsIf_load_row (by rfl) 53 _ rfl (B7) rfl 53 (pt x1 y1 z1 b1) (fun _ h => M7.out.below h M7.out.lt) Try.underlying53 rfl (by rw [pt_size]; kernel_rfl)) ((below_dr W7)) ?_
    (try simp only [sI, sS, sZ])
    refine wpBut_r1 (i := 4) (by kernel_rfl) ?_
    refine go_call 4 31 #[tt,tt,tt,tt,tt,ff,ff,ff,ff,ff,ff,ff,ff,ff,ff,ff,ff,ff,ff,ff,ff,ff,ff,ff,ff,ff,ff,ff,ff,ff,ff,ff,ff,ff,ff,ff,ff,ff,ff,ff,ff,ff,ff] rfl rfl rfl (by rfl) rfl rfl (by rfl) ent55 (by rfl) (His.out P x2 y2 z2 b2 Hp2.out x1 y1 z1 b1 Hp1.out _) ?_
    rintro e wW71 ⟨rfl, hb⟩
    have hkW71 := held_next (below_dr W7) hb
    refine ⟨_, rfl, fun _ => hkW71, ?_⟩
    clear hb
    (try simp only [sI, sS, sZ])
    refine go_take2 5 32 #[tt,tt,tt,tt,tt,tt,ff,ff,ff,ff,ff,ff,ff,ff,ff,ff,ff,ff,ff,ff,ff,ff,ff,ff,ff,ff,ff,ff,ff,ff,ff,ff,ff,ff,ff,ff,ff,ff,ff,ff,ff,ff,ff] (v := ?uv3) rfl rfl rfl (by kernel_rfl) (Or.inl ⟨by rfl, ?uy3⟩) (hkW71) ?urest3
    case uy3 => (intro _ _; go_simp; try with_reducible rfl)
    (try simp only [sI, sS, sZ])
    refine go_take2 6 33 #[tt,tt,tt,tt,tt,tt,tt,ff,ff,ff,ff,ff,ff,ff,ff,ff,ff,ff,ff,ff,ff,ff,ff,ff,ff,ff,ff,ff,ff,ff,ff,ff,ff,ff,ff,ff,ff,ff,ff,ff,ff,ff,ff] (v := ?uv4) rfl rfl rfl (by kernel_rfl) (Or.inl ⟨by rfl, ?uy4⟩) (hkW71) ?urest4
    case uy4 => (intro _ _; go_simp; try with_reducible rfl)
    (try simp only [sI, sS, sZ])
    refine go_take2 7 34 #[tt,tt,tt,tt,tt,tt,tt,tt,ff,ff,ff,ff,ff,ff,ff,ff,ff,ff,ff,ff,ff,ff,ff,ff,ff,ff,ff,ff,ff,ff,ff,ff,ff,ff,ff,ff,ff,ff,ff,ff,ff,ff,ff] rfl rfl rfl (by kernel_rfl) (yieldsIf_load_row (by rfl) 53 _ rfl (B7) rfl 53 (pt x1 y1 z1 b1) (fun _ h => M7.out.below h M7.out.lt) Try.underlying53 rfl (by rw [pt_size]; kernel_rfl)) (hkW71) ?_
    (try simp only [sI, sS, sZ])
    refine go_take2 8 35 #[tt,tt,tt,tt,tt,tt,tt,tt,tt,ff,ff,ff,ff,ff,ff,ff,ff,ff,ff,ff,ff,ff,ff,ff,ff,ff,ff,ff,ff,ff,ff,ff,ff,ff,ff,ff,ff,ff,ff,ff,ff,ff,ff] (v := ?uv5) rfl rfl rfl (by kernel_rfl) (Or.inl ⟨by rfl, ?uy5⟩) (hkW71) ?urest5
    case uy5 => (intro _ _; go_simp; try with_reducible rfl)
    (try simp only [sI, sS, sZ])
    refine go_take2 9 36 #[tt,tt,tt,tt,tt,tt,tt,tt,tt,tt,ff,ff,ff,ff,ff,ff,ff,ff,ff,ff,ff,ff,ff,ff,ff,ff,ff,ff,ff,ff,ff,ff,ff,ff,ff,ff,ff,ff,ff,ff,ff,ff,ff] rfl rfl rfl (by kernel_rfl) (yieldsIf_build (by rfl) 24 _ rfl _ (by rfl) (k32 a) (bd24_1 a la)) (hkW71) ?_
    (try simp only [sI, sS, sZ])
    refine go_take2 11 38 #[tt,tt,tt,tt,tt,tt,tt,tt,tt,tt,ff,tt,ff,ff,ff,ff,ff,ff,ff,ff,ff,ff,ff,ff,ff,ff,ff,ff,ff,ff,ff,ff,ff,ff,ff,ff,ff,ff,ff,ff,ff,ff,ff] rfl rfl rfl (by kernel_rfl) (yieldsIf_load_row (by rfl) 53 _ rfl (B7) rfl 53 (pt x1 y1 z1 b1) (fun _ h => M7.out.below h M7.out.lt) Try.underlying53 rfl (by rw [pt_size]; kernel_rfl)) (hkW71) ?_
    (try simp only [sI, sS, sZ])
    refine go_take2 12 39 #[tt,tt,tt,tt,tt,tt,tt,tt,tt,tt,ff,tt,tt,ff,ff,ff,ff,ff,ff,ff,ff,ff,ff,ff,ff,ff,ff,ff,ff,ff,ff,ff,ff,ff,ff,ff,ff,ff,ff,ff,ff,ff,ff] (v := ?uv6) rfl rfl rfl (by kernel_rfl) (Or.inl ⟨by rfl, ?uy6⟩) (hkW71) ?urest6
    case uy6 => (intro _ _; go_simp; try with_reducible rfl)
    (try simp only [sI, sS, sZ])
    refine go_take2 13 40 #[tt,tt,tt,tt,tt,tt,tt,tt,tt,tt,ff,tt,tt,tt,ff,ff,ff,ff,ff,ff,ff,ff,ff,ff,ff,ff,ff,ff,ff,ff,ff,ff,ff,ff,ff,ff,ff,ff,ff,ff,ff,ff,ff] rfl rfl rfl (by kernel_rfl) (yieldsIf_build (by rfl) 24 _ rfl _ (by rfl) (k32 b) (bd24_1 b lb)) (hkW71) ?_
    (try simp only [sI, sS, sZ])
    refine go_take2 16 43 #[tt,tt,tt,tt,tt,tt,tt,tt,tt,tt,ff,tt,tt,tt,ff,ff,tt,ff,ff,ff,ff,ff,ff,ff,ff,ff,ff,ff,ff,ff,ff,ff,ff,ff,ff,ff,ff,ff,ff,ff,ff,ff,ff] rfl rfl rfl (by kernel_rfl) (yieldsIf_load_row (by rfl) 53 _ rfl (B7) rfl 53 (pt x1 y1 z1 b1) (fun _ h => M7.out.below h M7.out.lt) Try.underlying53 rfl (by rw [pt_size]; kernel_rfl)) (hkW71) ?_
    (try simp only [sI, sS, sZ])
    refine go_take2 17 44 #[tt,tt,tt,tt,tt,tt,tt,tt,tt,tt,ff,tt,tt,tt,ff,ff,tt,tt,ff,ff,ff,ff,ff,ff,ff,ff,ff,ff,ff,ff,ff,ff,ff,ff,ff,ff,ff,ff,ff,ff,ff,ff,ff] (v := ?uv7) rfl rfl rfl (by kernel_rfl) (Or.inl ⟨by rfl, ?uy7⟩) (hkW71) ?urest7
    case uy7 => (intro _ _; go_simp; try with_reducible rfl)
    (try simp only [sI, sS, sZ])
    refine go_take2 18 45 #[tt,tt,tt,tt,tt,tt,tt,tt,tt,tt,ff,tt,tt,tt,ff,ff,tt,tt,tt,ff,ff,ff,ff,ff,ff,ff,ff,ff,ff,ff,ff,ff,ff,ff,ff,ff,ff,ff,ff,ff,ff,ff,ff] (v := ?uv8) rfl rfl rfl (by kernel_rfl) (Or.inl ⟨by rfl, ?uy8⟩) (hkW71) ?urest8
    case uy8 => (intro _ _; go_simp; try with_reducible rfl)
    (try simp only [sI, sS, sZ])
    refine go_take2 19 46 #[tt,tt,tt,tt,tt,tt,tt,tt,tt,tt,ff,tt,tt,tt,ff,ff,tt,tt,tt,tt,ff,ff,ff,ff,ff,ff,ff,ff,ff,ff,ff,ff,ff,ff,ff,ff,ff,ff,ff,ff,ff,ff,ff] (v := ?uv9) rfl rfl rfl (by kernel_rfl) (Or.inl ⟨by rfl, ?uy9⟩) (hkW71) ?urest9
    case uy9 => (intro _ _; go_simp; try with_reducible rfl)
    (try simp only [sI, sS, sZ])
    refine go_take2 20 47 #[tt,tt,tt,tt,tt,tt,tt,tt,tt,tt,ff,tt,tt,tt,ff,ff,tt,tt,tt,tt,tt,ff,ff,ff,ff,ff,ff,ff,ff,ff,ff,ff,ff,ff,ff,ff,ff,ff,ff,ff,ff,ff,ff] (v := ?uv10) rfl rfl rfl (by kernel_rfl) (Or.inl ⟨by rfl, ?uy10⟩) (hkW71) ?urest10
    case uy10 => (intro _ _; go_simp; try with_reducible rfl)
    (try simp only [sI, sS, sZ])
    refine go_take2 21 48 #[tt,tt,tt,tt,tt,tt,tt,tt,tt,tt,ff,tt,tt,tt,ff,ff,tt,tt,tt,tt,tt,tt,ff,ff,ff,ff,ff,ff,ff,ff,ff,ff,ff,ff,ff,ff,ff,ff,ff,ff,ff,ff,ff] (v := ?uv11) rfl rfl rfl (by kernel_rfl) (Or.inl ⟨by rfl, ?uy11⟩) (hkW71) ?urest11
    case uy11 => (intro _ _; go_simp; try with_reducible rfl)
    (try simp only [sI, sS, sZ])
    refine go_take2 22 49 #[tt,tt,tt,tt,tt,tt,tt,tt,tt,tt,ff,tt,tt,tt,ff,ff,tt,tt,tt,tt,tt,tt,tt,ff,ff,ff,ff,ff,ff,ff,ff,ff,ff,ff,ff,ff,ff,ff,ff,ff,ff,ff,ff] rfl rfl rfl (by kernel_rfl) (yieldsIf_build (by rfl) 24 _ rfl _ (by rfl) (k32 s) (bd24_2 s r q lr lq Hsq.out)) (hkW71) ?_
    (try simp only [sI, sS, sZ])
    refine wpBut_r1 (i := 10) (by kernel_rfl) ?_
    refine go_call 10 37 #[tt,tt,tt,tt,tt,tt,tt,tt,tt,tt,tt,tt,tt,tt,ff,ff,tt,tt,tt,tt,tt,tt,tt,ff,ff,ff,ff,ff,ff,ff,ff,ff,ff,ff,ff,ff,ff,ff,ff,ff,ff,ff,ff] rfl rfl rfl (by rfl) rfl rfl (by rfl) ent56 (by rfl) (Hma.out x1 y1 z1 b1 Hp1.out _) ?_
    rintro e wW72 ⟨x3, y3, z3, b3, hp3, rfl, hb⟩
    have hkW72 := held_next hkW71 hb
    refine ⟨_, rfl, fun _ => hkW72, ?_⟩
    clear hb
    (try simp only [sI, sS, sZ])
    refine wpBut_r1 (i := 14) (by kernel_rfl) ?_
    refine go_call 14 41 #[tt,tt,tt,tt,tt,tt,tt,tt,tt,tt,tt,tt,tt,tt,tt,ff,tt,tt,tt,tt,tt,tt,tt,ff,ff,ff,ff,ff,ff,ff,ff,ff,ff,ff,ff,ff,ff,ff,ff,ff,ff,ff,ff] rfl rfl rfl (by rfl) rfl rfl (by rfl) ent56 (by rfl) (Hmb.out x1 y1 z1 b1 Hp1.out _) ?_
    rintro e wW73 ⟨x4, y4, z4, b4, hp4, rfl, hb⟩
    have hkW73 := held_next hkW72 hb
    refine ⟨_, rfl, fun _ => hkW73, ?_⟩
    clear hb
    (try simp only [sI, sS, sZ])
    refine wpBut_r1 (i := 15) (by kernel_rfl) ?_
    refine go_call 15 42 #[tt,tt,tt,tt,tt,tt,tt,tt,tt,tt,tt,tt,tt,tt,tt,tt,tt,tt,tt,tt,tt,tt,tt,ff,ff,ff,ff,ff,ff,ff,ff,ff,ff,ff,ff,ff,ff,ff,ff,ff,ff,ff,ff] rfl rfl rfl (by rfl) rfl rfl (by rfl) ent51 (by rfl) (Hpl.out x3 y3 z3 b3 hp3 x4 y4 z4 b4 hp4 _) ?_
    rintro e wW74 ⟨x5, y5, z5, b5, hp5, rfl, hb⟩
    have hkW74 := held_next hkW73 hb
    refine ⟨_, rfl, fun _ => hkW74, ?_⟩
    clear hb
    (try simp only [sI, sS, sZ])
    refine wpBut_r1 (i := 23) (by kernel_rfl) ?_
    refine go_call 23 50 #[tt,tt,tt,tt,tt,tt,tt,tt,tt,tt,tt,tt,tt,tt,tt,tt,tt,tt,tt,tt,tt,tt,tt,tt,ff,ff,ff,ff,ff,ff,ff,ff,ff,ff,ff,ff,ff,ff,ff,ff,ff,ff,ff] rfl rfl rfl (by rfl) rfl rfl (by rfl) ent56 (by rfl) (Hms.out x1 y1 z1 b1 Hp1.out _) ?_
    rintro e wW75 ⟨x6, y6, z6, b6, hp6, rfl, hb⟩
    have hkW75 := held_next hkW74 hb
    refine ⟨_, rfl, fun _ => hkW75, ?_⟩
    clear hb
    (try simp only [sI, sS, sZ])
    refine wpBut_r1 (i := 24) (by kernel_rfl) ?_
    refine go_call 24 51 #[tt,tt,tt,tt,tt,tt,tt,tt,tt,tt,tt,tt,tt,tt,tt,tt,tt,tt,tt,tt,tt,tt,tt,tt,tt,ff,ff,ff,ff,ff,ff,ff,ff,ff,ff,ff,ff,ff,ff,ff,ff,ff,ff] rfl rfl rfl (by rfl) rfl rfl (by rfl) ent55 (by rfl) (His.out _ x5 y5 z5 b5 hp5 x6 y6 z6 b6 hp6 _) ?_
    rintro e wW76 ⟨rfl, hb⟩
    have hkW76 := held_next hkW75 hb
    refine ⟨_, rfl, fun _ => hkW76, ?_⟩
    clear hb
    (try simp only [sI, sS, sZ])
    refine go_take2 25 52 #[tt,tt,tt,tt,tt,tt,tt,tt,tt,tt,tt,tt,tt,tt,tt,tt,tt,tt,tt,tt,tt,tt,tt,tt,tt,tt,ff,ff,ff,ff,ff,ff,ff,ff,ff,ff,ff,ff,ff,ff,ff,ff,ff] (v := ?uv12) rfl rfl rfl (by kernel_rfl) (Or.inl ⟨by rfl, ?uy12⟩) (hkW76) ?urest12
    case uy12 => (intro _ _; go_simp; try with_reducible rfl)
    (try simp only [sI, sS, sZ])
    refine go_take2 26 53 #[tt,tt,tt,tt,tt,tt,tt,tt,tt,tt,tt,tt,tt,tt,tt,tt,tt,tt,tt,tt,tt,tt,tt,tt,tt,tt,tt,ff,ff,ff,ff,ff,ff,ff,ff,ff,ff,ff,ff,ff,ff,ff,ff] (v := ?uv13) rfl rfl rfl (by kernel_rfl) (Or.inl ⟨by rfl, ?uy13⟩) (hkW76) ?urest13
    case uy13 => (intro _ _; go_simp; try with_reducible rfl)
    (try simp only [sI, sS, sZ])
    refine go_take2 27 54 #[tt,tt,tt,tt,tt,tt,tt,tt,tt,tt,tt,tt,tt,tt,tt,tt,tt,tt,tt,tt,tt,tt,tt,tt,tt,tt,tt,tt,ff,ff,ff,ff,ff,ff,ff,ff,ff,ff,ff,ff,ff,ff,ff] rfl rfl rfl (by kernel_rfl) (yieldsIf_load_row (by rfl) 53 _ rfl (B7) rfl 53 (pt x1 y1 z1 b1) (fun _ h => M7.out.below h M7.out.lt) Try.underlying53 rfl (by rw [pt_size]; kernel_rfl)) (hkW76) ?_
    (try simp only [sI, sS, sZ])
    refine go_take2 28 55 #[tt,tt,tt,tt,tt,tt,tt,tt,tt,tt,tt,tt,tt,tt,tt,tt,tt,tt,tt,tt,tt,tt,tt,tt,tt,tt,tt,tt,tt,ff,ff,ff,ff,ff,ff,ff,ff,ff,ff,ff,ff,ff,ff] rfl rfl rfl (by kernel_rfl) (yieldsIf_load_row (by rfl) 53 _ rfl (uw3.heap.size) rfl 53 (pt x2 y2 z2 b2) (fun _ h => M8.out.below h M8.out.lt) Try.underlying53 rfl (by rw [pt_size]; kernel_rfl)) (hkW76) ?_
    (try simp only [sI, sS, sZ])
    refine go_take2 30 57 #[tt,tt,tt,tt,tt,tt,tt,tt,tt,tt,tt,tt,tt,tt,tt,tt,tt,tt,tt,tt,tt,tt,tt,tt,tt,tt,tt,tt,tt,ff,tt,ff,ff,ff,ff,ff,ff,ff,ff,ff,ff,ff,ff] rfl rfl rfl (by kernel_rfl) (yieldsIf_build (by rfl) 53 _ rfl _ (by rfl) (pt 0 0 0 false) (bd53z)) (hkW76) ?_
    (try simp only [sI, sS, sZ])
    refine wpBut_r1 (i := 29) (by kernel_rfl) ?_
    refine go_call 29 56 #[tt,tt,tt,tt,tt,tt,tt,tt,tt,tt,tt,tt,tt,tt,tt,tt,tt,tt,tt,tt,tt,tt,tt,tt,tt,tt,tt,tt,tt,tt,tt,ff,ff,ff,ff,ff,ff,ff,ff,ff,ff,ff,ff] rfl rfl rfl (by rfl) rfl rfl (by rfl) ent53 (by rfl) (Hmi.out x1 y1 z1 b1 Hp1.out x2 y2 z2 b2 Hp2.out _) ?_
    rintro e wW77 ⟨x7, y7, z7, b7, hp7, rfl, hb⟩
    have hkW77 := held_next hkW76 hb
    refine ⟨_, rfl, fun _ => hkW77, ?_⟩
    clear hb
    (try simp only [sI, sS, sZ])
    refine wpBut_r1 (i := 31) (by kernel_rfl) ?_
    refine go_call 31 58 #[tt,tt,tt,tt,tt,tt,tt,tt,tt,tt,tt,tt,tt,tt,tt,tt,tt,tt,tt,tt,tt,tt,tt,tt,tt,tt,tt,tt,tt,tt,tt,tt,ff,ff,ff,ff,ff,ff,ff,ff,ff,ff,ff] rfl rfl rfl (by rfl) rfl rfl (by rfl) ent55 (by rfl) (His.out _ x7 y7 z7 b7 hp7 0 0 0 false zero_pta _) ?_
    rintro e wW78 ⟨rfl, hb⟩
    have hkW78 := held_next hkW77 hb
    refine ⟨_, rfl, fun _ => hkW78, ?_⟩
    clear hb
    (try simp only [sI, sS, sZ])
    refine go_take2 32 59 #[tt,tt,tt,tt,tt,tt,tt,tt,tt,tt,tt,tt,tt,tt,tt,tt,tt,tt,tt,tt,tt,tt,tt,tt,tt,tt,tt,tt,tt,tt,tt,tt,tt,ff,ff,ff,ff,ff,ff,ff,ff,ff,ff] (v := ?uv14) rfl rfl rfl (by kernel_rfl) (Or.inl ⟨by rfl, ?uy14⟩) (hkW78) ?urest14
    case uy14 => (intro _ _; go_simp; try with_reducible rfl)
    (try simp only [sI, sS, sZ])
    refine go_take2 33 60 #[tt,tt,tt,tt,tt,tt,tt,tt,tt,tt,tt,tt,tt,tt,tt,tt,tt,tt,tt,tt,tt,tt,tt,tt,tt,tt,tt,tt,tt,tt,tt,tt,tt,tt,ff,ff,ff,ff,ff,ff,ff,ff,ff] (v := ?uv15) rfl rfl rfl (by kernel_rfl) (Or.inl ⟨by rfl, ?uy15⟩) (hkW78) ?urest15
    case uy15 => (intro _ _; go_simp; try with_reducible rfl)
    (try simp only [sI, sS, sZ])
    refine go_take2 34 61 #[tt,tt,tt,tt,tt,tt,tt,tt,tt,tt,tt,tt,tt,tt,tt,tt,tt,tt,tt,tt,tt,tt,tt,tt,tt,tt,tt,tt,tt,tt,tt,tt,tt,tt,tt,ff,ff,ff,ff,ff,ff,ff,ff] rfl rfl rfl (by kernel_rfl) (yieldsIf_load_row (by rfl) 53 _ rfl (B7) rfl 53 (pt x1 y1 z1 b1) (fun _ h => M7.out.below h M7.out.lt) Try.underlying53 rfl (by rw [pt_size]; kernel_rfl)) (hkW78) ?_
    (try simp only [sI, sS, sZ])
    refine go_take2 35 62 #[tt,tt,tt,tt,tt,tt,tt,tt,tt,tt,tt,tt,tt,tt,tt,tt,tt,tt,tt,tt,tt,tt,tt,tt,tt,tt,tt,tt,tt,tt,tt,tt,tt,tt,tt,tt,ff,ff,ff,ff,ff,ff,ff] rfl rfl rfl (by kernel_rfl) (yieldsIf_build (by rfl) 53 _ rfl _ (by rfl) (pt 0 0 0 false) (bd53z)) (hkW78) ?_
    (try simp only [sI, sS, sZ])
    refine go_take2 38 65 #[tt,tt,tt,tt,tt,tt,tt,tt,tt,tt,tt,tt,tt,tt,tt,tt,tt,tt,tt,tt,tt,tt,tt,tt,tt,tt,tt,tt,tt,tt,tt,tt,tt,tt,tt,tt,ff,ff,tt,ff,ff,ff,ff] rfl rfl rfl (by kernel_rfl) (yieldsIf_load_row (by rfl) 53 _ rfl (B7) rfl 53 (pt x1 y1 z1 b1) (fun _ h => M7.out.below h M7.out.lt) Try.underlying53 rfl (by rw [pt_size]; kernel_rfl)) (hkW78) ?_
    (try simp only [sI, sS, sZ])
    refine wpBut_r1 (i := 36) (by kernel_rfl) ?_
    refine go_call 36 63 #[tt,tt,tt,tt,tt,tt,tt,tt,tt,tt,tt,tt,tt,tt,tt,tt,tt,tt,tt,tt,tt,tt,tt,tt,tt,tt,tt,tt,tt,tt,tt,tt,tt,tt,tt,tt,tt,ff,tt,ff,ff,ff,ff] rfl rfl rfl (by rfl) rfl rfl (by rfl) ent51 (by rfl) (Hp0.out x1 y1 z1 b1 Hp1.out _) ?_
    rintro e wW79 ⟨x8, y8, z8, b8, hp8, rfl, hb⟩
    have hkW79 := held_next hkW78 hb
    refine ⟨_, rfl, fun _ => hkW79, ?_⟩
    clear hb
    (try simp only [sI, sS, sZ])
    refine wpBut_r1 (i := 37) (by kernel_rfl) ?_
    refine go_call 37 64 #[tt,tt,tt,tt,tt,tt,tt,tt,tt,tt,tt,tt,tt,tt,tt,tt,tt,tt,tt,tt,tt,tt,tt,tt,tt,tt,tt,tt,tt,tt,tt,tt,tt,tt,tt,tt,tt,tt,tt,ff,ff,ff,ff] rfl rfl rfl (by rfl) rfl rfl (by rfl) ent49 (by rfl) (Hk.out x8 y8 z8 b8 hp8 _) ?_
    rintro e wW710 ⟨rfl, hb⟩
    have hkW710 := held_next hkW79 hb
    refine ⟨_, rfl, fun _ => hkW710, ?_⟩
    clear hb
    (try simp only [sI, sS, sZ])
    refine wpBut_r1 (i := 39) (by kernel_rfl) ?_
    refine go_call 39 66 #[tt,tt,tt,tt,tt,tt,tt,tt,tt,tt,tt,tt,tt,tt,tt,tt,tt,tt,tt,tt,tt,tt,tt,tt,tt,tt,tt,tt,tt,tt,tt,tt,tt,tt,tt,tt,tt,tt,tt,tt,ff,ff,ff] rfl rfl rfl (by rfl) rfl rfl (by rfl) ent49 (by rfl) (Hk.out x1 y1 z1 b1 Hp1.out _) ?_
    rintro e wW711 ⟨rfl, hb⟩
    have hkW711 := held_next hkW710 hb
    refine ⟨_, rfl, fun _ => hkW711, ?_⟩
    clear hb
    (try simp only [sI, sS, sZ])
    refine go_take2 40 67 #[tt,tt,tt,tt,tt,tt,tt,tt,tt,tt,tt,tt,tt,tt,tt,tt,tt,tt,tt,tt,tt,tt,tt,tt,tt,tt,tt,tt,tt,tt,tt,tt,tt,tt,tt,tt,tt,tt,tt,tt,tt,ff,ff] (v := ?uv16) rfl rfl rfl (by kernel_rfl) (Or.inl ⟨by rfl, ?uy16⟩) (hkW711) ?urest16
    case uy16 => (intro _ _; go_simp; try with_reducible rfl)
    (try simp only [sI, sS, sZ])
    refine go_take2 41 68 #[tt,tt,tt,tt,tt,tt,tt,tt,tt,tt,tt,tt,tt,tt,tt,tt,tt,tt,tt,tt,tt,tt,tt,tt,tt,tt,tt,tt,tt,tt,tt,tt,tt,tt,tt,tt,tt,tt,tt,tt,tt,tt,ff] (v := ?uv17) rfl rfl rfl (by kernel_rfl) (Or.inl ⟨by rfl, ?uy17⟩) (hkW711) ?urest17
    case uy17 => (intro _ _; go_simp; try with_reducible rfl)
    (try simp only [sI, sS, sZ])
    refine go_take2 42 6 #[tt,tt,tt,tt,tt,tt,tt,tt,tt,tt,tt,tt,tt,tt,tt,tt,tt,tt,tt,tt,tt,tt,tt,tt,tt,tt,tt,tt,tt,tt,tt,tt,tt,tt,tt,tt,tt,tt,tt,tt,tt,tt,tt] (v := ?uv18) rfl rfl rfl (by kernel_rfl) (Or.inl ⟨by rfl, ?uy18⟩) (hkW711) ?urest18
    case uy18 => (intro _ _; go_simp; try with_reducible rfl)
    (try simp only [sI, sS, sZ])
    refine wpBut_done (by kernel_rfl) (NoPanic.normal ?_)
    replace M3 := Lib.hid (M3.out.call hkW711)
    replace M7 := Lib.hid (M7.out.call hkW711)
    replace M8 := Lib.hid (M8.out.call hkW711)
    replace HB := Lib.hid (held_next HB.out hkW711)
    go_wp2_with fail
    go_ret
    exact ⟨rfl, HB.out⟩
end Go.Proofs.Ytjiagjonlcadiaa
end
section
namespace Go.Proofs.Ytjiagjonlcadiaa
open Go.ChangeShapes Go.WideShapes Go.ChangeAt Go.RowKit

set_option maxRecDepth 100000 in
set_option linter.unusedVariables false in
theorem curveAdds_lifted (os : Os) (started : os.Started) (H : Type) (enc : TypeId × Value → H) :
    ReturnsInHanded {} Try.checked os 15 .any (Rows.curveAddsSpec.pre6 enc Try.prog Try.f15 Rows.curveAddsRow.domain false) (Rows.curveAddsSpec.post enc Try.prog Try.f15 false true false false) := by
  refine returnsInHanded_of_change (C := Try.checked) own started (by kernel_rfl) Try.func15
    (ChangeSpec.witness6 (enc := enc) (C := Try.checked) false ⟨#[], #[.agg #[.int .u8 0, .int .u8 0, .int .u8 0, .int .u8 0, .int .u8 0, .int .u8 0, .int .u8 0, .int .u8 0, .int .u8 0, .int .u8 0, .int .u8 0, .int .u8 0, .int .u8 0, .int .u8 0, .int .u8 0, .int .u8 0, .int .u8 0, .int .u8 0, .int .u8 0, .int .u8 0, .int .u8 0, .int .u8 0, .int .u8 0, .int .u8 0, .int .u8 0, .int .u8 0, .int .u8 0, .int .u8 0, .int .u8 0, .int .u8 0, .int .u8 0, .int .u8 0], .int .u8 0, .int .u8 0], []⟩ 8 (by kernel_rfl) (by kernel_rfl) (by kernel_rfl) (by kernel_rfl)) ?_
  intro W base args ds gs before hval0 hW hcnd _
  have hval : ∀ (j : Nat) t v, Try.f15.params[j]? = some t → args[j]? = some v → Value.okWide Try.prog W .any base t v := hval0
  have hW' := hW
  obtain ⟨p, q, hA0, hV, rfl, hfz, hnd⟩ := hW
  have hA : DataW.TrodAll enc Try.prog W 0 (fun _ => true) true Try.f15.params.toList args.toList ds p := hA0
  rw [Try.params15] at hA hval
  obtain ⟨v0, vs0, d0, ds0, p0, q0, hargs, rfl, rfl, h0, r0⟩ := trodAll_cons hA
  obtain ⟨v1, vs1, d1, ds1, p1, q1, rfl, rfl, rfl, h1, r1⟩ := trodAll_cons r0
  obtain ⟨v2, vs2, d2, ds2, p2, q2, rfl, rfl, rfl, h2, r2⟩ := trodAll_cons r1
  obtain ⟨rfl, rfl, rfl⟩ := trodAll_nil r2
  obtain rfl : args = #[v0, v1, v2] := by cases args; simp_all
  obtain ⟨rfl, rfl⟩ := trodVars_none hV
  have k0 := h0
  have lt0 : ∀ x ∈ p0, x.block < W.heap.size := by obtain ⟨m, hm⟩ := k0; exact DataW.trod_lt m _ _ _ hm
  obtain ⟨n0, hn0, rfl⟩ := open_key (hval 0 24 v0 rfl rfl) h0
  obtain ⟨a1, rfl, rfl, rfl, w1⟩ := open_int Try.underlying5 (hval 1 5 v1 rfl rfl) h1
  obtain ⟨a2, rfl, rfl, rfl, w2⟩ := open_int Try.underlying5 (hval 2 5 v2 rfl rfl) h2
  clear hA0 hval0
  refine (law_curveAdds n0 a1 a2 hn0 (bounds_u8 w1).1 (by have := bounds_u8 w1; omega) (bounds_u8 w2).1 (by have := bounds_u8 w2; omega) W).mono fun e W' ⟨he, bel⟩ => ?_
  subst he
  exact ⟨_, rfl, _, _, _, [], _, [], hW', trodAll_mk1 (shut_bool Try.underlying4 _), (trodAll_cons_mk (Below.trod laidOut (by kernel_rfl) (of_decide_eq_true (by kernel_rfl)) k0 bel lt0) (trodAll_cons_mk (shut_int Try.underlying5 w1) (trodAll_cons_mk (shut_int Try.underlying5 w2) trodAll_mk0))), rfl, bel.frame _, fun h => by cases h⟩

theorem curveAdds_proved : Rows.CurveAddsSaid :=
  OpenClaim.holds_of_wide 15 Try.f15 rfl rfl rfl rfl rfl rfl rfl ⟨rfl, rfl, rfl, rfl, rfl⟩ rfl rfl rfl rfl rfl (by kernel_rfl) Try.func15 (by kernel_rfl)
    (of_decide_eq_true (by kernel_rfl)) (by unfold Func.isWrapper; first | (rw [if_pos (by decide +kernel)]; kernel_rfl) | (rw [if_neg (by decide +kernel)]; exact ⟨rfl, rfl⟩))
    (fun os started H enc _ => curveAdds_lifted os started H enc)
#print axioms curveAdds_proved
end Go.Proofs.Ytjiagjonlcadiaa
end
