/- Chapter 04: points are a group, without the document's answer. For all three keys the law returns true. -/
import Derived.Test.YtjiagjonlcadiaaRows
import Derived.WalkKit
import Derived.ProofKit
import Derived.OpenShut
import Derived.ShutString
import Derived.ChangeOld
import Derived.Below
import Derived.Test.YtjiagjonlcadiaaCg6
section
namespace Go.Proofs.Ytjiagjonlcadiaa
open Go.RowKit Go.Lib

theorem bd24_o : Try.prog.built 24 [(0, .int .u8 1)] = some (k32 1) := by kernel_rfl
theorem ent26 : _root_.Go.Enters Try.prog 26 := ⟨_, Try.func26, by kernel_rfl, by kernel_rfl⟩
set_option maxRecDepth 100000 in
set_option linter.unusedSimpArgs false in
set_option maxHeartbeats 16000000 in
theorem law_curveGroup (n1 n2 n3 : Nat) (hn1 : n1 < 115792089237316195423570985008687907853269984665640564039457584007913129639936) (hn2 : n2 < 115792089237316195423570985008687907853269984665640564039457584007913129639936) (hn3 : n3 < 115792089237316195423570985008687907853269984665640564039457584007913129639936) (w : World) :
    Calls Try.prog 16 #[.agg (k32 n1), .agg (k32 n2), .agg (k32 n3)] w fun e w' => e = .returned (.bool true) ∧ Below w.heap.size w w' := by
  have hal := law4_alive
  have hg := g_gen
  have hm1 := fun x y z b h w => g_many x y z n1 b gG h hn1 w
  have hm2 := fun x y z b h w => g_many x y z n2 b gG h hn2 w
  have hm3 := fun x y z b h w => g_many x y z n3 b gG h hn3 w
  have hti := fun w => times3_any n1 1 n2 hn1 (by decide) hn2 w
  have hmr := fun x y z b h w => g_many x y z ((n1 * 1 + n2) % L0) b gG h (Nat.lt_of_lt_of_le (Nat.mod_lt _ (by decide)) (by decide)) w
  have hro := rorder_any
  have hmo := fun x y z b h w => g_many x y z L0 b gG h (by decide) w
  have e1 : mulA finv fd gG ((n1 * 1 + n2) % L0) = padA finv fd (mulA finv fd gG n1) (mulA finv fd gG n2) := by
    rw [show (n1 * 1 + n2) % L0 = (n1 * 1 + n2) % LL from rfl, mul_rest, Nat.mul_one, fld.mul_add gG gG_on]
  have e2 : mulA finv fd gG L0 = (0, 1) := mul_LL
  have o1 := fld.on_mul gG gG_on n1
  have o2 := fld.on_mul gG gG_on n2
  have o3 := fld.on_mul gG gG_on n3
  simp only [e1] at hmr
  simp only [e2] at hmo
  obtain ⟨Pa, hPa⟩ : ∃ P, P = mulA finv fd gG n1 := ⟨_, rfl⟩
  obtain ⟨Pb, hPb⟩ : ∃ P, P = mulA finv fd gG n2 := ⟨_, rfl⟩
  obtain ⟨Pc, hPc⟩ : ∃ P, P = mulA finv fd gG n3 := ⟨_, rfl⟩
  obtain ⟨R, hR⟩ : ∃ R, R = (n1 * 1 + n2) % L0 := ⟨_, rfl⟩
  simp only [← hPa] at hm1 hmr o1
  simp only [← hPb] at hm2 hmr o2
  simp only [← hPc] at hm3 o3
  simp only [← hR] at hti hmr
  clear e1 e2 hPa hPb hPc hR hn1 hn2 hn3
  have hk := fun x y z b h w => g_key x y z b Pa h w
  have hof := fun w => g_ofk Pa o1 w
  obtain ⟨K, hK⟩ : ∃ k, k = keyP Pa := ⟨_, rfl⟩
  simp only [← hK] at hk hof
  have his : ∀ (Q : Fin PP × Fin PP) x1 y1 z1 b1, PtA x1 y1 z1 b1 Q → ∀ x2 y2 z2 b2, PtA x2 y2 z2 b2 Q → ∀ w, Calls Try.prog 55 #[.agg (pt x1 y1 z1 b1), .agg (pt x2 y2 z2 b2)] w fun e w' => e = .returned (.bool true) ∧ Below w.heap.size w w' := by
    intro Q x1 y1 z1 b1 h1 x2 y2 z2 b2 h2 w
    have := g_is x1 y1 z1 b1 Q h1 x2 y2 z2 b2 Q h2 w
    rwa [decide_eq_true rfl] at this
  obtain ⟨S, hS⟩ : ∃ S, S = padA finv fd Pa Pb := ⟨_, rfl⟩
  obtain ⟨U, hU⟩ : ∃ S, S = padA finv fd Pb Pc := ⟨_, rfl⟩
  obtain ⟨T, hT⟩ : ∃ T, T = padA finv fd S Pc := ⟨_, rfl⟩
  have c1 : padA finv fd Pb Pa = S := by rw [hS]; exact add_comm' ..
  have c2 : padA finv fd Pa U = T := by rw [hT, hS, hU, fld.add_assoc Pa Pb Pc o1 o2 o3]
  have c3 : padA finv fd S (negA Pb) = Pa := by
    rw [hS, fld.add_assoc Pa Pb (negA Pb) o1 o2 (on_neg Pb o2), show padA finv fd Pb (negA Pb) = (0, 1) from fld.add_neg Pb o2, fld.add_zero Pa o1]
  have c4 : padA finv fd Pa (0, 1) = Pa := fld.add_zero Pa o1
  simp only [← hS] at hmr
  have hab : ∀ x1 y1 z1 b1, PtA x1 y1 z1 b1 Pa → ∀ x2 y2 z2 b2, PtA x2 y2 z2 b2 Pb → ∀ w, Calls Try.prog 51 #[.agg (pt x1 y1 z1 b1), .agg (pt x2 y2 z2 b2)] w (PtG S w) := fun x1 y1 z1 b1 h1 x2 y2 z2 b2 h2 w => hS ▸ (g_plus x1 y1 z1 b1 _ h1 x2 y2 z2 b2 _ h2 w)
  have hba : ∀ x1 y1 z1 b1, PtA x1 y1 z1 b1 Pb → ∀ x2 y2 z2 b2, PtA x2 y2 z2 b2 Pa → ∀ w, Calls Try.prog 51 #[.agg (pt x1 y1 z1 b1), .agg (pt x2 y2 z2 b2)] w (PtG S w) := fun x1 y1 z1 b1 h1 x2 y2 z2 b2 h2 w => c1 ▸ (g_plus x1 y1 z1 b1 _ h1 x2 y2 z2 b2 _ h2 w)
  have hsc : ∀ x1 y1 z1 b1, PtA x1 y1 z1 b1 S → ∀ x2 y2 z2 b2, PtA x2 y2 z2 b2 Pc → ∀ w, Calls Try.prog 51 #[.agg (pt x1 y1 z1 b1), .agg (pt x2 y2 z2 b2)] w (PtG T w) := fun x1 y1 z1 b1 h1 x2 y2 z2 b2 h2 w => hT ▸ (g_plus x1 y1 z1 b1 _ h1 x2 y2 z2 b2 _ h2 w)
  have hbc : ∀ x1 y1 z1 b1, PtA x1 y1 z1 b1 Pb → ∀ x2 y2 z2 b2, PtA x2 y2 z2 b2 Pc → ∀ w, Calls Try.prog 51 #[.agg (pt x1 y1 z1 b1), .agg (pt x2 y2 z2 b2)] w (PtG U w) := fun x1 y1 z1 b1 h1 x2 y2 z2 b2 h2 w => hU ▸ (g_plus x1 y1 z1 b1 _ h1 x2 y2 z2 b2 _ h2 w)
  have hau : ∀ x1 y1 z1 b1, PtA x1 y1 z1 b1 Pa → ∀ x2 y2 z2 b2, PtA x2 y2 z2 b2 U → ∀ w, Calls Try.prog 51 #[.agg (pt x1 y1 z1 b1), .agg (pt x2 y2 z2 b2)] w (PtG T w) := by
    intro x1 y1 z1 b1 h1 x2 y2 z2 b2 h2 w
    have := g_plus x1 y1 z1 b1 _ h1 x2 y2 z2 b2 _ h2 w
    rwa [c2] at this
  have hmi : ∀ x1 y1 z1 b1, PtA x1 y1 z1 b1 S → ∀ x2 y2 z2 b2, PtA x2 y2 z2 b2 Pb → ∀ w, Calls Try.prog 53 #[.agg (pt x1 y1 z1 b1), .agg (pt x2 y2 z2 b2)] w (PtG Pa w) := by
    intro x1 y1 z1 b1 h1 x2 y2 z2 b2 h2 w
    have := g_minus x1 y1 z1 b1 _ h1 x2 y2 z2 b2 _ h2 w
    rwa [c3] at this
  have hp0 : ∀ x1 y1 z1 b1, PtA x1 y1 z1 b1 Pa → ∀ w, Calls Try.prog 51 #[.agg (pt x1 y1 z1 b1), .agg (pt 0 0 0 false)] w (PtG Pa w) := by
    intro x1 y1 z1 b1 h1 w
    have := g_plus x1 y1 z1 b1 _ h1 0 0 0 false (0, 1) zero_pta w
    rwa [c4] at this
  clear c1 c2 c3 c4 hS hU hT hK o1 o2 o3
  have Hal := Lib.hid hal; clear hal
  have Hg := Lib.hid hg; clear hg
  have Hm1 := Lib.hid hm1; clear hm1
  have Hm2 := Lib.hid hm2; clear hm2
  have Hm3 := Lib.hid hm3; clear hm3
  have Hti := Lib.hid hti; clear hti
  have Hmr := Lib.hid hmr; clear hmr
  have Hro := Lib.hid hro; clear hro
  have Hmo := Lib.hid hmo; clear hmo
  have Hk := Lib.hid hk; clear hk
  have Hof := Lib.hid hof; clear hof
  have His := Lib.hid his; clear his
  have Hab := Lib.hid hab; clear hab
  have Hba := Lib.hid hba; clear hba
  have Hsc := Lib.hid hsc; clear hsc
  have Hbc := Lib.hid hbc; clear hbc
  have Hau := Lib.hid hau; clear hau
  have Hmi := Lib.hid hmi; clear hmi
  have Hp0 := Lib.hid hp0; clear hp0
  go_enter Try.func16, Try.ntmps16
  repeat ((fail_if_success (with_reducible (show wpList _ _ _ _ _ _))); go_step)
  iterate 4 (refine wpList_step (fun K hK => ?_); go_simp; (try go_bits); refine hK _ _ ?_; clear hK K)
  refine wpList_nil ?_
  have M3 := Lib.hid (((Has.new w  (k32 n1) 24).alloc (.cells (k32 n2) 24)).alloc (.cells (k32 n3) 24))
  have M4 := Lib.hid ((Has.new1 w (.cells (k32 n1) 24) (k32 n2) 24).alloc (.cells (k32 n3) 24))
  have M5 := Lib.hid (Has.new2 w (.cells (k32 n1) 24) (.cells (k32 n2) 24) (k32 n3) 24)
  have HB := Lib.hid (below_3 w (.cells (k32 n1) 24) (.cells (k32 n2) 24) (.cells (k32 n3) 24))
  obtain ⟨yw1, hwyw1⟩ : ∃ ww, ww = (((w.alloc (.cells (k32 n1) 24)).alloc (.cells (k32 n2) 24)).alloc (.cells (k32 n3) 24)) := ⟨_, rfl⟩
  rw [← hwyw1] at M3 M4 M5 HB ⊢
  clear hwyw1
  repeat ((fail_if_success (with_reducible (show wpList _ _ _ _ _ _))); go_step)
  refine wpList_call (by rfl) rfl rfl (by rfl) ent46 (by rfl) (Hal.out _) 13 rfl ?_
  rintro e uw1 ⟨rfl, hb⟩
  replace M3 := Lib.hid (M3.out.call hb)
  replace M4 := Lib.hid (M4.out.call hb)
  replace M5 := Lib.hid (M5.out.call hb)
  replace HB := Lib.hid (held_next HB.out hb)
  refine ⟨_, rfl, ?_⟩
  clear hb
  (try simp only [Act.put, sI, sS, sZ])
  (refine wpList_step (fun K hK => ?_); go_simp; (try go_bits); refine hK _ _ ?_; clear hK K)
  refine wpList_nil ?_
  repeat ((fail_if_success (with_reducible (show wpList _ _ _ _ _ _))); go_step)
  refine wpList_call (by rfl) rfl rfl (by rfl) ent58 (by rfl) (Hg.out _) 15 rfl ?_
  rintro e uw2 ⟨x0, y0, z0, b0, hq0, rfl, hb⟩
  replace M3 := Lib.hid (M3.out.call hb)
  replace M4 := Lib.hid (M4.out.call hb)
  replace M5 := Lib.hid (M5.out.call hb)
  replace HB := Lib.hid (held_next HB.out hb)
  refine ⟨_, rfl, ?_⟩
  clear hb
  (try simp only [Act.put, sI, sS, sZ])
  refine wpList_alloc (by rfl) 53 rfl _ al53 7 rfl ?_
  intro yw2 hw2
  have hlt3 := M3.out.lt
  have hlt4 := M4.out.lt
  have hlt5 := M5.out.lt
  have hsz := HB.out.size
  replace M3 := Lib.hid (M3.out.alloc (.cells z53 53))
  replace M4 := Lib.hid (M4.out.alloc (.cells z53 53))
  replace M5 := Lib.hid (M5.out.alloc (.cells z53 53))
  have M7 := Lib.hid (HasN.new uw2 z53 53 13 (by kernel_rfl))
  replace HB := Lib.hid (HB.out.alloc hsz (.cells z53 53))
  rw [← hw2] at M3 M4 M5 M7 HB; clear hw2
  (try simp only [Act.put, sI, sS, sZ])
  first | (obtain ⟨Zq, hZ, mZ⟩ := M7.out) | (obtain ⟨Zq, hZ, mZ⟩ := M7.out.toN (pt_size ..))
  refine wpList_store2 (by rfl) 53 _ _ rfl rfl (uw2.heap.size) (pt x0 y0 z0 b0) rfl rfl 53 Zq mZ (by rw [pt_size]; kernel_rfl) (hZ.trans (pt_size ..).symm) (pt_one _ _ _ _) ?_
  intro yw6 hw2
  replace M3 := Lib.hid (M3.out.setRow_other (uw2.heap.size) (pt x0 y0 z0 b0) (by omega))
  replace M4 := Lib.hid (M4.out.setRow_other (uw2.heap.size) (pt x0 y0 z0 b0) (by omega))
  replace M5 := Lib.hid (M5.out.setRow_other (uw2.heap.size) (pt x0 y0 z0 b0) (by omega))
  replace M7 := Lib.hid (mZ.setRow (pt x0 y0 z0 b0))
  replace HB := Lib.hid (below_setRow HB.out (uw2.heap.size) (pt x0 y0 z0 b0) (by omega))
  rw [← hw2] at M3 M4 M5 M7 HB; clear mZ hZ hw2
  refine wpList_nil ?_
  have Hq0 := Lib.hid hq0; clear hq0
  obtain ⟨B7, hB7⟩ : ∃ B, B = uw2.heap.size := ⟨_, rfl⟩
  rw [← hB7] at M7 ⊢
  clear hB7
  repeat ((fail_if_success (with_reducible (show wpList _ _ _ _ _ _))); go_step)
  refine wp_region_meet (α := Nat × Nat × Nat × Nat × Nat × Nat × Bool × Nat × Nat × Nat × Bool × Nat × Nat × Nat × Bool) (fun W0 x w' => PtA x.2.2.2.1 x.2.2.2.2.1 x.2.2.2.2.2.1 x.2.2.2.2.2.2.1 Pa ∧ PtA x.2.2.2.2.2.2.2.1 x.2.2.2.2.2.2.2.2.1 x.2.2.2.2.2.2.2.2.2.1 x.2.2.2.2.2.2.2.2.2.2.1 Pb ∧ PtA x.2.2.2.2.2.2.2.2.2.2.2.1 x.2.2.2.2.2.2.2.2.2.2.2.2.1 x.2.2.2.2.2.2.2.2.2.2.2.2.2.1 x.2.2.2.2.2.2.2.2.2.2.2.2.2.2 Pc ∧ W0.heap.size ≤ x.1 ∧ Has w' x.1 (pt x.2.2.2.1 x.2.2.2.2.1 x.2.2.2.2.2.1 x.2.2.2.2.2.2.1) 53 ∧ W0.heap.size ≤ x.2.1 ∧ Has w' x.2.1 (pt x.2.2.2.2.2.2.2.1 x.2.2.2.2.2.2.2.2.1 x.2.2.2.2.2.2.2.2.2.1 x.2.2.2.2.2.2.2.2.2.2.1) 53 ∧ W0.heap.size ≤ x.2.2.1 ∧ Has w' x.2.2.1 (pt x.2.2.2.2.2.2.2.2.2.2.2.1 x.2.2.2.2.2.2.2.2.2.2.2.2.1 x.2.2.2.2.2.2.2.2.2.2.2.2.2.1 x.2.2.2.2.2.2.2.2.2.2.2.2.2.2) 53 ∧ Below W0.heap.size W0 w') (fun ac x => ((((((((((((ac.put (some 16) (.agg (pt x0 y0 z0 b0))).put (some 17) (.agg (k32 n1))).put (some 18) (.agg (pt x.2.2.2.1 x.2.2.2.2.1 x.2.2.2.2.2.1 x.2.2.2.2.2.2.1))).put (some 19) (.agg (pt x0 y0 z0 b0))).put (some 20) (.agg (k32 n2))).put (some 21) (.agg (pt x.2.2.2.2.2.2.2.1 x.2.2.2.2.2.2.2.2.1 x.2.2.2.2.2.2.2.2.2.1 x.2.2.2.2.2.2.2.2.2.2.1))).put (some 22) (.agg (pt x0 y0 z0 b0))).put (some 23) (.agg (k32 n3))).put (some 24) (.agg (pt x.2.2.2.2.2.2.2.2.2.2.2.1 x.2.2.2.2.2.2.2.2.2.2.2.2.1 x.2.2.2.2.2.2.2.2.2.2.2.2.2.1 x.2.2.2.2.2.2.2.2.2.2.2.2.2.2))).put (some 8) (.pointer (some ⟨x.1, 0, none⟩))).put (some 9) (.pointer (some ⟨x.2.1, 0, none⟩))).put (some 10) (.pointer (some ⟨x.2.2.1, 0, none⟩)))) ?_ ?_
  · intro Q' hQ'
    refine wp_region_noPanic ?_
    refine wp_region_go 99 15 #[ff,ff,ff,ff,ff,ff,ff,ff,ff,ff,ff,ff,ff,ff,ff] (by kernel_rfl) rfl rfl ?_
    intro W7 hW7
    rw [← hW7] at hQ'
    simp only [Act.put, List.setIfInBounds_toArray, List.set_cons_succ, List.set_cons_zero] at hQ'
    have HQ := Lib.hid hQ'; clear hQ'
    rw [← hW7] at M3 M4 M5 M7 HB
    clear hW7
    refine go_take2 0 16 #[tt,ff,ff,ff,ff,ff,ff,ff,ff,ff,ff,ff,ff,ff,ff] rfl rfl rfl (by kernel_rfl) (yieldsIf_load_row (by rfl) 53 _ rfl (B7) rfl 53 (pt x0 y0 z0 b0) (fun _ h => M7.out.below h M7.out.lt) Try.underlying53 rfl (by rw [pt_size]; kernel_rfl)) ((below_dr W7)) ?_
    (try simp only [sI, sS, sZ])
    refine go_take2 1 17 #[tt,tt,ff,ff,ff,ff,ff,ff,ff,ff,ff,ff,ff,ff,ff] rfl rfl rfl (by kernel_rfl) (yieldsIf_load_row (by rfl) 24 _ rfl (w.heap.size) rfl 24 (k32 n1) (fun _ h => M3.out.below h M3.out.lt) Try.underlying24 rfl (by rw [k32_size]; kernel_rfl)) ((below_dr W7)) ?_
    (try simp only [sI, sS, sZ])
    refine go_take2 3 19 #[tt,tt,ff,tt,ff,ff,ff,ff,ff,ff,ff,ff,ff,ff,ff] rfl rfl rfl (by kernel_rfl) (yieldsIf_load_row (by rfl) 53 _ rfl (B7) rfl 53 (pt x0 y0 z0 b0) (fun _ h => M7.out.below h M7.out.lt) Try.underlying53 rfl (by rw [pt_size]; kernel_rfl)) ((below_dr W7)) ?_
    (try simp only [sI, sS, sZ])
    refine go_take2 4 20 #[tt,tt,ff,tt,tt,ff,ff,ff,ff,ff,ff,ff,ff,ff,ff] rfl rfl rfl (by kernel_rfl) (yieldsIf_load_row (by rfl) 24 _ rfl (w.heap.size + 1) rfl 24 (k32 n2) (fun _ h => M4.out.below h M4.out.lt) Try.underlying24 rfl (by rw [k32_size]; kernel_rfl)) ((below_dr W7)) ?_
    (try simp only [sI, sS, sZ])
    refine go_take2 6 22 #[tt,tt,ff,tt,tt,ff,tt,ff,ff,ff,ff,ff,ff,ff,ff] rfl rfl rfl (by kernel_rfl) (yieldsIf_load_row (by rfl) 53 _ rfl (B7) rfl 53 (pt x0 y0 z0 b0) (fun _ h => M7.out.below h M7.out.lt) Try.underlying53 rfl (by rw [pt_size]; kernel_rfl)) ((below_dr W7)) ?_
    (try simp only [sI, sS, sZ])
    refine go_take2 7 23 #[tt,tt,ff,tt,tt,ff,tt,tt,ff,ff,ff,ff,ff,ff,ff] rfl rfl rfl (by kernel_rfl) (yieldsIf_load_row (by rfl) 24 _ rfl (w.heap.size + 1 + 1) rfl 24 (k32 n3) (fun _ h => M5.out.below h M5.out.lt) Try.underlying24 rfl (by rw [k32_size]; kernel_rfl)) ((below_dr W7)) ?_
    (try simp only [sI, sS, sZ])
    refine but_name (fun T hT => ?_)
    have St2_5_8_9_10_11_12_13 : ∀ (B9 : Nat) (B10 : Nat) (B11 : Nat) (x1 : Nat) (y1 : Nat) (z1 : Nat) (b1 : Bool) (x2 : Nat) (y2 : Nat) (z2 : Nat) (b2 : Bool) (x3 : Nat) (y3 : Nat) (z3 : Nat) (b3 : Bool) (w' : World), Below W7.heap.size W7 w' → PtA x1 y1 z1 b1 Pa → PtA x2 y2 z2 b2 Pb → PtA x3 y3 z3 b3 Pc → W7.heap.size ≤ B9 → Has w' B9 (pt x1 y1 z1 b1) 53 → W7.heap.size ≤ B10 → Has w' B10 (pt x2 y2 z2 b2) 53 → W7.heap.size ≤ B11 → HasN w' B11 13 53 → B9 ≠ B10 → B9 ≠ B11 → B10 ≠ B11 → T 1 #[tt,tt,tt,tt,tt,tt,tt,tt,tt,tt,tt,tt,tt,tt,ff] { tmps := #[.agg (k32 n1), .agg (k32 n2), .agg (k32 n3), .pointer (some ⟨w.heap.size, 0, none⟩), .pointer (some ⟨w.heap.size + 1, 0, none⟩), .pointer (some ⟨w.heap.size + 1 + 1, 0, none⟩), .bool false, .pointer (some ⟨B7, 0, none⟩), .pointer (some ⟨B9, 0, none⟩), .pointer (some ⟨B10, 0, none⟩), .pointer (some ⟨B11, 0, none⟩), undef, undef, .bool true, .bool false, .agg (pt x0 y0 z0 b0), .agg (pt x0 y0 z0 b0), .agg (k32 n1), .agg (pt x1 y1 z1 b1), .agg (pt x0 y0 z0 b0), .agg (k32 n2), .agg (pt x2 y2 z2 b2), .agg (pt x0 y0 z0 b0), .agg (k32 n3), .agg (pt x3 y3 z3 b3), undef, undef, undef, undef, undef, undef, undef, undef, undef, undef, undef, undef, undef, undef, undef, undef, undef, undef, undef, undef, undef, undef, undef, undef, undef, undef, undef, undef, undef, undef, undef, undef, undef, undef, undef, undef, undef, undef, undef, undef, undef, undef, undef, undef, undef, undef, undef, undef, undef, undef, undef, undef, undef, undef, undef, undef, undef, undef, undef, undef, undef, undef, undef, undef, undef, undef, undef, undef, undef, undef, undef, undef, undef], defers := [] } w' := by
      intro B9 B10 B11 x1 y1 z1 b1 x2 y2 z2 b2 x3 y3 z3 b3 w' hbw hp1 hp2 hp3 hB9 mA9 hB10 mA10 hB11 mA11 hne9_10 hne9_11 hne10_11
      refine (hT _ _ _ _).2 ?_
      refine wpBut_r1 (i := 14) (by kernel_rfl) ?_
      obtain ⟨Zq, hZ, mZ⟩ := mA11
      refine go_store2 14 #[tt,tt,tt,tt,tt,tt,tt,tt,tt,tt,tt,tt,tt,tt,tt] rfl rfl rfl (by rfl) 53 _ _ rfl _ _ rfl rfl 53 Zq mZ (by rw [pt_size]; kernel_rfl) (hZ.trans (pt_size ..).symm) (pt_one _ _ _ _) ?_
      intro w2 hw2
      have hk := below_setRow (hbw) _ (pt x3 y3 z3 b3) hB11
      have mA9 := mA9.setRow_other B11 (pt x3 y3 z3 b3) (by omega)
      have mA10 := mA10.setRow_other B11 (pt x3 y3 z3 b3) (by omega)
      have mA11 := mZ.setRow (pt x3 y3 z3 b3)
      rw [← hw2] at hk mA9 mA10 mA11
      clear hw2 mZ hZ
      refine ⟨fun _ => hk, ?_⟩
      (try simp only [sI, sS, sZ])
      exact wpBut_done (by kernel_rfl) (NoPanic.normal (HQ.out (_, _, _, x1, y1, z1, b1, x2, y2, z2, b2, x3, y3, z3, b3) _ ⟨hp1, hp2, hp3, hB9, mA9, hB10, mA10, hB11, mA11, hk⟩))
    have St2_5_8_9_10_11_12 : ∀ (B9 : Nat) (B10 : Nat) (B11 : Nat) (x1 : Nat) (y1 : Nat) (z1 : Nat) (b1 : Bool) (x2 : Nat) (y2 : Nat) (z2 : Nat) (b2 : Bool) (x3 : Nat) (y3 : Nat) (z3 : Nat) (b3 : Bool) (w' : World), Below W7.heap.size W7 w' → PtA x1 y1 z1 b1 Pa → PtA x2 y2 z2 b2 Pb → PtA x3 y3 z3 b3 Pc → W7.heap.size ≤ B9 → Has w' B9 (pt x1 y1 z1 b1) 53 → W7.heap.size ≤ B10 → HasN w' B10 13 53 → W7.heap.size ≤ B11 → HasN w' B11 13 53 → B9 ≠ B10 → B9 ≠ B11 → B10 ≠ B11 → T 2 #[tt,tt,tt,tt,tt,tt,tt,tt,tt,tt,tt,tt,tt,ff,ff] { tmps := #[.agg (k32 n1), .agg (k32 n2), .agg (k32 n3), .pointer (some ⟨w.heap.size, 0, none⟩), .pointer (some ⟨w.heap.size + 1, 0, none⟩), .pointer (some ⟨w.heap.size + 1 + 1, 0, none⟩), .bool false, .pointer (some ⟨B7, 0, none⟩), .pointer (some ⟨B9, 0, none⟩), .pointer (some ⟨B10, 0, none⟩), .pointer (some ⟨B11, 0, none⟩), undef, undef, .bool true, .bool false, .agg (pt x0 y0 z0 b0), .agg (pt x0 y0 z0 b0), .agg (k32 n1), .agg (pt x1 y1 z1 b1), .agg (pt x0 y0 z0 b0), .agg (k32 n2), .agg (pt x2 y2 z2 b2), .agg (pt x0 y0 z0 b0), .agg (k32 n3), .agg (pt x3 y3 z3 b3), undef, undef, undef, undef, undef, undef, undef, undef, undef, undef, undef, undef, undef, undef, undef, undef, undef, undef, undef, undef, undef, undef, undef, undef, undef, undef, undef, undef, undef, undef, undef, undef, undef, undef, undef, undef, undef, undef, undef, undef, undef, undef, undef, undef, undef, undef, undef, undef, undef, undef, undef, undef, undef, undef, undef, undef, undef, undef, undef, undef, undef, undef, undef, undef, undef, undef, undef, undef, undef, undef, undef, undef, undef], defers := [] } w' := by
      intro B9 B10 B11 x1 y1 z1 b1 x2 y2 z2 b2 x3 y3 z3 b3 w' hbw hp1 hp2 hp3 hB9 mA9 hB10 mA10 hB11 mA11 hne9_10 hne9_11 hne10_11
      refine (hT _ _ _ _).2 ?_
      refine wpBut_r1 (i := 13) (by kernel_rfl) ?_
      obtain ⟨Zq, hZ, mZ⟩ := mA10
      refine go_store2 13 #[tt,tt,tt,tt,tt,tt,tt,tt,tt,tt,tt,tt,tt,tt,ff] rfl rfl rfl (by rfl) 53 _ _ rfl _ _ rfl rfl 53 Zq mZ (by rw [pt_size]; kernel_rfl) (hZ.trans (pt_size ..).symm) (pt_one _ _ _ _) ?_
      intro w2 hw2
      have hk := below_setRow (hbw) _ (pt x2 y2 z2 b2) hB10
      have mA9 := mA9.setRow_other B10 (pt x2 y2 z2 b2) (by omega)
      have mA11 := mA11.setRow_other B10 (pt x2 y2 z2 b2) (by omega)
      have mA10 := mZ.setRow (pt x2 y2 z2 b2)
      rw [← hw2] at hk mA9 mA10 mA11
      clear hw2 mZ hZ
      refine ⟨fun _ => hk, ?_⟩
      (try simp only [sI, sS, sZ])
      exact (hT _ _ _ _).1 (St2_5_8_9_10_11_12_13 (B9) (B10) (B11) (x1) (y1) (z1) (b1) (x2) (y2) (z2) (b2) (x3) (y3) (z3) (b3) w2 hk hp1 hp2 hp3 hB9 mA9 hB10 mA10 hB11 mA11 hne9_10 hne9_11 hne10_11)
    have St2_5_8_9_10_11 : ∀ (B9 : Nat) (B10 : Nat) (B11 : Nat) (x1 : Nat) (y1 : Nat) (z1 : Nat) (b1 : Bool) (x2 : Nat) (y2 : Nat) (z2 : Nat) (b2 : Bool) (x3 : Nat) (y3 : Nat) (z3 : Nat) (b3 : Bool) (w' : World), Below W7.heap.size W7 w' → PtA x1 y1 z1 b1 Pa → PtA x2 y2 z2 b2 Pb → PtA x3 y3 z3 b3 Pc → W7.heap.size ≤ B9 → HasN w' B9 13 53 → W7.heap.size ≤ B10 → HasN w' B10 13 53 → W7.heap.size ≤ B11 → HasN w' B11 13 53 → B9 ≠ B10 → B9 ≠ B11 → B10 ≠ B11 → T 3 #[tt,tt,tt,tt,tt,tt,tt,tt,tt,tt,tt,tt,ff,ff,ff] { tmps := #[.agg (k32 n1), .agg (k32 n2), .agg (k32 n3), .pointer (some ⟨w.heap.size, 0, none⟩), .pointer (some ⟨w.heap.size + 1, 0, none⟩), .pointer (some ⟨w.heap.size + 1 + 1, 0, none⟩), .bool false, .pointer (some ⟨B7, 0, none⟩), .pointer (some ⟨B9, 0, none⟩), .pointer (some ⟨B10, 0, none⟩), .pointer (some ⟨B11, 0, none⟩), undef, undef, .bool true, .bool false, .agg (pt x0 y0 z0 b0), .agg (pt x0 y0 z0 b0), .agg (k32 n1), .agg (pt x1 y1 z1 b1), .agg (pt x0 y0 z0 b0), .agg (k32 n2), .agg (pt x2 y2 z2 b2), .agg (pt x0 y0 z0 b0), .agg (k32 n3), .agg (pt x3 y3 z3 b3), undef, undef, undef, undef, undef, undef, undef, undef, undef, undef, undef, undef, undef, undef, undef, undef, undef, undef, undef, undef, undef, undef, undef, undef, undef, undef, undef, undef, undef, undef, undef, undef, undef, undef, undef, undef, undef, undef, undef, undef, undef, undef, undef, undef, undef, undef, undef, undef, undef, undef, undef, undef, undef, undef, undef, undef, undef, undef, undef, undef, undef, undef, undef, undef, undef, undef, undef, undef, undef, undef, undef, undef, undef], defers := [] } w' := by
      intro B9 B10 B11 x1 y1 z1 b1 x2 y2 z2 b2 x3 y3 z3 b3 w' hbw hp1 hp2 hp3 hB9 mA9 hB10 mA10 hB11 mA11 hne9_10 hne9_11 hne10_11
      refine (hT _ _ _ _).2 ?_
      refine wpBut_r1 (i := 12) (by kernel_rfl) ?_
      obtain ⟨Zq, hZ, mZ⟩ := mA9
      refine go_store2 12 #[tt,tt,tt,tt,tt,tt,tt,tt,tt,tt,tt,tt,tt,ff,ff] rfl rfl rfl (by rfl) 53 _ _ rfl _ _ rfl rfl 53 Zq mZ (by rw [pt_size]; kernel_rfl) (hZ.trans (pt_size ..).symm) (pt_one _ _ _ _) ?_
      intro w2 hw2
      have hk := below_setRow (hbw) _ (pt x1 y1 z1 b1) hB9
      have mA10 := mA10.setRow_other B9 (pt x1 y1 z1 b1) (by omega)
      have mA11 := mA11.setRow_other B9 (pt x1 y1 z1 b1) (by omega)
      have mA9 := mZ.setRow (pt x1 y1 z1 b1)
      rw [← hw2] at hk mA9 mA10 mA11
      clear hw2 mZ hZ
      refine ⟨fun _ => hk, ?_⟩
      (try simp only [sI, sS, sZ])
      exact (hT _ _ _ _).1 (St2_5_8_9_10_11_12 (B9) (B10) (B11) (x1) (y1) (z1) (b1) (x2) (y2) (z2) (b2) (x3) (y3) (z3) (b3) w2 hk hp1 hp2 hp3 hB9 mA9 hB10 mA10 hB11 mA11 hne9_10 hne9_11 hne10_11)
    have St2_5_9_10_11 : ∀ (B9 : Nat) (B10 : Nat) (B11 : Nat) (x1 : Nat) (y1 : Nat) (z1 : Nat) (b1 : Bool) (x2 : Nat) (y2 : Nat) (z2 : Nat) (b2 : Bool) (w' : World), Below W7.heap.size W7 w' → PtA x1 y1 z1 b1 Pa → PtA x2 y2 z2 b2 Pb → W7.heap.size ≤ B9 → HasN w' B9 13 53 → W7.heap.size ≤ B10 → HasN w' B10 13 53 → W7.heap.size ≤ B11 → HasN w' B11 13 53 → B9 ≠ B10 → B9 ≠ B11 → B10 ≠ B11 → T 4 #[tt,tt,tt,tt,tt,tt,tt,tt,ff,tt,tt,tt,ff,ff,ff] { tmps := #[.agg (k32 n1), .agg (k32 n2), .agg (k32 n3), .pointer (some ⟨w.heap.size, 0, none⟩), .pointer (some ⟨w.heap.size + 1, 0, none⟩), .pointer (some ⟨w.heap.size + 1 + 1, 0, none⟩), .bool false, .pointer (some ⟨B7, 0, none⟩), .pointer (some ⟨B9, 0, none⟩), .pointer (some ⟨B10, 0, none⟩), .pointer (some ⟨B11, 0, none⟩), undef, undef, .bool true, .bool false, .agg (pt x0 y0 z0 b0), .agg (pt x0 y0 z0 b0), .agg (k32 n1), .agg (pt x1 y1 z1 b1), .agg (pt x0 y0 z0 b0), .agg (k32 n2), .agg (pt x2 y2 z2 b2), .agg (pt x0 y0 z0 b0), .agg (k32 n3), undef, undef, undef, undef, undef, undef, undef, undef, undef, undef, undef, undef, undef, undef, undef, undef, undef, undef, undef, undef, undef, undef, undef, undef, undef, undef, undef, undef, undef, undef, undef, undef, undef, undef, undef, undef, undef, undef, undef, undef, undef, undef, undef, undef, undef, undef, undef, undef, undef, undef, undef, undef, undef, undef, undef, undef, undef, undef, undef, undef, undef, undef, undef, undef, undef, undef, undef, undef, undef, undef, undef, undef, undef, undef], defers := [] } w' := by
      intro B9 B10 B11 x1 y1 z1 b1 x2 y2 z2 b2 w' hbw hp1 hp2 hB9 mA9 hB10 mA10 hB11 mA11 hne9_10 hne9_11 hne10_11
      refine (hT _ _ _ _).2 ?_
      refine wpBut_r1 (i := 8) (by kernel_rfl) ?_
      refine go_call 8 24 #[tt,tt,tt,tt,tt,tt,tt,tt,tt,tt,tt,tt,ff,ff,ff] rfl rfl rfl (by rfl) rfl rfl (by rfl) ent56 (by rfl) (Hm3.out x0 y0 z0 b0 Hq0.out _) ?_
      rintro e w2 ⟨x3, y3, z3, b3, hp3, rfl, hb⟩
      have hk := held_next hbw hb
      have mA9 := mA9.call hb
      have mA10 := mA10.call hb
      have mA11 := mA11.call hb
      refine ⟨_, rfl, fun _ => hk, ?_⟩
      (try simp only [sI, sS, sZ])
      exact (hT _ _ _ _).1 (St2_5_8_9_10_11 (B9) (B10) (B11) (x1) (y1) (z1) (b1) (x2) (y2) (z2) (b2) (x3) (y3) (z3) (b3) w2 hk hp1 hp2 hp3 hB9 mA9 hB10 mA10 hB11 mA11 hne9_10 hne9_11 hne10_11)
    have St2_5_8_10_11 : ∀ (B10 : Nat) (B11 : Nat) (x1 : Nat) (y1 : Nat) (z1 : Nat) (b1 : Bool) (x2 : Nat) (y2 : Nat) (z2 : Nat) (b2 : Bool) (x3 : Nat) (y3 : Nat) (z3 : Nat) (b3 : Bool) (w' : World), Below W7.heap.size W7 w' → PtA x1 y1 z1 b1 Pa → PtA x2 y2 z2 b2 Pb → PtA x3 y3 z3 b3 Pc → W7.heap.size ≤ B10 → HasN w' B10 13 53 → W7.heap.size ≤ B11 → HasN w' B11 13 53 → B10 ≠ B11 → T 4 #[tt,tt,tt,tt,tt,tt,tt,tt,tt,ff,tt,tt,ff,ff,ff] { tmps := #[.agg (k32 n1), .agg (k32 n2), .agg (k32 n3), .pointer (some ⟨w.heap.size, 0, none⟩), .pointer (some ⟨w.heap.size + 1, 0, none⟩), .pointer (some ⟨w.heap.size + 1 + 1, 0, none⟩), .bool false, .pointer (some ⟨B7, 0, none⟩), undef, .pointer (some ⟨B10, 0, none⟩), .pointer (some ⟨B11, 0, none⟩), undef, undef, .bool true, .bool false, .agg (pt x0 y0 z0 b0), .agg (pt x0 y0 z0 b0), .agg (k32 n1), .agg (pt x1 y1 z1 b1), .agg (pt x0 y0 z0 b0), .agg (k32 n2), .agg (pt x2 y2 z2 b2), .agg (pt x0 y0 z0 b0), .agg (k32 n3), .agg (pt x3 y3 z3 b3), undef, undef, undef, undef, undef, undef, undef, undef, undef, undef, undef, undef, undef, undef, undef, undef, undef, undef, undef, undef, undef, undef, undef, undef, undef, undef, undef, undef, undef, undef, undef, undef, undef, undef, undef, undef, undef, undef, undef, undef, undef, undef, undef, undef, undef, undef, undef, undef, undef, undef, undef, undef, undef, undef, undef, undef, undef, undef, undef, undef, undef, undef, undef, undef, undef, undef, undef, undef, undef, undef, undef, undef, undef], defers := [] } w' := by
      intro B10 B11 x1 y1 z1 b1 x2 y2 z2 b2 x3 y3 z3 b3 w' hbw hp1 hp2 hp3 hB10 mA10 hB11 mA11 hne10_11
      refine (hT _ _ _ _).2 ?_
      refine wpBut_r1 (i := 9) (by kernel_rfl) ?_
      refine go_alloc 9 8 #[tt,tt,tt,tt,tt,tt,tt,tt,tt,tt,tt,tt,ff,ff,ff] rfl rfl rfl (by rfl) 53 rfl _ al53 ?_
      intro w2 hw2
      have hk := (hbw).alloc (hbw).size (.cells z53 53)
      have hlt10 := mA10.lt
      have mA10 := mA10.alloc (.cells z53 53)
      have hlt11 := mA11.lt
      have mA11 := mA11.alloc (.cells z53 53)
      have mA9 := HasN.new (w') z53 53 13 (by kernel_rfl)
      have hB9 := (hbw).size
      rw [← hw2] at hk mA10 mA11 mA9
      have hne9_10 : w'.heap.size ≠ B10 := by omega
      have hne9_11 : w'.heap.size ≠ B11 := by omega
      clear hw2
      refine ⟨fun _ => hk, ?_⟩
      (try simp only [sI, sS, sZ])
      exact (hT _ _ _ _).1 (St2_5_8_9_10_11 (w'.heap.size) (B10) (B11) (x1) (y1) (z1) (b1) (x2) (y2) (z2) (b2) (x3) (y3) (z3) (b3) w2 hk hp1 hp2 hp3 hB9 mA9 hB10 mA10 hB11 mA11 hne9_10 hne9_11 hne10_11)
    have St2_5_8_9_11 : ∀ (B9 : Nat) (B11 : Nat) (x1 : Nat) (y1 : Nat) (z1 : Nat) (b1 : Bool) (x2 : Nat) (y2 : Nat) (z2 : Nat) (b2 : Bool) (x3 : Nat) (y3 : Nat) (z3 : Nat) (b3 : Bool) (w' : World), Below W7.heap.size W7 w' → PtA x1 y1 z1 b1 Pa → PtA x2 y2 z2 b2 Pb → PtA x3 y3 z3 b3 Pc → W7.heap.size ≤ B9 → HasN w' B9 13 53 → W7.heap.size ≤ B11 → HasN w' B11 13 53 → B9 ≠ B11 → T 4 #[tt,tt,tt,tt,tt,tt,tt,tt,tt,tt,ff,tt,ff,ff,ff] { tmps := #[.agg (k32 n1), .agg (k32 n2), .agg (k32 n3), .pointer (some ⟨w.heap.size, 0, none⟩), .pointer (some ⟨w.heap.size + 1, 0, none⟩), .pointer (some ⟨w.heap.size + 1 + 1, 0, none⟩), .bool false, .pointer (some ⟨B7, 0, none⟩), .pointer (some ⟨B9, 0, none⟩), undef, .pointer (some ⟨B11, 0, none⟩), undef, undef, .bool true, .bool false, .agg (pt x0 y0 z0 b0), .agg (pt x0 y0 z0 b0), .agg (k32 n1), .agg (pt x1 y1 z1 b1), .agg (pt x0 y0 z0 b0), .agg (k32 n2), .agg (pt x2 y2 z2 b2), .agg (pt x0 y0 z0 b0), .agg (k32 n3), .agg (pt x3 y3 z3 b3), undef, undef, undef, undef, undef, undef, undef, undef, undef, undef, undef, undef, undef, undef, undef, undef, undef, undef, undef, undef, undef, undef, undef, undef, undef, undef, undef, undef, undef, undef, undef, undef, undef, undef, undef, undef, undef, undef, undef, undef, undef, undef, undef, undef, undef, undef, undef, undef, undef, undef, undef, undef, undef, undef, undef, undef, undef, undef, undef, undef, undef, undef, undef, undef, undef, undef, undef, undef, undef, undef, undef, undef, undef], defers := [] } w' := by
      intro B9 B11 x1 y1 z1 b1 x2 y2 z2 b2 x3 y3 z3 b3 w' hbw hp1 hp2 hp3 hB9 mA9 hB11 mA11 hne9_11
      refine (hT _ _ _ _).2 ?_
      refine wpBut_r1 (i := 10) (by kernel_rfl) ?_
      refine go_alloc 10 9 #[tt,tt,tt,tt,tt,tt,tt,tt,tt,tt,tt,tt,ff,ff,ff] rfl rfl rfl (by rfl) 53 rfl _ al53 ?_
      intro w2 hw2
      have hk := (hbw).alloc (hbw).size (.cells z53 53)
      have hlt9 := mA9.lt
      have mA9 := mA9.alloc (.cells z53 53)
      have hlt11 := mA11.lt
      have mA11 := mA11.alloc (.cells z53 53)
      have mA10 := HasN.new (w') z53 53 13 (by kernel_rfl)
      have hB10 := (hbw).size
      rw [← hw2] at hk mA9 mA11 mA10
      have hne9_10 : B9 ≠ w'.heap.size := by omega
      have hne10_11 : w'.heap.size ≠ B11 := by omega
      clear hw2
      refine ⟨fun _ => hk, ?_⟩
      (try simp only [sI, sS, sZ])
      exact (hT _ _ _ _).1 (St2_5_8_9_10_11 (B9) (w'.heap.size) (B11) (x1) (y1) (z1) (b1) (x2) (y2) (z2) (b2) (x3) (y3) (z3) (b3) w2 hk hp1 hp2 hp3 hB9 mA9 hB10 mA10 hB11 mA11 hne9_10 hne9_11 hne10_11)
    have St2_5_8_9_10 : ∀ (B9 : Nat) (B10 : Nat) (x1 : Nat) (y1 : Nat) (z1 : Nat) (b1 : Bool) (x2 : Nat) (y2 : Nat) (z2 : Nat) (b2 : Bool) (x3 : Nat) (y3 : Nat) (z3 : Nat) (b3 : Bool) (w' : World), Below W7.heap.size W7 w' → PtA x1 y1 z1 b1 Pa → PtA x2 y2 z2 b2 Pb → PtA x3 y3 z3 b3 Pc → W7.heap.size ≤ B9 → HasN w' B9 13 53 → W7.heap.size ≤ B10 → HasN w' B10 13 53 → B9 ≠ B10 → T 4 #[tt,tt,tt,tt,tt,tt,tt,tt,tt,tt,tt,ff,ff,ff,ff] { tmps := #[.agg (k32 n1), .agg (k32 n2), .agg (k32 n3), .pointer (some ⟨w.heap.size, 0, none⟩), .pointer (some ⟨w.heap.size + 1, 0, none⟩), .pointer (some ⟨w.heap.size + 1 + 1, 0, none⟩), .bool false, .pointer (some ⟨B7, 0, none⟩), .pointer (some ⟨B9, 0, none⟩), .pointer (some ⟨B10, 0, none⟩), undef, undef, undef, .bool true, .bool false, .agg (pt x0 y0 z0 b0), .agg (pt x0 y0 z0 b0), .agg (k32 n1), .agg (pt x1 y1 z1 b1), .agg (pt x0 y0 z0 b0), .agg (k32 n2), .agg (pt x2 y2 z2 b2), .agg (pt x0 y0 z0 b0), .agg (k32 n3), .agg (pt x3 y3 z3 b3), undef, undef, undef, undef, undef, undef, undef, undef, undef, undef, undef, undef, undef, undef, undef, undef, undef, undef, undef, undef, undef, undef, undef, undef, undef, undef, undef, undef, undef, undef, undef, undef, undef, undef, undef, undef, undef, undef, undef, undef, undef, undef, undef, undef, undef, undef, undef, undef, undef, undef, undef, undef, undef, undef, undef, undef, undef, undef, undef, undef, undef, undef, undef, undef, undef, undef, undef, undef, undef, undef, undef, undef, undef], defers := [] } w' := by
      intro B9 B10 x1 y1 z1 b1 x2 y2 z2 b2 x3 y3 z3 b3 w' hbw hp1 hp2 hp3 hB9 mA9 hB10 mA10 hne9_10
      refine (hT _ _ _ _).2 ?_
      refine wpBut_r1 (i := 11) (by kernel_rfl) ?_
      refine go_alloc 11 10 #[tt,tt,tt,tt,tt,tt,tt,tt,tt,tt,tt,tt,ff,ff,ff] rfl rfl rfl (by rfl) 53 rfl _ al53 ?_
      intro w2 hw2
      have hk := (hbw).alloc (hbw).size (.cells z53 53)
      have hlt9 := mA9.lt
      have mA9 := mA9.alloc (.cells z53 53)
      have hlt10 := mA10.lt
      have mA10 := mA10.alloc (.cells z53 53)
      have mA11 := HasN.new (w') z53 53 13 (by kernel_rfl)
      have hB11 := (hbw).size
      rw [← hw2] at hk mA9 mA10 mA11
      have hne9_11 : B9 ≠ w'.heap.size := by omega
      have hne10_11 : B10 ≠ w'.heap.size := by omega
      clear hw2
      refine ⟨fun _ => hk, ?_⟩
      (try simp only [sI, sS, sZ])
      exact (hT _ _ _ _).1 (St2_5_8_9_10_11 (B9) (B10) (w'.heap.size) (x1) (y1) (z1) (b1) (x2) (y2) (z2) (b2) (x3) (y3) (z3) (b3) w2 hk hp1 hp2 hp3 hB9 mA9 hB10 mA10 hB11 mA11 hne9_10 hne9_11 hne10_11)
    have St2_9_10_11 : ∀ (B9 : Nat) (B10 : Nat) (B11 : Nat) (x1 : Nat) (y1 : Nat) (z1 : Nat) (b1 : Bool) (w' : World), Below W7.heap.size W7 w' → PtA x1 y1 z1 b1 Pa → W7.heap.size ≤ B9 → HasN w' B9 13 53 → W7.heap.size ≤ B10 → HasN w' B10 13 53 → W7.heap.size ≤ B11 → HasN w' B11 13 53 → B9 ≠ B10 → B9 ≠ B11 → B10 ≠ B11 → T 5 #[tt,tt,tt,tt,tt,ff,tt,tt,ff,tt,tt,tt,ff,ff,ff] { tmps := #[.agg (k32 n1), .agg (k32 n2), .agg (k32 n3), .pointer (some ⟨w.heap.size, 0, none⟩), .pointer (some ⟨w.heap.size + 1, 0, none⟩), .pointer (some ⟨w.heap.size + 1 + 1, 0, none⟩), .bool false, .pointer (some ⟨B7, 0, none⟩), .pointer (some ⟨B9, 0, none⟩), .pointer (some ⟨B10, 0, none⟩), .pointer (some ⟨B11, 0, none⟩), undef, undef, .bool true, .bool false, .agg (pt x0 y0 z0 b0), .agg (pt x0 y0 z0 b0), .agg (k32 n1), .agg (pt x1 y1 z1 b1), .agg (pt x0 y0 z0 b0), .agg (k32 n2), undef, .agg (pt x0 y0 z0 b0), .agg (k32 n3), undef, undef, undef, undef, undef, undef, undef, undef, undef, undef, undef, undef, undef, undef, undef, undef, undef, undef, undef, undef, undef, undef, undef, undef, undef, undef, undef, undef, undef, undef, undef, undef, undef, undef, undef, undef, undef, undef, undef, undef, undef, undef, undef, undef, undef, undef, undef, undef, undef, undef, undef, undef, undef, undef, undef, undef, undef, undef, undef, undef, undef, undef, undef, undef, undef, undef, undef, undef, undef, undef, undef, undef, undef, undef], defers := [] } w' := by
      intro B9 B10 B11 x1 y1 z1 b1 w' hbw hp1 hB9 mA9 hB10 mA10 hB11 mA11 hne9_10 hne9_11 hne10_11
      refine (hT _ _ _ _).2 ?_
      refine wpBut_r1 (i := 5) (by kernel_rfl) ?_
      refine go_call 5 21 #[tt,tt,tt,tt,tt,tt,tt,tt,ff,tt,tt,tt,ff,ff,ff] rfl rfl rfl (by rfl) rfl rfl (by rfl) ent56 (by rfl) (Hm2.out x0 y0 z0 b0 Hq0.out _) ?_
      rintro e w2 ⟨x2, y2, z2, b2, hp2, rfl, hb⟩
      have hk := held_next hbw hb
      have mA9 := mA9.call hb
      have mA10 := mA10.call hb
      have mA11 := mA11.call hb
      refine ⟨_, rfl, fun _ => hk, ?_⟩
      (try simp only [sI, sS, sZ])
      exact (hT _ _ _ _).1 (St2_5_9_10_11 (B9) (B10) (B11) (x1) (y1) (z1) (b1) (x2) (y2) (z2) (b2) w2 hk hp1 hp2 hB9 mA9 hB10 mA10 hB11 mA11 hne9_10 hne9_11 hne10_11)
    have St2_5_10_11 : ∀ (B10 : Nat) (B11 : Nat) (x1 : Nat) (y1 : Nat) (z1 : Nat) (b1 : Bool) (x2 : Nat) (y2 : Nat) (z2 : Nat) (b2 : Bool) (w' : World), Below W7.heap.size W7 w' → PtA x1 y1 z1 b1 Pa → PtA x2 y2 z2 b2 Pb → W7.heap.size ≤ B10 → HasN w' B10 13 53 → W7.heap.size ≤ B11 → HasN w' B11 13 53 → B10 ≠ B11 → T 5 #[tt,tt,tt,tt,tt,tt,tt,tt,ff,ff,tt,tt,ff,ff,ff] { tmps := #[.agg (k32 n1), .agg (k32 n2), .agg (k32 n3), .pointer (some ⟨w.heap.size, 0, none⟩), .pointer (some ⟨w.heap.size + 1, 0, none⟩), .pointer (some ⟨w.heap.size + 1 + 1, 0, none⟩), .bool false, .pointer (some ⟨B7, 0, none⟩), undef, .pointer (some ⟨B10, 0, none⟩), .pointer (some ⟨B11, 0, none⟩), undef, undef, .bool true, .bool false, .agg (pt x0 y0 z0 b0), .agg (pt x0 y0 z0 b0), .agg (k32 n1), .agg (pt x1 y1 z1 b1), .agg (pt x0 y0 z0 b0), .agg (k32 n2), .agg (pt x2 y2 z2 b2), .agg (pt x0 y0 z0 b0), .agg (k32 n3), undef, undef, undef, undef, undef, undef, undef, undef, undef, undef, undef, undef, undef, undef, undef, undef, undef, undef, undef, undef, undef, undef, undef, undef, undef, undef, undef, undef, undef, undef, undef, undef, undef, undef, undef, undef, undef, undef, undef, undef, undef, undef, undef, undef, undef, undef, undef, undef, undef, undef, undef, undef, undef, undef, undef, undef, undef, undef, undef, undef, undef, undef, undef, undef, undef, undef, undef, undef, undef, undef, undef, undef, undef, undef], defers := [] } w' := by
      intro B10 B11 x1 y1 z1 b1 x2 y2 z2 b2 w' hbw hp1 hp2 hB10 mA10 hB11 mA11 hne10_11
      refine (hT _ _ _ _).2 ?_
      refine wpBut_r2 (i := 8) (j := 9) (by kernel_rfl) ?_ ?_
      refine go_call 8 24 #[tt,tt,tt,tt,tt,tt,tt,tt,tt,ff,tt,tt,ff,ff,ff] rfl rfl rfl (by rfl) rfl rfl (by rfl) ent56 (by rfl) (Hm3.out x0 y0 z0 b0 Hq0.out _) ?_
      rintro e w2 ⟨x3, y3, z3, b3, hp3, rfl, hb⟩
      have hk := held_next hbw hb
      have mA10 := mA10.call hb
      have mA11 := mA11.call hb
      refine ⟨_, rfl, fun _ => hk, ?_⟩
      (try simp only [sI, sS, sZ])
      exact (hT _ _ _ _).1 (St2_5_8_10_11 (B10) (B11) (x1) (y1) (z1) (b1) (x2) (y2) (z2) (b2) (x3) (y3) (z3) (b3) w2 hk hp1 hp2 hp3 hB10 mA10 hB11 mA11 hne10_11)
      refine go_alloc 9 8 #[tt,tt,tt,tt,tt,tt,tt,tt,ff,tt,tt,tt,ff,ff,ff] rfl rfl rfl (by rfl) 53 rfl _ al53 ?_
      intro w2 hw2
      have hk := (hbw).alloc (hbw).size (.cells z53 53)
      have hlt10 := mA10.lt
      have mA10 := mA10.alloc (.cells z53 53)
      have hlt11 := mA11.lt
      have mA11 := mA11.alloc (.cells z53 53)
      have mA9 := HasN.new (w') z53 53 13 (by kernel_rfl)
      have hB9 := (hbw).size
      rw [← hw2] at hk mA10 mA11 mA9
      have hne9_10 : w'.heap.size ≠ B10 := by omega
      have hne9_11 : w'.heap.size ≠ B11 := by omega
      clear hw2
      refine ⟨fun _ => hk, ?_⟩
      (try simp only [sI, sS, sZ])
      exact (hT _ _ _ _).1 (St2_5_9_10_11 (w'.heap.size) (B10) (B11) (x1) (y1) (z1) (b1) (x2) (y2) (z2) (b2) w2 hk hp1 hp2 hB9 mA9 hB10 mA10 hB11 mA11 hne9_10 hne9_11 hne10_11)
    have St2_5_9_11 : ∀ (B9 : Nat) (B11 : Nat) (x1 : Nat) (y1 : Nat) (z1 : Nat) (b1 : Bool) (x2 : Nat) (y2 : Nat) (z2 : Nat) (b2 : Bool) (w' : World), Below W7.heap.size W7 w' → PtA x1 y1 z1 b1 Pa → PtA x2 y2 z2 b2 Pb → W7.heap.size ≤ B9 → HasN w' B9 13 53 → W7.heap.size ≤ B11 → HasN w' B11 13 53 → B9 ≠ B11 → T 5 #[tt,tt,tt,tt,tt,tt,tt,tt,ff,tt,ff,tt,ff,ff,ff] { tmps := #[.agg (k32 n1), .agg (k32 n2), .agg (k32 n3), .pointer (some ⟨w.heap.size, 0, none⟩), .pointer (some ⟨w.heap.size + 1, 0, none⟩), .pointer (some ⟨w.heap.size + 1 + 1, 0, none⟩), .bool false, .pointer (some ⟨B7, 0, none⟩), .pointer (some ⟨B9, 0, none⟩), undef, .pointer (some ⟨B11, 0, none⟩), undef, undef, .bool true, .bool false, .agg (pt x0 y0 z0 b0), .agg (pt x0 y0 z0 b0), .agg (k32 n1), .agg (pt x1 y1 z1 b1), .agg (pt x0 y0 z0 b0), .agg (k32 n2), .agg (pt x2 y2 z2 b2), .agg (pt x0 y0 z0 b0), .agg (k32 n3), undef, undef, undef, undef, undef, undef, undef, undef, undef, undef, undef, undef, undef, undef, undef, undef, undef, undef, undef, undef, undef, undef, undef, undef, undef, undef, undef, undef, undef, undef, undef, undef, undef, undef, undef, undef, undef, undef, undef, undef, undef, undef, undef, undef, undef, undef, undef, undef, undef, undef, undef, undef, undef, undef, undef, undef, undef, undef, undef, undef, undef, undef, undef, undef, undef, undef, undef, undef, undef, undef, undef, undef, undef, undef], defers := [] } w' := by
      intro B9 B11 x1 y1 z1 b1 x2 y2 z2 b2 w' hbw hp1 hp2 hB9 mA9 hB11 mA11 hne9_11
      refine (hT _ _ _ _).2 ?_
      refine wpBut_r2 (i := 8) (j := 10) (by kernel_rfl) ?_ ?_
      refine go_call 8 24 #[tt,tt,tt,tt,tt,tt,tt,tt,tt,tt,ff,tt,ff,ff,ff] rfl rfl rfl (by rfl) rfl rfl (by rfl) ent56 (by rfl) (Hm3.out x0 y0 z0 b0 Hq0.out _) ?_
      rintro e w2 ⟨x3, y3, z3, b3, hp3, rfl, hb⟩
      have hk := held_next hbw hb
      have mA9 := mA9.call hb
      have mA11 := mA11.call hb
      refine ⟨_, rfl, fun _ => hk, ?_⟩
      (try simp only [sI, sS, sZ])
      exact (hT _ _ _ _).1 (St2_5_8_9_11 (B9) (B11) (x1) (y1) (z1) (b1) (x2) (y2) (z2) (b2) (x3) (y3) (z3) (b3) w2 hk hp1 hp2 hp3 hB9 mA9 hB11 mA11 hne9_11)
      refine go_alloc 10 9 #[tt,tt,tt,tt,tt,tt,tt,tt,ff,tt,tt,tt,ff,ff,ff] rfl rfl rfl (by rfl) 53 rfl _ al53 ?_
      intro w2 hw2
      have hk := (hbw).alloc (hbw).size (.cells z53 53)
      have hlt9 := mA9.lt
      have mA9 := mA9.alloc (.cells z53 53)
      have hlt11 := mA11.lt
      have mA11 := mA11.alloc (.cells z53 53)
      have mA10 := HasN.new (w') z53 53 13 (by kernel_rfl)
      have hB10 := (hbw).size
      rw [← hw2] at hk mA9 mA11 mA10
      have hne9_10 : B9 ≠ w'.heap.size := by omega
      have hne10_11 : w'.heap.size ≠ B11 := by omega
      clear hw2
      refine ⟨fun _ => hk, ?_⟩
      (try simp only [sI, sS, sZ])
      exact (hT _ _ _ _).1 (St2_5_9_10_11 (B9) (w'.heap.size) (B11) (x1) (y1) (z1) (b1) (x2) (y2) (z2) (b2) w2 hk hp1 hp2 hB9 mA9 hB10 mA10 hB11 mA11 hne9_10 hne9_11 hne10_11)
    have St2_5_9_10 : ∀ (B9 : Nat) (B10 : Nat) (x1 : Nat) (y1 : Nat) (z1 : Nat) (b1 : Bool) (x2 : Nat) (y2 : Nat) (z2 : Nat) (b2 : Bool) (w' : World), Below W7.heap.size W7 w' → PtA x1 y1 z1 b1 Pa → PtA x2 y2 z2 b2 Pb → W7.heap.size ≤ B9 → HasN w' B9 13 53 → W7.heap.size ≤ B10 → HasN w' B10 13 53 → B9 ≠ B10 → T 5 #[tt,tt,tt,tt,tt,tt,tt,tt,ff,tt,tt,ff,ff,ff,ff] { tmps := #[.agg (k32 n1), .agg (k32 n2), .agg (k32 n3), .pointer (some ⟨w.heap.size, 0, none⟩), .pointer (some ⟨w.heap.size + 1, 0, none⟩), .pointer (some ⟨w.heap.size + 1 + 1, 0, none⟩), .bool false, .pointer (some ⟨B7, 0, none⟩), .pointer (some ⟨B9, 0, none⟩), .pointer (some ⟨B10, 0, none⟩), undef, undef, undef, .bool true, .bool false, .agg (pt x0 y0 z0 b0), .agg (pt x0 y0 z0 b0), .agg (k32 n1), .agg (pt x1 y1 z1 b1), .agg (pt x0 y0 z0 b0), .agg (k32 n2), .agg (pt x2 y2 z2 b2), .agg (pt x0 y0 z0 b0), .agg (k32 n3), undef, undef, undef, undef, undef, undef, undef, undef, undef, undef, undef, undef, undef, undef, undef, undef, undef, undef, undef, undef, undef, undef, undef, undef, undef, undef, undef, undef, undef, undef, undef, undef, undef, undef, undef, undef, undef, undef, undef, undef, undef, undef, undef, undef, undef, undef, undef, undef, undef, undef, undef, undef, undef, undef, undef, undef, undef, undef, undef, undef, undef, undef, undef, undef, undef, undef, undef, undef, undef, undef, undef, undef, undef, undef], defers := [] } w' := by
      intro B9 B10 x1 y1 z1 b1 x2 y2 z2 b2 w' hbw hp1 hp2 hB9 mA9 hB10 mA10 hne9_10
      refine (hT _ _ _ _).2 ?_
      refine wpBut_r2 (i := 8) (j := 11) (by kernel_rfl) ?_ ?_
      refine go_call 8 24 #[tt,tt,tt,tt,tt,tt,tt,tt,tt,tt,tt,ff,ff,ff,ff] rfl rfl rfl (by rfl) rfl rfl (by rfl) ent56 (by rfl) (Hm3.out x0 y0 z0 b0 Hq0.out _) ?_
      rintro e w2 ⟨x3, y3, z3, b3, hp3, rfl, hb⟩
      have hk := held_next hbw hb
      have mA9 := mA9.call hb
      have mA10 := mA10.call hb
      refine ⟨_, rfl, fun _ => hk, ?_⟩
      (try simp only [sI, sS, sZ])
      exact (hT _ _ _ _).1 (St2_5_8_9_10 (B9) (B10) (x1) (y1) (z1) (b1) (x2) (y2) (z2) (b2) (x3) (y3) (z3) (b3) w2 hk hp1 hp2 hp3 hB9 mA9 hB10 mA10 hne9_10)
      refine go_alloc 11 10 #[tt,tt,tt,tt,tt,tt,tt,tt,ff,tt,tt,tt,ff,ff,ff] rfl rfl rfl (by rfl) 53 rfl _ al53 ?_
      intro w2 hw2
      have hk := (hbw).alloc (hbw).size (.cells z53 53)
      have hlt9 := mA9.lt
      have mA9 := mA9.alloc (.cells z53 53)
      have hlt10 := mA10.lt
      have mA10 := mA10.alloc (.cells z53 53)
      have mA11 := HasN.new (w') z53 53 13 (by kernel_rfl)
      have hB11 := (hbw).size
      rw [← hw2] at hk mA9 mA10 mA11
      have hne9_11 : B9 ≠ w'.heap.size := by omega
      have hne10_11 : B10 ≠ w'.heap.size := by omega
      clear hw2
      refine ⟨fun _ => hk, ?_⟩
      (try simp only [sI, sS, sZ])
      exact (hT _ _ _ _).1 (St2_5_9_10_11 (B9) (B10) (w'.heap.size) (x1) (y1) (z1) (b1) (x2) (y2) (z2) (b2) w2 hk hp1 hp2 hB9 mA9 hB10 mA10 hB11 mA11 hne9_10 hne9_11 hne10_11)
    have St2_5_8_11 : ∀ (B11 : Nat) (x1 : Nat) (y1 : Nat) (z1 : Nat) (b1 : Bool) (x2 : Nat) (y2 : Nat) (z2 : Nat) (b2 : Bool) (x3 : Nat) (y3 : Nat) (z3 : Nat) (b3 : Bool) (w' : World), Below W7.heap.size W7 w' → PtA x1 y1 z1 b1 Pa → PtA x2 y2 z2 b2 Pb → PtA x3 y3 z3 b3 Pc → W7.heap.size ≤ B11 → HasN w' B11 13 53 → T 5 #[tt,tt,tt,tt,tt,tt,tt,tt,tt,ff,ff,tt,ff,ff,ff] { tmps := #[.agg (k32 n1), .agg (k32 n2), .agg (k32 n3), .pointer (some ⟨w.heap.size, 0, none⟩), .pointer (some ⟨w.heap.size + 1, 0, none⟩), .pointer (some ⟨w.heap.size + 1 + 1, 0, none⟩), .bool false, .pointer (some ⟨B7, 0, none⟩), undef, undef, .pointer (some ⟨B11, 0, none⟩), undef, undef, .bool true, .bool false, .agg (pt x0 y0 z0 b0), .agg (pt x0 y0 z0 b0), .agg (k32 n1), .agg (pt x1 y1 z1 b1), .agg (pt x0 y0 z0 b0), .agg (k32 n2), .agg (pt x2 y2 z2 b2), .agg (pt x0 y0 z0 b0), .agg (k32 n3), .agg (pt x3 y3 z3 b3), undef, undef, undef, undef, undef, undef, undef, undef, undef, undef, undef, undef, undef, undef, undef, undef, undef, undef, undef, undef, undef, undef, undef, undef, undef, undef, undef, undef, undef, undef, undef, undef, undef, undef, undef, undef, undef, undef, undef, undef, undef, undef, undef, undef, undef, undef, undef, undef, undef, undef, undef, undef, undef, undef, undef, undef, undef, undef, undef, undef, undef, undef, undef, undef, undef, undef, undef, undef, undef, undef, undef, undef, undef], defers := [] } w' := by
      intro B11 x1 y1 z1 b1 x2 y2 z2 b2 x3 y3 z3 b3 w' hbw hp1 hp2 hp3 hB11 mA11
      refine (hT _ _ _ _).2 ?_
      refine wpBut_r2 (i := 9) (j := 10) (by kernel_rfl) ?_ ?_
      refine go_alloc 9 8 #[tt,tt,tt,tt,tt,tt,tt,tt,tt,tt,ff,tt,ff,ff,ff] rfl rfl rfl (by rfl) 53 rfl _ al53 ?_
      intro w2 hw2
      have hk := (hbw).alloc (hbw).size (.cells z53 53)
      have hlt11 := mA11.lt
      have mA11 := mA11.alloc (.cells z53 53)
      have mA9 := HasN.new (w') z53 53 13 (by kernel_rfl)
      have hB9 := (hbw).size
      rw [← hw2] at hk mA11 mA9
      have hne9_11 : w'.heap.size ≠ B11 := by omega
      clear hw2
      refine ⟨fun _ => hk, ?_⟩
      (try simp only [sI, sS, sZ])
      exact (hT _ _ _ _).1 (St2_5_8_9_11 (w'.heap.size) (B11) (x1) (y1) (z1) (b1) (x2) (y2) (z2) (b2) (x3) (y3) (z3) (b3) w2 hk hp1 hp2 hp3 hB9 mA9 hB11 mA11 hne9_11)
      refine go_alloc 10 9 #[tt,tt,tt,tt,tt,tt,tt,tt,tt,ff,tt,tt,ff,ff,ff] rfl rfl rfl (by rfl) 53 rfl _ al53 ?_
      intro w2 hw2
      have hk := (hbw).alloc (hbw).size (.cells z53 53)
      have hlt11 := mA11.lt
      have mA11 := mA11.alloc (.cells z53 53)
      have mA10 := HasN.new (w') z53 53 13 (by kernel_rfl)
      have hB10 := (hbw).size
      rw [← hw2] at hk mA11 mA10
      have hne10_11 : w'.heap.size ≠ B11 := by omega
      clear hw2
      refine ⟨fun _ => hk, ?_⟩
      (try simp only [sI, sS, sZ])
      exact (hT _ _ _ _).1 (St2_5_8_10_11 (w'.heap.size) (B11) (x1) (y1) (z1) (b1) (x2) (y2) (z2) (b2) (x3) (y3) (z3) (b3) w2 hk hp1 hp2 hp3 hB10 mA10 hB11 mA11 hne10_11)
    have St2_5_8_10 : ∀ (B10 : Nat) (x1 : Nat) (y1 : Nat) (z1 : Nat) (b1 : Bool) (x2 : Nat) (y2 : Nat) (z2 : Nat) (b2 : Bool) (x3 : Nat) (y3 : Nat) (z3 : Nat) (b3 : Bool) (w' : World), Below W7.heap.size W7 w' → PtA x1 y1 z1 b1 Pa → PtA x2 y2 z2 b2 Pb → PtA x3 y3 z3 b3 Pc → W7.heap.size ≤ B10 → HasN w' B10 13 53 → T 5 #[tt,tt,tt,tt,tt,tt,tt,tt,tt,ff,tt,ff,ff,ff,ff] { tmps := #[.agg (k32 n1), .agg (k32 n2), .agg (k32 n3), .pointer (some ⟨w.heap.size, 0, none⟩), .pointer (some ⟨w.heap.size + 1, 0, none⟩), .pointer (some ⟨w.heap.size + 1 + 1, 0, none⟩), .bool false, .pointer (some ⟨B7, 0, none⟩), undef, .pointer (some ⟨B10, 0, none⟩), undef, undef, undef, .bool true, .bool false, .agg (pt x0 y0 z0 b0), .agg (pt x0 y0 z0 b0), .agg (k32 n1), .agg (pt x1 y1 z1 b1), .agg (pt x0 y0 z0 b0), .agg (k32 n2), .agg (pt x2 y2 z2 b2), .agg (pt x0 y0 z0 b0), .agg (k32 n3), .agg (pt x3 y3 z3 b3), undef, undef, undef, undef, undef, undef, undef, undef, undef, undef, undef, undef, undef, undef, undef, undef, undef, undef, undef, undef, undef, undef, undef, undef, undef, undef, undef, undef, undef, undef, undef, undef, undef, undef, undef, undef, undef, undef, undef, undef, undef, undef, undef, undef, undef, undef, undef, undef, undef, undef, undef, undef, undef, undef, undef, undef, undef, undef, undef, undef, undef, undef, undef, undef, undef, undef, undef, undef, undef, undef, undef, undef, undef], defers := [] } w' := by
      intro B10 x1 y1 z1 b1 x2 y2 z2 b2 x3 y3 z3 b3 w' hbw hp1 hp2 hp3 hB10 mA10
      refine (hT _ _ _ _).2 ?_
      refine wpBut_r2 (i := 9) (j := 11) (by kernel_rfl) ?_ ?_
      refine go_alloc 9 8 #[tt,tt,tt,tt,tt,tt,tt,tt,tt,tt,tt,ff,ff,ff,ff] rfl rfl rfl (by rfl) 53 rfl _ al53 ?_
      intro w2 hw2
      have hk := (hbw).alloc (hbw).size (.cells z53 53)
      have hlt10 := mA10.lt
      have mA10 := mA10.alloc (.cells z53 53)
      have mA9 := HasN.new (w') z53 53 13 (by kernel_rfl)
      have hB9 := (hbw).size
      rw [← hw2] at hk mA10 mA9
      have hne9_10 : w'.heap.size ≠ B10 := by omega
      clear hw2
      refine ⟨fun _ => hk, ?_⟩
      (try simp only [sI, sS, sZ])
      exact (hT _ _ _ _).1 (St2_5_8_9_10 (w'.heap.size) (B10) (x1) (y1) (z1) (b1) (x2) (y2) (z2) (b2) (x3) (y3) (z3) (b3) w2 hk hp1 hp2 hp3 hB9 mA9 hB10 mA10 hne9_10)
      refine go_alloc 11 10 #[tt,tt,tt,tt,tt,tt,tt,tt,tt,ff,tt,tt,ff,ff,ff] rfl rfl rfl (by rfl) 53 rfl _ al53 ?_
      intro w2 hw2
      have hk := (hbw).alloc (hbw).size (.cells z53 53)
      have hlt10 := mA10.lt
      have mA10 := mA10.alloc (.cells z53 53)
      have mA11 := HasN.new (w') z53 53 13 (by kernel_rfl)
      have hB11 := (hbw).size
      rw [← hw2] at hk mA10 mA11
      have hne10_11 : B10 ≠ w'.heap.size := by omega
      clear hw2
      refine ⟨fun _ => hk, ?_⟩
      (try simp only [sI, sS, sZ])
      exact (hT _ _ _ _).1 (St2_5_8_10_11 (B10) (w'.heap.size) (x1) (y1) (z1) (b1) (x2) (y2) (z2) (b2) (x3) (y3) (z3) (b3) w2 hk hp1 hp2 hp3 hB10 mA10 hB11 mA11 hne10_11)
    have St2_5_8_9 : ∀ (B9 : Nat) (x1 : Nat) (y1 : Nat) (z1 : Nat) (b1 : Bool) (x2 : Nat) (y2 : Nat) (z2 : Nat) (b2 : Bool) (x3 : Nat) (y3 : Nat) (z3 : Nat) (b3 : Bool) (w' : World), Below W7.heap.size W7 w' → PtA x1 y1 z1 b1 Pa → PtA x2 y2 z2 b2 Pb → PtA x3 y3 z3 b3 Pc → W7.heap.size ≤ B9 → HasN w' B9 13 53 → T 5 #[tt,tt,tt,tt,tt,tt,tt,tt,tt,tt,ff,ff,ff,ff,ff] { tmps := #[.agg (k32 n1), .agg (k32 n2), .agg (k32 n3), .pointer (some ⟨w.heap.size, 0, none⟩), .pointer (some ⟨w.heap.size + 1, 0, none⟩), .pointer (some ⟨w.heap.size + 1 + 1, 0, none⟩), .bool false, .pointer (some ⟨B7, 0, none⟩), .pointer (some ⟨B9, 0, none⟩), undef, undef, undef, undef, .bool true, .bool false, .agg (pt x0 y0 z0 b0), .agg (pt x0 y0 z0 b0), .agg (k32 n1), .agg (pt x1 y1 z1 b1), .agg (pt x0 y0 z0 b0), .agg (k32 n2), .agg (pt x2 y2 z2 b2), .agg (pt x0 y0 z0 b0), .agg (k32 n3), .agg (pt x3 y3 z3 b3), undef, undef, undef, undef, undef, undef, undef, undef, undef, undef, undef, undef, undef, undef, undef, undef, undef, undef, undef, undef, undef, undef, undef, undef, undef, undef, undef, undef, undef, undef, undef, undef, undef, undef, undef, undef, undef, undef, undef, undef, undef, undef, undef, undef, undef, undef, undef, undef, undef, undef, undef, undef, undef, undef, undef, undef, undef, undef, undef, undef, undef, undef, undef, undef, undef, undef, undef, undef, undef, undef, undef, undef, undef], defers := [] } w' := by
      intro B9 x1 y1 z1 b1 x2 y2 z2 b2 x3 y3 z3 b3 w' hbw hp1 hp2 hp3 hB9 mA9
      refine (hT _ _ _ _).2 ?_
      refine wpBut_r2 (i := 10) (j := 11) (by kernel_rfl) ?_ ?_
      refine go_alloc 10 9 #[tt,tt,tt,tt,tt,tt,tt,tt,tt,tt,tt,ff,ff,ff,ff] rfl rfl rfl (by rfl) 53 rfl _ al53 ?_
      intro w2 hw2
      have hk := (hbw).alloc (hbw).size (.cells z53 53)
      have hlt9 := mA9.lt
      have mA9 := mA9.alloc (.cells z53 53)
      have mA10 := HasN.new (w') z53 53 13 (by kernel_rfl)
      have hB10 := (hbw).size
      rw [← hw2] at hk mA9 mA10
      have hne9_10 : B9 ≠ w'.heap.size := by omega
      clear hw2
      refine ⟨fun _ => hk, ?_⟩
      (try simp only [sI, sS, sZ])
      exact (hT _ _ _ _).1 (St2_5_8_9_10 (B9) (w'.heap.size) (x1) (y1) (z1) (b1) (x2) (y2) (z2) (b2) (x3) (y3) (z3) (b3) w2 hk hp1 hp2 hp3 hB9 mA9 hB10 mA10 hne9_10)
      refine go_alloc 11 10 #[tt,tt,tt,tt,tt,tt,tt,tt,tt,tt,ff,tt,ff,ff,ff] rfl rfl rfl (by rfl) 53 rfl _ al53 ?_
      intro w2 hw2
      have hk := (hbw).alloc (hbw).size (.cells z53 53)
      have hlt9 := mA9.lt
      have mA9 := mA9.alloc (.cells z53 53)
      have mA11 := HasN.new (w') z53 53 13 (by kernel_rfl)
      have hB11 := (hbw).size
      rw [← hw2] at hk mA9 mA11
      have hne9_11 : B9 ≠ w'.heap.size := by omega
      clear hw2
      refine ⟨fun _ => hk, ?_⟩
      (try simp only [sI, sS, sZ])
      exact (hT _ _ _ _).1 (St2_5_8_9_11 (B9) (w'.heap.size) (x1) (y1) (z1) (b1) (x2) (y2) (z2) (b2) (x3) (y3) (z3) (b3) w2 hk hp1 hp2 hp3 hB9 mA9 hB11 mA11 hne9_11)
    have St9_10_11 : ∀ (B9 B10 B11 : Nat) (w' : World), Below W7.heap.size W7 w' → W7.heap.size ≤ B9 → HasN w' B9 13 53 → W7.heap.size ≤ B10 → HasN w' B10 13 53 → W7.heap.size ≤ B11 → HasN w' B11 13 53 → B9 ≠ B10 → B9 ≠ B11 → B10 ≠ B11 → T 6 #[tt,tt,ff,tt,tt,ff,tt,tt,ff,tt,tt,tt,ff,ff,ff] { tmps := #[.agg (k32 n1), .agg (k32 n2), .agg (k32 n3), .pointer (some ⟨w.heap.size, 0, none⟩), .pointer (some ⟨w.heap.size + 1, 0, none⟩), .pointer (some ⟨w.heap.size + 1 + 1, 0, none⟩), .bool false, .pointer (some ⟨B7, 0, none⟩), .pointer (some ⟨B9, 0, none⟩), .pointer (some ⟨B10, 0, none⟩), .pointer (some ⟨B11, 0, none⟩), undef, undef, .bool true, .bool false, .agg (pt x0 y0 z0 b0), .agg (pt x0 y0 z0 b0), .agg (k32 n1), undef, .agg (pt x0 y0 z0 b0), .agg (k32 n2), undef, .agg (pt x0 y0 z0 b0), .agg (k32 n3), undef, undef, undef, undef, undef, undef, undef, undef, undef, undef, undef, undef, undef, undef, undef, undef, undef, undef, undef, undef, undef, undef, undef, undef, undef, undef, undef, undef, undef, undef, undef, undef, undef, undef, undef, undef, undef, undef, undef, undef, undef, undef, undef, undef, undef, undef, undef, undef, undef, undef, undef, undef, undef, undef, undef, undef, undef, undef, undef, undef, undef, undef, undef, undef, undef, undef, undef, undef, undef, undef, undef, undef, undef, undef], defers := [] } w' := by
      intro B9 B10 B11 w' hbw hB9 mA9 hB10 mA10 hB11 mA11 hne9_10 hne9_11 hne10_11
      refine (hT _ _ _ _).2 ?_
      refine wpBut_r1 (i := 2) (by kernel_rfl) ?_
      refine go_call 2 18 #[tt,tt,tt,tt,tt,ff,tt,tt,ff,tt,tt,tt,ff,ff,ff] rfl rfl rfl (by rfl) rfl rfl (by rfl) ent56 (by rfl) (Hm1.out x0 y0 z0 b0 Hq0.out _) ?_
      rintro e w2 ⟨x1, y1, z1, b1, hp1, rfl, hb⟩
      have hk := held_next hbw hb
      have mA9 := mA9.call hb
      have mA10 := mA10.call hb
      have mA11 := mA11.call hb
      refine ⟨_, rfl, fun _ => hk, ?_⟩
      (try simp only [sI, sS, sZ])
      exact (hT _ _ _ _).1 (St2_9_10_11 (B9) (B10) (B11) (x1) (y1) (z1) (b1) w2 hk hp1 hB9 mA9 hB10 mA10 hB11 mA11 hne9_10 hne9_11 hne10_11)
    have St2_10_11 : ∀ (B10 : Nat) (B11 : Nat) (x1 : Nat) (y1 : Nat) (z1 : Nat) (b1 : Bool) (w' : World), Below W7.heap.size W7 w' → PtA x1 y1 z1 b1 Pa → W7.heap.size ≤ B10 → HasN w' B10 13 53 → W7.heap.size ≤ B11 → HasN w' B11 13 53 → B10 ≠ B11 → T 6 #[tt,tt,tt,tt,tt,ff,tt,tt,ff,ff,tt,tt,ff,ff,ff] { tmps := #[.agg (k32 n1), .agg (k32 n2), .agg (k32 n3), .pointer (some ⟨w.heap.size, 0, none⟩), .pointer (some ⟨w.heap.size + 1, 0, none⟩), .pointer (some ⟨w.heap.size + 1 + 1, 0, none⟩), .bool false, .pointer (some ⟨B7, 0, none⟩), undef, .pointer (some ⟨B10, 0, none⟩), .pointer (some ⟨B11, 0, none⟩), undef, undef, .bool true, .bool false, .agg (pt x0 y0 z0 b0), .agg (pt x0 y0 z0 b0), .agg (k32 n1), .agg (pt x1 y1 z1 b1), .agg (pt x0 y0 z0 b0), .agg (k32 n2), undef, .agg (pt x0 y0 z0 b0), .agg (k32 n3), undef, undef, undef, undef, undef, undef, undef, undef, undef, undef, undef, undef, undef, undef, undef, undef, undef, undef, undef, undef, undef, undef, undef, undef, undef, undef, undef, undef, undef, undef, undef, undef, undef, undef, undef, undef, undef, undef, undef, undef, undef, undef, undef, undef, undef, undef, undef, undef, undef, undef, undef, undef, undef, undef, undef, undef, undef, undef, undef, undef, undef, undef, undef, undef, undef, undef, undef, undef, undef, undef, undef, undef, undef, undef], defers := [] } w' := by
      intro B10 B11 x1 y1 z1 b1 w' hbw hp1 hB10 mA10 hB11 mA11 hne10_11
      refine (hT _ _ _ _).2 ?_
      refine wpBut_r2 (i := 5) (j := 9) (by kernel_rfl) ?_ ?_
      refine go_call 5 21 #[tt,tt,tt,tt,tt,tt,tt,tt,ff,ff,tt,tt,ff,ff,ff] rfl rfl rfl (by rfl) rfl rfl (by rfl) ent56 (by rfl) (Hm2.out x0 y0 z0 b0 Hq0.out _) ?_
      rintro e w2 ⟨x2, y2, z2, b2, hp2, rfl, hb⟩
      have hk := held_next hbw hb
      have mA10 := mA10.call hb
      have mA11 := mA11.call hb
      refine ⟨_, rfl, fun _ => hk, ?_⟩
      (try simp only [sI, sS, sZ])
      exact (hT _ _ _ _).1 (St2_5_10_11 (B10) (B11) (x1) (y1) (z1) (b1) (x2) (y2) (z2) (b2) w2 hk hp1 hp2 hB10 mA10 hB11 mA11 hne10_11)
      refine go_alloc 9 8 #[tt,tt,tt,tt,tt,ff,tt,tt,ff,tt,tt,tt,ff,ff,ff] rfl rfl rfl (by rfl) 53 rfl _ al53 ?_
      intro w2 hw2
      have hk := (hbw).alloc (hbw).size (.cells z53 53)
      have hlt10 := mA10.lt
      have mA10 := mA10.alloc (.cells z53 53)
      have hlt11 := mA11.lt
      have mA11 := mA11.alloc (.cells z53 53)
      have mA9 := HasN.new (w') z53 53 13 (by kernel_rfl)
      have hB9 := (hbw).size
      rw [← hw2] at hk mA10 mA11 mA9
      have hne9_10 : w'.heap.size ≠ B10 := by omega
      have hne9_11 : w'.heap.size ≠ B11 := by omega
      clear hw2
      refine ⟨fun _ => hk, ?_⟩
      (try simp only [sI, sS, sZ])
      exact (hT _ _ _ _).1 (St2_9_10_11 (w'.heap.size) (B10) (B11) (x1) (y1) (z1) (b1) w2 hk hp1 hB9 mA9 hB10 mA10 hB11 mA11 hne9_10 hne9_11 hne10_11)
    have St2_9_11 : ∀ (B9 : Nat) (B11 : Nat) (x1 : Nat) (y1 : Nat) (z1 : Nat) (b1 : Bool) (w' : World), Below W7.heap.size W7 w' → PtA x1 y1 z1 b1 Pa → W7.heap.size ≤ B9 → HasN w' B9 13 53 → W7.heap.size ≤ B11 → HasN w' B11 13 53 → B9 ≠ B11 → T 6 #[tt,tt,tt,tt,tt,ff,tt,tt,ff,tt,ff,tt,ff,ff,ff] { tmps := #[.agg (k32 n1), .agg (k32 n2), .agg (k32 n3), .pointer (some ⟨w.heap.size, 0, none⟩), .pointer (some ⟨w.heap.size + 1, 0, none⟩), .pointer (some ⟨w.heap.size + 1 + 1, 0, none⟩), .bool false, .pointer (some ⟨B7, 0, none⟩), .pointer (some ⟨B9, 0, none⟩), undef, .pointer (some ⟨B11, 0, none⟩), undef, undef, .bool true, .bool false, .agg (pt x0 y0 z0 b0), .agg (pt x0 y0 z0 b0), .agg (k32 n1), .agg (pt x1 y1 z1 b1), .agg (pt x0 y0 z0 b0), .agg (k32 n2), undef, .agg (pt x0 y0 z0 b0), .agg (k32 n3), undef, undef, undef, undef, undef, undef, undef, undef, undef, undef, undef, undef, undef, undef, undef, undef, undef, undef, undef, undef, undef, undef, undef, undef, undef, undef, undef, undef, undef, undef, undef, undef, undef, undef, undef, undef, undef, undef, undef, undef, undef, undef, undef, undef, undef, undef, undef, undef, undef, undef, undef, undef, undef, undef, undef, undef, undef, undef, undef, undef, undef, undef, undef, undef, undef, undef, undef, undef, undef, undef, undef, undef, undef, undef], defers := [] } w' := by
      intro B9 B11 x1 y1 z1 b1 w' hbw hp1 hB9 mA9 hB11 mA11 hne9_11
      refine (hT _ _ _ _).2 ?_
      refine wpBut_r2 (i := 5) (j := 10) (by kernel_rfl) ?_ ?_
      refine go_call 5 21 #[tt,tt,tt,tt,tt,tt,tt,tt,ff,tt,ff,tt,ff,ff,ff] rfl rfl rfl (by rfl) rfl rfl (by rfl) ent56 (by rfl) (Hm2.out x0 y0 z0 b0 Hq0.out _) ?_
      rintro e w2 ⟨x2, y2, z2, b2, hp2, rfl, hb⟩
      have hk := held_next hbw hb
      have mA9 := mA9.call hb
      have mA11 := mA11.call hb
      refine ⟨_, rfl, fun _ => hk, ?_⟩
      (try simp only [sI, sS, sZ])
      exact (hT _ _ _ _).1 (St2_5_9_11 (B9) (B11) (x1) (y1) (z1) (b1) (x2) (y2) (z2) (b2) w2 hk hp1 hp2 hB9 mA9 hB11 mA11 hne9_11)
      refine go_alloc 10 9 #[tt,tt,tt,tt,tt,ff,tt,tt,ff,tt,tt,tt,ff,ff,ff] rfl rfl rfl (by rfl) 53 rfl _ al53 ?_
      intro w2 hw2
      have hk := (hbw).alloc (hbw).size (.cells z53 53)
      have hlt9 := mA9.lt
      have mA9 := mA9.alloc (.cells z53 53)
      have hlt11 := mA11.lt
      have mA11 := mA11.alloc (.cells z53 53)
      have mA10 := HasN.new (w') z53 53 13 (by kernel_rfl)
      have hB10 := (hbw).size
      rw [← hw2] at hk mA9 mA11 mA10
      have hne9_10 : B9 ≠ w'.heap.size := by omega
      have hne10_11 : w'.heap.size ≠ B11 := by omega
      clear hw2
      refine ⟨fun _ => hk, ?_⟩
      (try simp only [sI, sS, sZ])
      exact (hT _ _ _ _).1 (St2_9_10_11 (B9) (w'.heap.size) (B11) (x1) (y1) (z1) (b1) w2 hk hp1 hB9 mA9 hB10 mA10 hB11 mA11 hne9_10 hne9_11 hne10_11)
    have St2_9_10 : ∀ (B9 : Nat) (B10 : Nat) (x1 : Nat) (y1 : Nat) (z1 : Nat) (b1 : Bool) (w' : World), Below W7.heap.size W7 w' → PtA x1 y1 z1 b1 Pa → W7.heap.size ≤ B9 → HasN w' B9 13 53 → W7.heap.size ≤ B10 → HasN w' B10 13 53 → B9 ≠ B10 → T 6 #[tt,tt,tt,tt,tt,ff,tt,tt,ff,tt,tt,ff,ff,ff,ff] { tmps := #[.agg (k32 n1), .agg (k32 n2), .agg (k32 n3), .pointer (some ⟨w.heap.size, 0, none⟩), .pointer (some ⟨w.heap.size + 1, 0, none⟩), .pointer (some ⟨w.heap.size + 1 + 1, 0, none⟩), .bool false, .pointer (some ⟨B7, 0, none⟩), .pointer (some ⟨B9, 0, none⟩), .pointer (some ⟨B10, 0, none⟩), undef, undef, undef, .bool true, .bool false, .agg (pt x0 y0 z0 b0), .agg (pt x0 y0 z0 b0), .agg (k32 n1), .agg (pt x1 y1 z1 b1), .agg (pt x0 y0 z0 b0), .agg (k32 n2), undef, .agg (pt x0 y0 z0 b0), .agg (k32 n3), undef, undef, undef, undef, undef, undef, undef, undef, undef, undef, undef, undef, undef, undef, undef, undef, undef, undef, undef, undef, undef, undef, undef, undef, undef, undef, undef, undef, undef, undef, undef, undef, undef, undef, undef, undef, undef, undef, undef, undef, undef, undef, undef, undef, undef, undef, undef, undef, undef, undef, undef, undef, undef, undef, undef, undef, undef, undef, undef, undef, undef, undef, undef, undef, undef, undef, undef, undef, undef, undef, undef, undef, undef, undef], defers := [] } w' := by
      intro B9 B10 x1 y1 z1 b1 w' hbw hp1 hB9 mA9 hB10 mA10 hne9_10
      refine (hT _ _ _ _).2 ?_
      refine wpBut_r2 (i := 5) (j := 11) (by kernel_rfl) ?_ ?_
      refine go_call 5 21 #[tt,tt,tt,tt,tt,tt,tt,tt,ff,tt,tt,ff,ff,ff,ff] rfl rfl rfl (by rfl) rfl rfl (by rfl) ent56 (by rfl) (Hm2.out x0 y0 z0 b0 Hq0.out _) ?_
      rintro e w2 ⟨x2, y2, z2, b2, hp2, rfl, hb⟩
      have hk := held_next hbw hb
      have mA9 := mA9.call hb
      have mA10 := mA10.call hb
      refine ⟨_, rfl, fun _ => hk, ?_⟩
      (try simp only [sI, sS, sZ])
      exact (hT _ _ _ _).1 (St2_5_9_10 (B9) (B10) (x1) (y1) (z1) (b1) (x2) (y2) (z2) (b2) w2 hk hp1 hp2 hB9 mA9 hB10 mA10 hne9_10)
      refine go_alloc 11 10 #[tt,tt,tt,tt,tt,ff,tt,tt,ff,tt,tt,tt,ff,ff,ff] rfl rfl rfl (by rfl) 53 rfl _ al53 ?_
      intro w2 hw2
      have hk := (hbw).alloc (hbw).size (.cells z53 53)
      have hlt9 := mA9.lt
      have mA9 := mA9.alloc (.cells z53 53)
      have hlt10 := mA10.lt
      have mA10 := mA10.alloc (.cells z53 53)
      have mA11 := HasN.new (w') z53 53 13 (by kernel_rfl)
      have hB11 := (hbw).size
      rw [← hw2] at hk mA9 mA10 mA11
      have hne9_11 : B9 ≠ w'.heap.size := by omega
      have hne10_11 : B10 ≠ w'.heap.size := by omega
      clear hw2
      refine ⟨fun _ => hk, ?_⟩
      (try simp only [sI, sS, sZ])
      exact (hT _ _ _ _).1 (St2_9_10_11 (B9) (B10) (w'.heap.size) (x1) (y1) (z1) (b1) w2 hk hp1 hB9 mA9 hB10 mA10 hB11 mA11 hne9_10 hne9_11 hne10_11)
    have St2_5_11 : ∀ (B11 : Nat) (x1 : Nat) (y1 : Nat) (z1 : Nat) (b1 : Bool) (x2 : Nat) (y2 : Nat) (z2 : Nat) (b2 : Bool) (w' : World), Below W7.heap.size W7 w' → PtA x1 y1 z1 b1 Pa → PtA x2 y2 z2 b2 Pb → W7.heap.size ≤ B11 → HasN w' B11 13 53 → T 6 #[tt,tt,tt,tt,tt,tt,tt,tt,ff,ff,ff,tt,ff,ff,ff] { tmps := #[.agg (k32 n1), .agg (k32 n2), .agg (k32 n3), .pointer (some ⟨w.heap.size, 0, none⟩), .pointer (some ⟨w.heap.size + 1, 0, none⟩), .pointer (some ⟨w.heap.size + 1 + 1, 0, none⟩), .bool false, .pointer (some ⟨B7, 0, none⟩), undef, undef, .pointer (some ⟨B11, 0, none⟩), undef, undef, .bool true, .bool false, .agg (pt x0 y0 z0 b0), .agg (pt x0 y0 z0 b0), .agg (k32 n1), .agg (pt x1 y1 z1 b1), .agg (pt x0 y0 z0 b0), .agg (k32 n2), .agg (pt x2 y2 z2 b2), .agg (pt x0 y0 z0 b0), .agg (k32 n3), undef, undef, undef, undef, undef, undef, undef, undef, undef, undef, undef, undef, undef, undef, undef, undef, undef, undef, undef, undef, undef, undef, undef, undef, undef, undef, undef, undef, undef, undef, undef, undef, undef, undef, undef, undef, undef, undef, undef, undef, undef, undef, undef, undef, undef, undef, undef, undef, undef, undef, undef, undef, undef, undef, undef, undef, undef, undef, undef, undef, undef, undef, undef, undef, undef, undef, undef, undef, undef, undef, undef, undef, undef, undef], defers := [] } w' := by
      intro B11 x1 y1 z1 b1 x2 y2 z2 b2 w' hbw hp1 hp2 hB11 mA11
      refine (hT _ _ _ _).2 ?_
      refine wpBut_r3 (i := 8) (j := 9) (l := 10) (by kernel_rfl) ?_ ?_ ?_
      refine go_call 8 24 #[tt,tt,tt,tt,tt,tt,tt,tt,tt,ff,ff,tt,ff,ff,ff] rfl rfl rfl (by rfl) rfl rfl (by rfl) ent56 (by rfl) (Hm3.out x0 y0 z0 b0 Hq0.out _) ?_
      rintro e w2 ⟨x3, y3, z3, b3, hp3, rfl, hb⟩
      have hk := held_next hbw hb
      have mA11 := mA11.call hb
      refine ⟨_, rfl, fun _ => hk, ?_⟩
      (try simp only [sI, sS, sZ])
      exact (hT _ _ _ _).1 (St2_5_8_11 (B11) (x1) (y1) (z1) (b1) (x2) (y2) (z2) (b2) (x3) (y3) (z3) (b3) w2 hk hp1 hp2 hp3 hB11 mA11)
      refine go_alloc 9 8 #[tt,tt,tt,tt,tt,tt,tt,tt,ff,tt,ff,tt,ff,ff,ff] rfl rfl rfl (by rfl) 53 rfl _ al53 ?_
      intro w2 hw2
      have hk := (hbw).alloc (hbw).size (.cells z53 53)
      have hlt11 := mA11.lt
      have mA11 := mA11.alloc (.cells z53 53)
      have mA9 := HasN.new (w') z53 53 13 (by kernel_rfl)
      have hB9 := (hbw).size
      rw [← hw2] at hk mA11 mA9
      have hne9_11 : w'.heap.size ≠ B11 := by omega
      clear hw2
      refine ⟨fun _ => hk, ?_⟩
      (try simp only [sI, sS, sZ])
      exact (hT _ _ _ _).1 (St2_5_9_11 (w'.heap.size) (B11) (x1) (y1) (z1) (b1) (x2) (y2) (z2) (b2) w2 hk hp1 hp2 hB9 mA9 hB11 mA11 hne9_11)
      refine go_alloc 10 9 #[tt,tt,tt,tt,tt,tt,tt,tt,ff,ff,tt,tt,ff,ff,ff] rfl rfl rfl (by rfl) 53 rfl _ al53 ?_
      intro w2 hw2
      have hk := (hbw).alloc (hbw).size (.cells z53 53)
      have hlt11 := mA11.lt
      have mA11 := mA11.alloc (.cells z53 53)
      have mA10 := HasN.new (w') z53 53 13 (by kernel_rfl)
      have hB10 := (hbw).size
      rw [← hw2] at hk mA11 mA10
      have hne10_11 : w'.heap.size ≠ B11 := by omega
      clear hw2
      refine ⟨fun _ => hk, ?_⟩
      (try simp only [sI, sS, sZ])
      exact (hT _ _ _ _).1 (St2_5_10_11 (w'.heap.size) (B11) (x1) (y1) (z1) (b1) (x2) (y2) (z2) (b2) w2 hk hp1 hp2 hB10 mA10 hB11 mA11 hne10_11)
    have St2_5_10 : ∀ (B10 : Nat) (x1 : Nat) (y1 : Nat) (z1 : Nat) (b1 : Bool) (x2 : Nat) (y2 : Nat) (z2 : Nat) (b2 : Bool) (w' : World), Below W7.heap.size W7 w' → PtA x1 y1 z1 b1 Pa → PtA x2 y2 z2 b2 Pb → W7.heap.size ≤ B10 → HasN w' B10 13 53 → T 6 #[tt,tt,tt,tt,tt,tt,tt,tt,ff,ff,tt,ff,ff,ff,ff] { tmps := #[.agg (k32 n1), .agg (k32 n2), .agg (k32 n3), .pointer (some ⟨w.heap.size, 0, none⟩), .pointer (some ⟨w.heap.size + 1, 0, none⟩), .pointer (some ⟨w.heap.size + 1 + 1, 0, none⟩), .bool false, .pointer (some ⟨B7, 0, none⟩), undef, .pointer (some ⟨B10, 0, none⟩), undef, undef, undef, .bool true, .bool false, .agg (pt x0 y0 z0 b0), .agg (pt x0 y0 z0 b0), .agg (k32 n1), .agg (pt x1 y1 z1 b1), .agg (pt x0 y0 z0 b0), .agg (k32 n2), .agg (pt x2 y2 z2 b2), .agg (pt x0 y0 z0 b0), .agg (k32 n3), undef, undef, undef, undef, undef, undef, undef, undef, undef, undef, undef, undef, undef, undef, undef, undef, undef, undef, undef, undef, undef, undef, undef, undef, undef, undef, undef, undef, undef, undef, undef, undef, undef, undef, undef, undef, undef, undef, undef, undef, undef, undef, undef, undef, undef, undef, undef, undef, undef, undef, undef, undef, undef, undef, undef, undef, undef, undef, undef, undef, undef, undef, undef, undef, undef, undef, undef, undef, undef, undef, undef, undef, undef, undef], defers := [] } w' := by
      intro B10 x1 y1 z1 b1 x2 y2 z2 b2 w' hbw hp1 hp2 hB10 mA10
      refine (hT _ _ _ _).2 ?_
      refine wpBut_r3 (i := 8) (j := 9) (l := 11) (by kernel_rfl) ?_ ?_ ?_
      refine go_call 8 24 #[tt,tt,tt,tt,tt,tt,tt,tt,tt,ff,tt,ff,ff,ff,ff] rfl rfl rfl (by rfl) rfl rfl (by rfl) ent56 (by rfl) (Hm3.out x0 y0 z0 b0 Hq0.out _) ?_
      rintro e w2 ⟨x3, y3, z3, b3, hp3, rfl, hb⟩
      have hk := held_next hbw hb
      have mA10 := mA10.call hb
      refine ⟨_, rfl, fun _ => hk, ?_⟩
      (try simp only [sI, sS, sZ])
      exact (hT _ _ _ _).1 (St2_5_8_10 (B10) (x1) (y1) (z1) (b1) (x2) (y2) (z2) (b2) (x3) (y3) (z3) (b3) w2 hk hp1 hp2 hp3 hB10 mA10)
      refine go_alloc 9 8 #[tt,tt,tt,tt,tt,tt,tt,tt,ff,tt,tt,ff,ff,ff,ff] rfl rfl rfl (by rfl) 53 rfl _ al53 ?_
      intro w2 hw2
      have hk := (hbw).alloc (hbw).size (.cells z53 53)
      have hlt10 := mA10.lt
      have mA10 := mA10.alloc (.cells z53 53)
      have mA9 := HasN.new (w') z53 53 13 (by kernel_rfl)
      have hB9 := (hbw).size
      rw [← hw2] at hk mA10 mA9
      have hne9_10 : w'.heap.size ≠ B10 := by omega
      clear hw2
      refine ⟨fun _ => hk, ?_⟩
      (try simp only [sI, sS, sZ])
      exact (hT _ _ _ _).1 (St2_5_9_10 (w'.heap.size) (B10) (x1) (y1) (z1) (b1) (x2) (y2) (z2) (b2) w2 hk hp1 hp2 hB9 mA9 hB10 mA10 hne9_10)
      refine go_alloc 11 10 #[tt,tt,tt,tt,tt,tt,tt,tt,ff,ff,tt,tt,ff,ff,ff] rfl rfl rfl (by rfl) 53 rfl _ al53 ?_
      intro w2 hw2
      have hk := (hbw).alloc (hbw).size (.cells z53 53)
      have hlt10 := mA10.lt
      have mA10 := mA10.alloc (.cells z53 53)
      have mA11 := HasN.new (w') z53 53 13 (by kernel_rfl)
      have hB11 := (hbw).size
      rw [← hw2] at hk mA10 mA11
      have hne10_11 : B10 ≠ w'.heap.size := by omega
      clear hw2
      refine ⟨fun _ => hk, ?_⟩
      (try simp only [sI, sS, sZ])
      exact (hT _ _ _ _).1 (St2_5_10_11 (B10) (w'.heap.size) (x1) (y1) (z1) (b1) (x2) (y2) (z2) (b2) w2 hk hp1 hp2 hB10 mA10 hB11 mA11 hne10_11)
    have St2_5_9 : ∀ (B9 : Nat) (x1 : Nat) (y1 : Nat) (z1 : Nat) (b1 : Bool) (x2 : Nat) (y2 : Nat) (z2 : Nat) (b2 : Bool) (w' : World), Below W7.heap.size W7 w' → PtA x1 y1 z1 b1 Pa → PtA x2 y2 z2 b2 Pb → W7.heap.size ≤ B9 → HasN w' B9 13 53 → T 6 #[tt,tt,tt,tt,tt,tt,tt,tt,ff,tt,ff,ff,ff,ff,ff] { tmps := #[.agg (k32 n1), .agg (k32 n2), .agg (k32 n3), .pointer (some ⟨w.heap.size, 0, none⟩), .pointer (some ⟨w.heap.size + 1, 0, none⟩), .pointer (some ⟨w.heap.size + 1 + 1, 0, none⟩), .bool false, .pointer (some ⟨B7, 0, none⟩), .pointer (some ⟨B9, 0, none⟩), undef, undef, undef, undef, .bool true, .bool false, .agg (pt x0 y0 z0 b0), .agg (pt x0 y0 z0 b0), .agg (k32 n1), .agg (pt x1 y1 z1 b1), .agg (pt x0 y0 z0 b0), .agg (k32 n2), .agg (pt x2 y2 z2 b2), .agg (pt x0 y0 z0 b0), .agg (k32 n3), undef, undef, undef, undef, undef, undef, undef, undef, undef, undef, undef, undef, undef, undef, undef, undef, undef, undef, undef, undef, undef, undef, undef, undef, undef, undef, undef, undef, undef, undef, undef, undef, undef, undef, undef, undef, undef, undef, undef, undef, undef, undef, undef, undef, undef, undef, undef, undef, undef, undef, undef, undef, undef, undef, undef, undef, undef, undef, undef, undef, undef, undef, undef, undef, undef, undef, undef, undef, undef, undef, undef, undef, undef, undef], defers := [] } w' := by
      intro B9 x1 y1 z1 b1 x2 y2 z2 b2 w' hbw hp1 hp2 hB9 mA9
      refine (hT _ _ _ _).2 ?_
      refine wpBut_r3 (i := 8) (j := 10) (l := 11) (by kernel_rfl) ?_ ?_ ?_
      refine go_call 8 24 #[tt,tt,tt,tt,tt,tt,tt,tt,tt,tt,ff,ff,ff,ff,ff] rfl rfl rfl (by rfl) rfl rfl (by rfl) ent56 (by rfl) (Hm3.out x0 y0 z0 b0 Hq0.out _) ?_
      rintro e w2 ⟨x3, y3, z3, b3, hp3, rfl, hb⟩
      have hk := held_next hbw hb
      have mA9 := mA9.call hb
      refine ⟨_, rfl, fun _ => hk, ?_⟩
      (try simp only [sI, sS, sZ])
      exact (hT _ _ _ _).1 (St2_5_8_9 (B9) (x1) (y1) (z1) (b1) (x2) (y2) (z2) (b2) (x3) (y3) (z3) (b3) w2 hk hp1 hp2 hp3 hB9 mA9)
      refine go_alloc 10 9 #[tt,tt,tt,tt,tt,tt,tt,tt,ff,tt,tt,ff,ff,ff,ff] rfl rfl rfl (by rfl) 53 rfl _ al53 ?_
      intro w2 hw2
      have hk := (hbw).alloc (hbw).size (.cells z53 53)
      have hlt9 := mA9.lt
      have mA9 := mA9.alloc (.cells z53 53)
      have mA10 := HasN.new (w') z53 53 13 (by kernel_rfl)
      have hB10 := (hbw).size
      rw [← hw2] at hk mA9 mA10
      have hne9_10 : B9 ≠ w'.heap.size := by omega
      clear hw2
      refine ⟨fun _ => hk, ?_⟩
      (try simp only [sI, sS, sZ])
      exact (hT _ _ _ _).1 (St2_5_9_10 (B9) (w'.heap.size) (x1) (y1) (z1) (b1) (x2) (y2) (z2) (b2) w2 hk hp1 hp2 hB9 mA9 hB10 mA10 hne9_10)
      refine go_alloc 11 10 #[tt,tt,tt,tt,tt,tt,tt,tt,ff,tt,ff,tt,ff,ff,ff] rfl rfl rfl (by rfl) 53 rfl _ al53 ?_
      intro w2 hw2
      have hk := (hbw).alloc (hbw).size (.cells z53 53)
      have hlt9 := mA9.lt
      have mA9 := mA9.alloc (.cells z53 53)
      have mA11 := HasN.new (w') z53 53 13 (by kernel_rfl)
      have hB11 := (hbw).size
      rw [← hw2] at hk mA9 mA11
      have hne9_11 : B9 ≠ w'.heap.size := by omega
      clear hw2
      refine ⟨fun _ => hk, ?_⟩
      (try simp only [sI, sS, sZ])
      exact (hT _ _ _ _).1 (St2_5_9_11 (B9) (w'.heap.size) (x1) (y1) (z1) (b1) (x2) (y2) (z2) (b2) w2 hk hp1 hp2 hB9 mA9 hB11 mA11 hne9_11)
    have St2_5_8 : ∀ (x1 : Nat) (y1 : Nat) (z1 : Nat) (b1 : Bool) (x2 : Nat) (y2 : Nat) (z2 : Nat) (b2 : Bool) (x3 : Nat) (y3 : Nat) (z3 : Nat) (b3 : Bool) (w' : World), Below W7.heap.size W7 w' → PtA x1 y1 z1 b1 Pa → PtA x2 y2 z2 b2 Pb → PtA x3 y3 z3 b3 Pc → T 6 #[tt,tt,tt,tt,tt,tt,tt,tt,tt,ff,ff,ff,ff,ff,ff] { tmps := #[.agg (k32 n1), .agg (k32 n2), .agg (k32 n3), .pointer (some ⟨w.heap.size, 0, none⟩), .pointer (some ⟨w.heap.size + 1, 0, none⟩), .pointer (some ⟨w.heap.size + 1 + 1, 0, none⟩), .bool false, .pointer (some ⟨B7, 0, none⟩), undef, undef, undef, undef, undef, .bool true, .bool false, .agg (pt x0 y0 z0 b0), .agg (pt x0 y0 z0 b0), .agg (k32 n1), .agg (pt x1 y1 z1 b1), .agg (pt x0 y0 z0 b0), .agg (k32 n2), .agg (pt x2 y2 z2 b2), .agg (pt x0 y0 z0 b0), .agg (k32 n3), .agg (pt x3 y3 z3 b3), undef, undef, undef, undef, undef, undef, undef, undef, undef, undef, undef, undef, undef, undef, undef, undef, undef, undef, undef, undef, undef, undef, undef, undef, undef, undef, undef, undef, undef, undef, undef, undef, undef, undef, undef, undef, undef, undef, undef, undef, undef, undef, undef, undef, undef, undef, undef, undef, undef, undef, undef, undef, undef, undef, undef, undef, undef, undef, undef, undef, undef, undef, undef, undef, undef, undef, undef, undef, undef, undef, undef, undef, undef], defers := [] } w' := by
      intro x1 y1 z1 b1 x2 y2 z2 b2 x3 y3 z3 b3 w' hbw hp1 hp2 hp3
      refine (hT _ _ _ _).2 ?_
      refine wpBut_r3 (i := 9) (j := 10) (l := 11) (by kernel_rfl) ?_ ?_ ?_
      refine go_alloc 9 8 #[tt,tt,tt,tt,tt,tt,tt,tt,tt,tt,ff,ff,ff,ff,ff] rfl rfl rfl (by rfl) 53 rfl _ al53 ?_
      intro w2 hw2
      have hk := (hbw).alloc (hbw).size (.cells z53 53)
      have mA9 := HasN.new (w') z53 53 13 (by kernel_rfl)
      have hB9 := (hbw).size
      rw [← hw2] at hk mA9
      clear hw2
      refine ⟨fun _ => hk, ?_⟩
      (try simp only [sI, sS, sZ])
      exact (hT _ _ _ _).1 (St2_5_8_9 (w'.heap.size) (x1) (y1) (z1) (b1) (x2) (y2) (z2) (b2) (x3) (y3) (z3) (b3) w2 hk hp1 hp2 hp3 hB9 mA9)
      refine go_alloc 10 9 #[tt,tt,tt,tt,tt,tt,tt,tt,tt,ff,tt,ff,ff,ff,ff] rfl rfl rfl (by rfl) 53 rfl _ al53 ?_
      intro w2 hw2
      have hk := (hbw).alloc (hbw).size (.cells z53 53)
      have mA10 := HasN.new (w') z53 53 13 (by kernel_rfl)
      have hB10 := (hbw).size
      rw [← hw2] at hk mA10
      clear hw2
      refine ⟨fun _ => hk, ?_⟩
      (try simp only [sI, sS, sZ])
      exact (hT _ _ _ _).1 (St2_5_8_10 (w'.heap.size) (x1) (y1) (z1) (b1) (x2) (y2) (z2) (b2) (x3) (y3) (z3) (b3) w2 hk hp1 hp2 hp3 hB10 mA10)
      refine go_alloc 11 10 #[tt,tt,tt,tt,tt,tt,tt,tt,tt,ff,ff,tt,ff,ff,ff] rfl rfl rfl (by rfl) 53 rfl _ al53 ?_
      intro w2 hw2
      have hk := (hbw).alloc (hbw).size (.cells z53 53)
      have mA11 := HasN.new (w') z53 53 13 (by kernel_rfl)
      have hB11 := (hbw).size
      rw [← hw2] at hk mA11
      clear hw2
      refine ⟨fun _ => hk, ?_⟩
      (try simp only [sI, sS, sZ])
      exact (hT _ _ _ _).1 (St2_5_8_11 (w'.heap.size) (x1) (y1) (z1) (b1) (x2) (y2) (z2) (b2) (x3) (y3) (z3) (b3) w2 hk hp1 hp2 hp3 hB11 mA11)
    have St10_11 : ∀ (B10 B11 : Nat) (w' : World), Below W7.heap.size W7 w' → W7.heap.size ≤ B10 → HasN w' B10 13 53 → W7.heap.size ≤ B11 → HasN w' B11 13 53 → B10 ≠ B11 → T 7 #[tt,tt,ff,tt,tt,ff,tt,tt,ff,ff,tt,tt,ff,ff,ff] { tmps := #[.agg (k32 n1), .agg (k32 n2), .agg (k32 n3), .pointer (some ⟨w.heap.size, 0, none⟩), .pointer (some ⟨w.heap.size + 1, 0, none⟩), .pointer (some ⟨w.heap.size + 1 + 1, 0, none⟩), .bool false, .pointer (some ⟨B7, 0, none⟩), undef, .pointer (some ⟨B10, 0, none⟩), .pointer (some ⟨B11, 0, none⟩), undef, undef, .bool true, .bool false, .agg (pt x0 y0 z0 b0), .agg (pt x0 y0 z0 b0), .agg (k32 n1), undef, .agg (pt x0 y0 z0 b0), .agg (k32 n2), undef, .agg (pt x0 y0 z0 b0), .agg (k32 n3), undef, undef, undef, undef, undef, undef, undef, undef, undef, undef, undef, undef, undef, undef, undef, undef, undef, undef, undef, undef, undef, undef, undef, undef, undef, undef, undef, undef, undef, undef, undef, undef, undef, undef, undef, undef, undef, undef, undef, undef, undef, undef, undef, undef, undef, undef, undef, undef, undef, undef, undef, undef, undef, undef, undef, undef, undef, undef, undef, undef, undef, undef, undef, undef, undef, undef, undef, undef, undef, undef, undef, undef, undef, undef], defers := [] } w' := by
      intro B10 B11 w' hbw hB10 mA10 hB11 mA11 hne10_11
      refine (hT _ _ _ _).2 ?_
      refine wpBut_r2 (i := 2) (j := 9) (by kernel_rfl) ?_ ?_
      refine go_call 2 18 #[tt,tt,tt,tt,tt,ff,tt,tt,ff,ff,tt,tt,ff,ff,ff] rfl rfl rfl (by rfl) rfl rfl (by rfl) ent56 (by rfl) (Hm1.out x0 y0 z0 b0 Hq0.out _) ?_
      rintro e w2 ⟨x1, y1, z1, b1, hp1, rfl, hb⟩
      have hk := held_next hbw hb
      have mA10 := mA10.call hb
      have mA11 := mA11.call hb
      refine ⟨_, rfl, fun _ => hk, ?_⟩
      (try simp only [sI, sS, sZ])
      exact (hT _ _ _ _).1 (St2_10_11 (B10) (B11) (x1) (y1) (z1) (b1) w2 hk hp1 hB10 mA10 hB11 mA11 hne10_11)
      refine go_alloc 9 8 #[tt,tt,ff,tt,tt,ff,tt,tt,ff,tt,tt,tt,ff,ff,ff] rfl rfl rfl (by rfl) 53 rfl _ al53 ?_
      intro w2 hw2
      have hk := (hbw).alloc (hbw).size (.cells z53 53)
      have hlt10 := mA10.lt
      have mA10 := mA10.alloc (.cells z53 53)
      have hlt11 := mA11.lt
      have mA11 := mA11.alloc (.cells z53 53)
      have mA9 := HasN.new (w') z53 53 13 (by kernel_rfl)
      have hB9 := (hbw).size
      rw [← hw2] at hk mA10 mA11 mA9
      have hne9_10 : w'.heap.size ≠ B10 := by omega
      have hne9_11 : w'.heap.size ≠ B11 := by omega
      clear hw2
      refine ⟨fun _ => hk, ?_⟩
      (try simp only [sI, sS, sZ])
      exact (hT _ _ _ _).1 (St9_10_11 (w'.heap.size) (B10) (B11) w2 hk hB9 mA9 hB10 mA10 hB11 mA11 hne9_10 hne9_11 hne10_11)
    have St9_11 : ∀ (B9 B11 : Nat) (w' : World), Below W7.heap.size W7 w' → W7.heap.size ≤ B9 → HasN w' B9 13 53 → W7.heap.size ≤ B11 → HasN w' B11 13 53 → B9 ≠ B11 → T 7 #[tt,tt,ff,tt,tt,ff,tt,tt,ff,tt,ff,tt,ff,ff,ff] { tmps := #[.agg (k32 n1), .agg (k32 n2), .agg (k32 n3), .pointer (some ⟨w.heap.size, 0, none⟩), .pointer (some ⟨w.heap.size + 1, 0, none⟩), .pointer (some ⟨w.heap.size + 1 + 1, 0, none⟩), .bool false, .pointer (some ⟨B7, 0, none⟩), .pointer (some ⟨B9, 0, none⟩), undef, .pointer (some ⟨B11, 0, none⟩), undef, undef, .bool true, .bool false, .agg (pt x0 y0 z0 b0), .agg (pt x0 y0 z0 b0), .agg (k32 n1), undef, .agg (pt x0 y0 z0 b0), .agg (k32 n2), undef, .agg (pt x0 y0 z0 b0), .agg (k32 n3), undef, undef, undef, undef, undef, undef, undef, undef, undef, undef, undef, undef, undef, undef, undef, undef, undef, undef, undef, undef, undef, undef, undef, undef, undef, undef, undef, undef, undef, undef, undef, undef, undef, undef, undef, undef, undef, undef, undef, undef, undef, undef, undef, undef, undef, undef, undef, undef, undef, undef, undef, undef, undef, undef, undef, undef, undef, undef, undef, undef, undef, undef, undef, undef, undef, undef, undef, undef, undef, undef, undef, undef, undef, undef], defers := [] } w' := by
      intro B9 B11 w' hbw hB9 mA9 hB11 mA11 hne9_11
      refine (hT _ _ _ _).2 ?_
      refine wpBut_r2 (i := 2) (j := 10) (by kernel_rfl) ?_ ?_
      refine go_call 2 18 #[tt,tt,tt,tt,tt,ff,tt,tt,ff,tt,ff,tt,ff,ff,ff] rfl rfl rfl (by rfl) rfl rfl (by rfl) ent56 (by rfl) (Hm1.out x0 y0 z0 b0 Hq0.out _) ?_
      rintro e w2 ⟨x1, y1, z1, b1, hp1, rfl, hb⟩
      have hk := held_next hbw hb
      have mA9 := mA9.call hb
      have mA11 := mA11.call hb
      refine ⟨_, rfl, fun _ => hk, ?_⟩
      (try simp only [sI, sS, sZ])
      exact (hT _ _ _ _).1 (St2_9_11 (B9) (B11) (x1) (y1) (z1) (b1) w2 hk hp1 hB9 mA9 hB11 mA11 hne9_11)
      refine go_alloc 10 9 #[tt,tt,ff,tt,tt,ff,tt,tt,ff,tt,tt,tt,ff,ff,ff] rfl rfl rfl (by rfl) 53 rfl _ al53 ?_
      intro w2 hw2
      have hk := (hbw).alloc (hbw).size (.cells z53 53)
      have hlt9 := mA9.lt
      have mA9 := mA9.alloc (.cells z53 53)
      have hlt11 := mA11.lt
      have mA11 := mA11.alloc (.cells z53 53)
      have mA10 := HasN.new (w') z53 53 13 (by kernel_rfl)
      have hB10 := (hbw).size
      rw [← hw2] at hk mA9 mA11 mA10
      have hne9_10 : B9 ≠ w'.heap.size := by omega
      have hne10_11 : w'.heap.size ≠ B11 := by omega
      clear hw2
      refine ⟨fun _ => hk, ?_⟩
      (try simp only [sI, sS, sZ])
      exact (hT _ _ _ _).1 (St9_10_11 (B9) (w'.heap.size) (B11) w2 hk hB9 mA9 hB10 mA10 hB11 mA11 hne9_10 hne9_11 hne10_11)
    have St9_10 : ∀ (B9 B10 : Nat) (w' : World), Below W7.heap.size W7 w' → W7.heap.size ≤ B9 → HasN w' B9 13 53 → W7.heap.size ≤ B10 → HasN w' B10 13 53 → B9 ≠ B10 → T 7 #[tt,tt,ff,tt,tt,ff,tt,tt,ff,tt,tt,ff,ff,ff,ff] { tmps := #[.agg (k32 n1), .agg (k32 n2), .agg (k32 n3), .pointer (some ⟨w.heap.size, 0, none⟩), .pointer (some ⟨w.heap.size + 1, 0, none⟩), .pointer (some ⟨w.heap.size + 1 + 1, 0, none⟩), .bool false, .pointer (some ⟨B7, 0, none⟩), .pointer (some ⟨B9, 0, none⟩), .pointer (some ⟨B10, 0, none⟩), undef, undef, undef, .bool true, .bool false, .agg (pt x0 y0 z0 b0), .agg (pt x0 y0 z0 b0), .agg (k32 n1), undef, .agg (pt x0 y0 z0 b0), .agg (k32 n2), undef, .agg (pt x0 y0 z0 b0), .agg (k32 n3), undef, undef, undef, undef, undef, undef, undef, undef, undef, undef, undef, undef, undef, undef, undef, undef, undef, undef, undef, undef, undef, undef, undef, undef, undef, undef, undef, undef, undef, undef, undef, undef, undef, undef, undef, undef, undef, undef, undef, undef, undef, undef, undef, undef, undef, undef, undef, undef, undef, undef, undef, undef, undef, undef, undef, undef, undef, undef, undef, undef, undef, undef, undef, undef, undef, undef, undef, undef, undef, undef, undef, undef, undef, undef], defers := [] } w' := by
      intro B9 B10 w' hbw hB9 mA9 hB10 mA10 hne9_10
      refine (hT _ _ _ _).2 ?_
      refine wpBut_r2 (i := 2) (j := 11) (by kernel_rfl) ?_ ?_
      refine go_call 2 18 #[tt,tt,tt,tt,tt,ff,tt,tt,ff,tt,tt,ff,ff,ff,ff] rfl rfl rfl (by rfl) rfl rfl (by rfl) ent56 (by rfl) (Hm1.out x0 y0 z0 b0 Hq0.out _) ?_
      rintro e w2 ⟨x1, y1, z1, b1, hp1, rfl, hb⟩
      have hk := held_next hbw hb
      have mA9 := mA9.call hb
      have mA10 := mA10.call hb
      refine ⟨_, rfl, fun _ => hk, ?_⟩
      (try simp only [sI, sS, sZ])
      exact (hT _ _ _ _).1 (St2_9_10 (B9) (B10) (x1) (y1) (z1) (b1) w2 hk hp1 hB9 mA9 hB10 mA10 hne9_10)
      refine go_alloc 11 10 #[tt,tt,ff,tt,tt,ff,tt,tt,ff,tt,tt,tt,ff,ff,ff] rfl rfl rfl (by rfl) 53 rfl _ al53 ?_
      intro w2 hw2
      have hk := (hbw).alloc (hbw).size (.cells z53 53)
      have hlt9 := mA9.lt
      have mA9 := mA9.alloc (.cells z53 53)
      have hlt10 := mA10.lt
      have mA10 := mA10.alloc (.cells z53 53)
      have mA11 := HasN.new (w') z53 53 13 (by kernel_rfl)
      have hB11 := (hbw).size
      rw [← hw2] at hk mA9 mA10 mA11
      have hne9_11 : B9 ≠ w'.heap.size := by omega
      have hne10_11 : B10 ≠ w'.heap.size := by omega
      clear hw2
      refine ⟨fun _ => hk, ?_⟩
      (try simp only [sI, sS, sZ])
      exact (hT _ _ _ _).1 (St9_10_11 (B9) (B10) (w'.heap.size) w2 hk hB9 mA9 hB10 mA10 hB11 mA11 hne9_10 hne9_11 hne10_11)
    have St2_11 : ∀ (B11 : Nat) (x1 : Nat) (y1 : Nat) (z1 : Nat) (b1 : Bool) (w' : World), Below W7.heap.size W7 w' → PtA x1 y1 z1 b1 Pa → W7.heap.size ≤ B11 → HasN w' B11 13 53 → T 7 #[tt,tt,tt,tt,tt,ff,tt,tt,ff,ff,ff,tt,ff,ff,ff] { tmps := #[.agg (k32 n1), .agg (k32 n2), .agg (k32 n3), .pointer (some ⟨w.heap.size, 0, none⟩), .pointer (some ⟨w.heap.size + 1, 0, none⟩), .pointer (some ⟨w.heap.size + 1 + 1, 0, none⟩), .bool false, .pointer (some ⟨B7, 0, none⟩), undef, undef, .pointer (some ⟨B11, 0, none⟩), undef, undef, .bool true, .bool false, .agg (pt x0 y0 z0 b0), .agg (pt x0 y0 z0 b0), .agg (k32 n1), .agg (pt x1 y1 z1 b1), .agg (pt x0 y0 z0 b0), .agg (k32 n2), undef, .agg (pt x0 y0 z0 b0), .agg (k32 n3), undef, undef, undef, undef, undef, undef, undef, undef, undef, undef, undef, undef, undef, undef, undef, undef, undef, undef, undef, undef, undef, undef, undef, undef, undef, undef, undef, undef, undef, undef, undef, undef, undef, undef, undef, undef, undef, undef, undef, undef, undef, undef, undef, undef, undef, undef, undef, undef, undef, undef, undef, undef, undef, undef, undef, undef, undef, undef, undef, undef, undef, undef, undef, undef, undef, undef, undef, undef, undef, undef, undef, undef, undef, undef], defers := [] } w' := by
      intro B11 x1 y1 z1 b1 w' hbw hp1 hB11 mA11
      refine (hT _ _ _ _).2 ?_
      refine wpBut_r3 (i := 5) (j := 9) (l := 10) (by kernel_rfl) ?_ ?_ ?_
      refine go_call 5 21 #[tt,tt,tt,tt,tt,tt,tt,tt,ff,ff,ff,tt,ff,ff,ff] rfl rfl rfl (by rfl) rfl rfl (by rfl) ent56 (by rfl) (Hm2.out x0 y0 z0 b0 Hq0.out _) ?_
      rintro e w2 ⟨x2, y2, z2, b2, hp2, rfl, hb⟩
      have hk := held_next hbw hb
      have mA11 := mA11.call hb
      refine ⟨_, rfl, fun _ => hk, ?_⟩
      (try simp only [sI, sS, sZ])
      exact (hT _ _ _ _).1 (St2_5_11 (B11) (x1) (y1) (z1) (b1) (x2) (y2) (z2) (b2) w2 hk hp1 hp2 hB11 mA11)
      refine go_alloc 9 8 #[tt,tt,tt,tt,tt,ff,tt,tt,ff,tt,ff,tt,ff,ff,ff] rfl rfl rfl (by rfl) 53 rfl _ al53 ?_
      intro w2 hw2
      have hk := (hbw).alloc (hbw).size (.cells z53 53)
      have hlt11 := mA11.lt
      have mA11 := mA11.alloc (.cells z53 53)
      have mA9 := HasN.new (w') z53 53 13 (by kernel_rfl)
      have hB9 := (hbw).size
      rw [← hw2] at hk mA11 mA9
      have hne9_11 : w'.heap.size ≠ B11 := by omega
      clear hw2
      refine ⟨fun _ => hk, ?_⟩
      (try simp only [sI, sS, sZ])
      exact (hT _ _ _ _).1 (St2_9_11 (w'.heap.size) (B11) (x1) (y1) (z1) (b1) w2 hk hp1 hB9 mA9 hB11 mA11 hne9_11)
      refine go_alloc 10 9 #[tt,tt,tt,tt,tt,ff,tt,tt,ff,ff,tt,tt,ff,ff,ff] rfl rfl rfl (by rfl) 53 rfl _ al53 ?_
      intro w2 hw2
      have hk := (hbw).alloc (hbw).size (.cells z53 53)
      have hlt11 := mA11.lt
      have mA11 := mA11.alloc (.cells z53 53)
      have mA10 := HasN.new (w') z53 53 13 (by kernel_rfl)
      have hB10 := (hbw).size
      rw [← hw2] at hk mA11 mA10
      have hne10_11 : w'.heap.size ≠ B11 := by omega
      clear hw2
      refine ⟨fun _ => hk, ?_⟩
      (try simp only [sI, sS, sZ])
      exact (hT _ _ _ _).1 (St2_10_11 (w'.heap.size) (B11) (x1) (y1) (z1) (b1) w2 hk hp1 hB10 mA10 hB11 mA11 hne10_11)
    have St2_10 : ∀ (B10 : Nat) (x1 : Nat) (y1 : Nat) (z1 : Nat) (b1 : Bool) (w' : World), Below W7.heap.size W7 w' → PtA x1 y1 z1 b1 Pa → W7.heap.size ≤ B10 → HasN w' B10 13 53 → T 7 #[tt,tt,tt,tt,tt,ff,tt,tt,ff,ff,tt,ff,ff,ff,ff] { tmps := #[.agg (k32 n1), .agg (k32 n2), .agg (k32 n3), .pointer (some ⟨w.heap.size, 0, none⟩), .pointer (some ⟨w.heap.size + 1, 0, none⟩), .pointer (some ⟨w.heap.size + 1 + 1, 0, none⟩), .bool false, .pointer (some ⟨B7, 0, none⟩), undef, .pointer (some ⟨B10, 0, none⟩), undef, undef, undef, .bool true, .bool false, .agg (pt x0 y0 z0 b0), .agg (pt x0 y0 z0 b0), .agg (k32 n1), .agg (pt x1 y1 z1 b1), .agg (pt x0 y0 z0 b0), .agg (k32 n2), undef, .agg (pt x0 y0 z0 b0), .agg (k32 n3), undef, undef, undef, undef, undef, undef, undef, undef, undef, undef, undef, undef, undef, undef, undef, undef, undef, undef, undef, undef, undef, undef, undef, undef, undef, undef, undef, undef, undef, undef, undef, undef, undef, undef, undef, undef, undef, undef, undef, undef, undef, undef, undef, undef, undef, undef, undef, undef, undef, undef, undef, undef, undef, undef, undef, undef, undef, undef, undef, undef, undef, undef, undef, undef, undef, undef, undef, undef, undef, undef, undef, undef, undef, undef], defers := [] } w' := by
      intro B10 x1 y1 z1 b1 w' hbw hp1 hB10 mA10
      refine (hT _ _ _ _).2 ?_
      refine wpBut_r3 (i := 5) (j := 9) (l := 11) (by kernel_rfl) ?_ ?_ ?_
      refine go_call 5 21 #[tt,tt,tt,tt,tt,tt,tt,tt,ff,ff,tt,ff,ff,ff,ff] rfl rfl rfl (by rfl) rfl rfl (by rfl) ent56 (by rfl) (Hm2.out x0 y0 z0 b0 Hq0.out _) ?_
      rintro e w2 ⟨x2, y2, z2, b2, hp2, rfl, hb⟩
      have hk := held_next hbw hb
      have mA10 := mA10.call hb
      refine ⟨_, rfl, fun _ => hk, ?_⟩
      (try simp only [sI, sS, sZ])
      exact (hT _ _ _ _).1 (St2_5_10 (B10) (x1) (y1) (z1) (b1) (x2) (y2) (z2) (b2) w2 hk hp1 hp2 hB10 mA10)
      refine go_alloc 9 8 #[tt,tt,tt,tt,tt,ff,tt,tt,ff,tt,tt,ff,ff,ff,ff] rfl rfl rfl (by rfl) 53 rfl _ al53 ?_
      intro w2 hw2
      have hk := (hbw).alloc (hbw).size (.cells z53 53)
      have hlt10 := mA10.lt
      have mA10 := mA10.alloc (.cells z53 53)
      have mA9 := HasN.new (w') z53 53 13 (by kernel_rfl)
      have hB9 := (hbw).size
      rw [← hw2] at hk mA10 mA9
      have hne9_10 : w'.heap.size ≠ B10 := by omega
      clear hw2
      refine ⟨fun _ => hk, ?_⟩
      (try simp only [sI, sS, sZ])
      exact (hT _ _ _ _).1 (St2_9_10 (w'.heap.size) (B10) (x1) (y1) (z1) (b1) w2 hk hp1 hB9 mA9 hB10 mA10 hne9_10)
      refine go_alloc 11 10 #[tt,tt,tt,tt,tt,ff,tt,tt,ff,ff,tt,tt,ff,ff,ff] rfl rfl rfl (by rfl) 53 rfl _ al53 ?_
      intro w2 hw2
      have hk := (hbw).alloc (hbw).size (.cells z53 53)
      have hlt10 := mA10.lt
      have mA10 := mA10.alloc (.cells z53 53)
      have mA11 := HasN.new (w') z53 53 13 (by kernel_rfl)
      have hB11 := (hbw).size
      rw [← hw2] at hk mA10 mA11
      have hne10_11 : B10 ≠ w'.heap.size := by omega
      clear hw2
      refine ⟨fun _ => hk, ?_⟩
      (try simp only [sI, sS, sZ])
      exact (hT _ _ _ _).1 (St2_10_11 (B10) (w'.heap.size) (x1) (y1) (z1) (b1) w2 hk hp1 hB10 mA10 hB11 mA11 hne10_11)
    have St2_9 : ∀ (B9 : Nat) (x1 : Nat) (y1 : Nat) (z1 : Nat) (b1 : Bool) (w' : World), Below W7.heap.size W7 w' → PtA x1 y1 z1 b1 Pa → W7.heap.size ≤ B9 → HasN w' B9 13 53 → T 7 #[tt,tt,tt,tt,tt,ff,tt,tt,ff,tt,ff,ff,ff,ff,ff] { tmps := #[.agg (k32 n1), .agg (k32 n2), .agg (k32 n3), .pointer (some ⟨w.heap.size, 0, none⟩), .pointer (some ⟨w.heap.size + 1, 0, none⟩), .pointer (some ⟨w.heap.size + 1 + 1, 0, none⟩), .bool false, .pointer (some ⟨B7, 0, none⟩), .pointer (some ⟨B9, 0, none⟩), undef, undef, undef, undef, .bool true, .bool false, .agg (pt x0 y0 z0 b0), .agg (pt x0 y0 z0 b0), .agg (k32 n1), .agg (pt x1 y1 z1 b1), .agg (pt x0 y0 z0 b0), .agg (k32 n2), undef, .agg (pt x0 y0 z0 b0), .agg (k32 n3), undef, undef, undef, undef, undef, undef, undef, undef, undef, undef, undef, undef, undef, undef, undef, undef, undef, undef, undef, undef, undef, undef, undef, undef, undef, undef, undef, undef, undef, undef, undef, undef, undef, undef, undef, undef, undef, undef, undef, undef, undef, undef, undef, undef, undef, undef, undef, undef, undef, undef, undef, undef, undef, undef, undef, undef, undef, undef, undef, undef, undef, undef, undef, undef, undef, undef, undef, undef, undef, undef, undef, undef, undef, undef], defers := [] } w' := by
      intro B9 x1 y1 z1 b1 w' hbw hp1 hB9 mA9
      refine (hT _ _ _ _).2 ?_
      refine wpBut_r3 (i := 5) (j := 10) (l := 11) (by kernel_rfl) ?_ ?_ ?_
      refine go_call 5 21 #[tt,tt,tt,tt,tt,tt,tt,tt,ff,tt,ff,ff,ff,ff,ff] rfl rfl rfl (by rfl) rfl rfl (by rfl) ent56 (by rfl) (Hm2.out x0 y0 z0 b0 Hq0.out _) ?_
      rintro e w2 ⟨x2, y2, z2, b2, hp2, rfl, hb⟩
      have hk := held_next hbw hb
      have mA9 := mA9.call hb
      refine ⟨_, rfl, fun _ => hk, ?_⟩
      (try simp only [sI, sS, sZ])
      exact (hT _ _ _ _).1 (St2_5_9 (B9) (x1) (y1) (z1) (b1) (x2) (y2) (z2) (b2) w2 hk hp1 hp2 hB9 mA9)
      refine go_alloc 10 9 #[tt,tt,tt,tt,tt,ff,tt,tt,ff,tt,tt,ff,ff,ff,ff] rfl rfl rfl (by rfl) 53 rfl _ al53 ?_
      intro w2 hw2
      have hk := (hbw).alloc (hbw).size (.cells z53 53)
      have hlt9 := mA9.lt
      have mA9 := mA9.alloc (.cells z53 53)
      have mA10 := HasN.new (w') z53 53 13 (by kernel_rfl)
      have hB10 := (hbw).size
      rw [← hw2] at hk mA9 mA10
      have hne9_10 : B9 ≠ w'.heap.size := by omega
      clear hw2
      refine ⟨fun _ => hk, ?_⟩
      (try simp only [sI, sS, sZ])
      exact (hT _ _ _ _).1 (St2_9_10 (B9) (w'.heap.size) (x1) (y1) (z1) (b1) w2 hk hp1 hB9 mA9 hB10 mA10 hne9_10)
      refine go_alloc 11 10 #[tt,tt,tt,tt,tt,ff,tt,tt,ff,tt,ff,tt,ff,ff,ff] rfl rfl rfl (by rfl) 53 rfl _ al53 ?_
      intro w2 hw2
      have hk := (hbw).alloc (hbw).size (.cells z53 53)
      have hlt9 := mA9.lt
      have mA9 := mA9.alloc (.cells z53 53)
      have mA11 := HasN.new (w') z53 53 13 (by kernel_rfl)
      have hB11 := (hbw).size
      rw [← hw2] at hk mA9 mA11
      have hne9_11 : B9 ≠ w'.heap.size := by omega
      clear hw2
      refine ⟨fun _ => hk, ?_⟩
      (try simp only [sI, sS, sZ])
      exact (hT _ _ _ _).1 (St2_9_11 (B9) (w'.heap.size) (x1) (y1) (z1) (b1) w2 hk hp1 hB9 mA9 hB11 mA11 hne9_11)
    have St2_5 : ∀ (x1 : Nat) (y1 : Nat) (z1 : Nat) (b1 : Bool) (x2 : Nat) (y2 : Nat) (z2 : Nat) (b2 : Bool) (w' : World), Below W7.heap.size W7 w' → PtA x1 y1 z1 b1 Pa → PtA x2 y2 z2 b2 Pb → T 7 #[tt,tt,tt,tt,tt,tt,tt,tt,ff,ff,ff,ff,ff,ff,ff] { tmps := #[.agg (k32 n1), .agg (k32 n2), .agg (k32 n3), .pointer (some ⟨w.heap.size, 0, none⟩), .pointer (some ⟨w.heap.size + 1, 0, none⟩), .pointer (some ⟨w.heap.size + 1 + 1, 0, none⟩), .bool false, .pointer (some ⟨B7, 0, none⟩), undef, undef, undef, undef, undef, .bool true, .bool false, .agg (pt x0 y0 z0 b0), .agg (pt x0 y0 z0 b0), .agg (k32 n1), .agg (pt x1 y1 z1 b1), .agg (pt x0 y0 z0 b0), .agg (k32 n2), .agg (pt x2 y2 z2 b2), .agg (pt x0 y0 z0 b0), .agg (k32 n3), undef, undef, undef, undef, undef, undef, undef, undef, undef, undef, undef, undef, undef, undef, undef, undef, undef, undef, undef, undef, undef, undef, undef, undef, undef, undef, undef, undef, undef, undef, undef, undef, undef, undef, undef, undef, undef, undef, undef, undef, undef, undef, undef, undef, undef, undef, undef, undef, undef, undef, undef, undef, undef, undef, undef, undef, undef, undef, undef, undef, undef, undef, undef, undef, undef, undef, undef, undef, undef, undef, undef, undef, undef, undef], defers := [] } w' := by
      intro x1 y1 z1 b1 x2 y2 z2 b2 w' hbw hp1 hp2
      refine (hT _ _ _ _).2 ?_
      refine wpBut_r4 (i := 8) (j := 9) (l := 10) (m := 11) (by kernel_rfl) ?_ ?_ ?_ ?_
      refine go_call 8 24 #[tt,tt,tt,tt,tt,tt,tt,tt,tt,ff,ff,ff,ff,ff,ff] rfl rfl rfl (by rfl) rfl rfl (by rfl) ent56 (by rfl) (Hm3.out x0 y0 z0 b0 Hq0.out _) ?_
      rintro e w2 ⟨x3, y3, z3, b3, hp3, rfl, hb⟩
      have hk := held_next hbw hb
      refine ⟨_, rfl, fun _ => hk, ?_⟩
      (try simp only [sI, sS, sZ])
      exact (hT _ _ _ _).1 (St2_5_8 (x1) (y1) (z1) (b1) (x2) (y2) (z2) (b2) (x3) (y3) (z3) (b3) w2 hk hp1 hp2 hp3)
      refine go_alloc 9 8 #[tt,tt,tt,tt,tt,tt,tt,tt,ff,tt,ff,ff,ff,ff,ff] rfl rfl rfl (by rfl) 53 rfl _ al53 ?_
      intro w2 hw2
      have hk := (hbw).alloc (hbw).size (.cells z53 53)
      have mA9 := HasN.new (w') z53 53 13 (by kernel_rfl)
      have hB9 := (hbw).size
      rw [← hw2] at hk mA9
      clear hw2
      refine ⟨fun _ => hk, ?_⟩
      (try simp only [sI, sS, sZ])
      exact (hT _ _ _ _).1 (St2_5_9 (w'.heap.size) (x1) (y1) (z1) (b1) (x2) (y2) (z2) (b2) w2 hk hp1 hp2 hB9 mA9)
      refine go_alloc 10 9 #[tt,tt,tt,tt,tt,tt,tt,tt,ff,ff,tt,ff,ff,ff,ff] rfl rfl rfl (by rfl) 53 rfl _ al53 ?_
      intro w2 hw2
      have hk := (hbw).alloc (hbw).size (.cells z53 53)
      have mA10 := HasN.new (w') z53 53 13 (by kernel_rfl)
      have hB10 := (hbw).size
      rw [← hw2] at hk mA10
      clear hw2
      refine ⟨fun _ => hk, ?_⟩
      (try simp only [sI, sS, sZ])
      exact (hT _ _ _ _).1 (St2_5_10 (w'.heap.size) (x1) (y1) (z1) (b1) (x2) (y2) (z2) (b2) w2 hk hp1 hp2 hB10 mA10)
      refine go_alloc 11 10 #[tt,tt,tt,tt,tt,tt,tt,tt,ff,ff,ff,tt,ff,ff,ff] rfl rfl rfl (by rfl) 53 rfl _ al53 ?_
      intro w2 hw2
      have hk := (hbw).alloc (hbw).size (.cells z53 53)
      have mA11 := HasN.new (w') z53 53 13 (by kernel_rfl)
      have hB11 := (hbw).size
      rw [← hw2] at hk mA11
      clear hw2
      refine ⟨fun _ => hk, ?_⟩
      (try simp only [sI, sS, sZ])
      exact (hT _ _ _ _).1 (St2_5_11 (w'.heap.size) (x1) (y1) (z1) (b1) (x2) (y2) (z2) (b2) w2 hk hp1 hp2 hB11 mA11)
    have St11 : ∀ (B11 : Nat) (w' : World), Below W7.heap.size W7 w' → W7.heap.size ≤ B11 → HasN w' B11 13 53 → T 8 #[tt,tt,ff,tt,tt,ff,tt,tt,ff,ff,ff,tt,ff,ff,ff] { tmps := #[.agg (k32 n1), .agg (k32 n2), .agg (k32 n3), .pointer (some ⟨w.heap.size, 0, none⟩), .pointer (some ⟨w.heap.size + 1, 0, none⟩), .pointer (some ⟨w.heap.size + 1 + 1, 0, none⟩), .bool false, .pointer (some ⟨B7, 0, none⟩), undef, undef, .pointer (some ⟨B11, 0, none⟩), undef, undef, .bool true, .bool false, .agg (pt x0 y0 z0 b0), .agg (pt x0 y0 z0 b0), .agg (k32 n1), undef, .agg (pt x0 y0 z0 b0), .agg (k32 n2), undef, .agg (pt x0 y0 z0 b0), .agg (k32 n3), undef, undef, undef, undef, undef, undef, undef, undef, undef, undef, undef, undef, undef, undef, undef, undef, undef, undef, undef, undef, undef, undef, undef, undef, undef, undef, undef, undef, undef, undef, undef, undef, undef, undef, undef, undef, undef, undef, undef, undef, undef, undef, undef, undef, undef, undef, undef, undef, undef, undef, undef, undef, undef, undef, undef, undef, undef, undef, undef, undef, undef, undef, undef, undef, undef, undef, undef, undef, undef, undef, undef, undef, undef, undef], defers := [] } w' := by
      intro B11 w' hbw hB11 mA11
      refine (hT _ _ _ _).2 ?_
      refine wpBut_r3 (i := 2) (j := 9) (l := 10) (by kernel_rfl) ?_ ?_ ?_
      refine go_call 2 18 #[tt,tt,tt,tt,tt,ff,tt,tt,ff,ff,ff,tt,ff,ff,ff] rfl rfl rfl (by rfl) rfl rfl (by rfl) ent56 (by rfl) (Hm1.out x0 y0 z0 b0 Hq0.out _) ?_
      rintro e w2 ⟨x1, y1, z1, b1, hp1, rfl, hb⟩
      have hk := held_next hbw hb
      have mA11 := mA11.call hb
      refine ⟨_, rfl, fun _ => hk, ?_⟩
      (try simp only [sI, sS, sZ])
      exact (hT _ _ _ _).1 (St2_11 (B11) (x1) (y1) (z1) (b1) w2 hk hp1 hB11 mA11)
      refine go_alloc 9 8 #[tt,tt,ff,tt,tt,ff,tt,tt,ff,tt,ff,tt,ff,ff,ff] rfl rfl rfl (by rfl) 53 rfl _ al53 ?_
      intro w2 hw2
      have hk := (hbw).alloc (hbw).size (.cells z53 53)
      have hlt11 := mA11.lt
      have mA11 := mA11.alloc (.cells z53 53)
      have mA9 := HasN.new (w') z53 53 13 (by kernel_rfl)
      have hB9 := (hbw).size
      rw [← hw2] at hk mA11 mA9
      have hne9_11 : w'.heap.size ≠ B11 := by omega
      clear hw2
      refine ⟨fun _ => hk, ?_⟩
      (try simp only [sI, sS, sZ])
      exact (hT _ _ _ _).1 (St9_11 (w'.heap.size) (B11) w2 hk hB9 mA9 hB11 mA11 hne9_11)
      refine go_alloc 10 9 #[tt,tt,ff,tt,tt,ff,tt,tt,ff,ff,tt,tt,ff,ff,ff] rfl rfl rfl (by rfl) 53 rfl _ al53 ?_
      intro w2 hw2
      have hk := (hbw).alloc (hbw).size (.cells z53 53)
      have hlt11 := mA11.lt
      have mA11 := mA11.alloc (.cells z53 53)
      have mA10 := HasN.new (w') z53 53 13 (by kernel_rfl)
      have hB10 := (hbw).size
      rw [← hw2] at hk mA11 mA10
      have hne10_11 : w'.heap.size ≠ B11 := by omega
      clear hw2
      refine ⟨fun _ => hk, ?_⟩
      (try simp only [sI, sS, sZ])
      exact (hT _ _ _ _).1 (St10_11 (w'.heap.size) (B11) w2 hk hB10 mA10 hB11 mA11 hne10_11)
    have St10 : ∀ (B10 : Nat) (w' : World), Below W7.heap.size W7 w' → W7.heap.size ≤ B10 → HasN w' B10 13 53 → T 8 #[tt,tt,ff,tt,tt,ff,tt,tt,ff,ff,tt,ff,ff,ff,ff] { tmps := #[.agg (k32 n1), .agg (k32 n2), .agg (k32 n3), .pointer (some ⟨w.heap.size, 0, none⟩), .pointer (some ⟨w.heap.size + 1, 0, none⟩), .pointer (some ⟨w.heap.size + 1 + 1, 0, none⟩), .bool false, .pointer (some ⟨B7, 0, none⟩), undef, .pointer (some ⟨B10, 0, none⟩), undef, undef, undef, .bool true, .bool false, .agg (pt x0 y0 z0 b0), .agg (pt x0 y0 z0 b0), .agg (k32 n1), undef, .agg (pt x0 y0 z0 b0), .agg (k32 n2), undef, .agg (pt x0 y0 z0 b0), .agg (k32 n3), undef, undef, undef, undef, undef, undef, undef, undef, undef, undef, undef, undef, undef, undef, undef, undef, undef, undef, undef, undef, undef, undef, undef, undef, undef, undef, undef, undef, undef, undef, undef, undef, undef, undef, undef, undef, undef, undef, undef, undef, undef, undef, undef, undef, undef, undef, undef, undef, undef, undef, undef, undef, undef, undef, undef, undef, undef, undef, undef, undef, undef, undef, undef, undef, undef, undef, undef, undef, undef, undef, undef, undef, undef, undef], defers := [] } w' := by
      intro B10 w' hbw hB10 mA10
      refine (hT _ _ _ _).2 ?_
      refine wpBut_r3 (i := 2) (j := 9) (l := 11) (by kernel_rfl) ?_ ?_ ?_
      refine go_call 2 18 #[tt,tt,tt,tt,tt,ff,tt,tt,ff,ff,tt,ff,ff,ff,ff] rfl rfl rfl (by rfl) rfl rfl (by rfl) ent56 (by rfl) (Hm1.out x0 y0 z0 b0 Hq0.out _) ?_
      rintro e w2 ⟨x1, y1, z1, b1, hp1, rfl, hb⟩
      have hk := held_next hbw hb
      have mA10 := mA10.call hb
      refine ⟨_, rfl, fun _ => hk, ?_⟩
      (try simp only [sI, sS, sZ])
      exact (hT _ _ _ _).1 (St2_10 (B10) (x1) (y1) (z1) (b1) w2 hk hp1 hB10 mA10)
      refine go_alloc 9 8 #[tt,tt,ff,tt,tt,ff,tt,tt,ff,tt,tt,ff,ff,ff,ff] rfl rfl rfl (by rfl) 53 rfl _ al53 ?_
      intro w2 hw2
      have hk := (hbw).alloc (hbw).size (.cells z53 53)
      have hlt10 := mA10.lt
      have mA10 := mA10.alloc (.cells z53 53)
      have mA9 := HasN.new (w') z53 53 13 (by kernel_rfl)
      have hB9 := (hbw).size
      rw [← hw2] at hk mA10 mA9
      have hne9_10 : w'.heap.size ≠ B10 := by omega
      clear hw2
      refine ⟨fun _ => hk, ?_⟩
      (try simp only [sI, sS, sZ])
      exact (hT _ _ _ _).1 (St9_10 (w'.heap.size) (B10) w2 hk hB9 mA9 hB10 mA10 hne9_10)
      refine go_alloc 11 10 #[tt,tt,ff,tt,tt,ff,tt,tt,ff,ff,tt,tt,ff,ff,ff] rfl rfl rfl (by rfl) 53 rfl _ al53 ?_
      intro w2 hw2
      have hk := (hbw).alloc (hbw).size (.cells z53 53)
      have hlt10 := mA10.lt
      have mA10 := mA10.alloc (.cells z53 53)
      have mA11 := HasN.new (w') z53 53 13 (by kernel_rfl)
      have hB11 := (hbw).size
      rw [← hw2] at hk mA10 mA11
      have hne10_11 : B10 ≠ w'.heap.size := by omega
      clear hw2
      refine ⟨fun _ => hk, ?_⟩
      (try simp only [sI, sS, sZ])
      exact (hT _ _ _ _).1 (St10_11 (B10) (w'.heap.size) w2 hk hB10 mA10 hB11 mA11 hne10_11)
    have St9 : ∀ (B9 : Nat) (w' : World), Below W7.heap.size W7 w' → W7.heap.size ≤ B9 → HasN w' B9 13 53 → T 8 #[tt,tt,ff,tt,tt,ff,tt,tt,ff,tt,ff,ff,ff,ff,ff] { tmps := #[.agg (k32 n1), .agg (k32 n2), .agg (k32 n3), .pointer (some ⟨w.heap.size, 0, none⟩), .pointer (some ⟨w.heap.size + 1, 0, none⟩), .pointer (some ⟨w.heap.size + 1 + 1, 0, none⟩), .bool false, .pointer (some ⟨B7, 0, none⟩), .pointer (some ⟨B9, 0, none⟩), undef, undef, undef, undef, .bool true, .bool false, .agg (pt x0 y0 z0 b0), .agg (pt x0 y0 z0 b0), .agg (k32 n1), undef, .agg (pt x0 y0 z0 b0), .agg (k32 n2), undef, .agg (pt x0 y0 z0 b0), .agg (k32 n3), undef, undef, undef, undef, undef, undef, undef, undef, undef, undef, undef, undef, undef, undef, undef, undef, undef, undef, undef, undef, undef, undef, undef, undef, undef, undef, undef, undef, undef, undef, undef, undef, undef, undef, undef, undef, undef, undef, undef, undef, undef, undef, undef, undef, undef, undef, undef, undef, undef, undef, undef, undef, undef, undef, undef, undef, undef, undef, undef, undef, undef, undef, undef, undef, undef, undef, undef, undef, undef, undef, undef, undef, undef, undef], defers := [] } w' := by
      intro B9 w' hbw hB9 mA9
      refine (hT _ _ _ _).2 ?_
      refine wpBut_r3 (i := 2) (j := 10) (l := 11) (by kernel_rfl) ?_ ?_ ?_
      refine go_call 2 18 #[tt,tt,tt,tt,tt,ff,tt,tt,ff,tt,ff,ff,ff,ff,ff] rfl rfl rfl (by rfl) rfl rfl (by rfl) ent56 (by rfl) (Hm1.out x0 y0 z0 b0 Hq0.out _) ?_
      rintro e w2 ⟨x1, y1, z1, b1, hp1, rfl, hb⟩
      have hk := held_next hbw hb
      have mA9 := mA9.call hb
      refine ⟨_, rfl, fun _ => hk, ?_⟩
      (try simp only [sI, sS, sZ])
      exact (hT _ _ _ _).1 (St2_9 (B9) (x1) (y1) (z1) (b1) w2 hk hp1 hB9 mA9)
      refine go_alloc 10 9 #[tt,tt,ff,tt,tt,ff,tt,tt,ff,tt,tt,ff,ff,ff,ff] rfl rfl rfl (by rfl) 53 rfl _ al53 ?_
      intro w2 hw2
      have hk := (hbw).alloc (hbw).size (.cells z53 53)
      have hlt9 := mA9.lt
      have mA9 := mA9.alloc (.cells z53 53)
      have mA10 := HasN.new (w') z53 53 13 (by kernel_rfl)
      have hB10 := (hbw).size
      rw [← hw2] at hk mA9 mA10
      have hne9_10 : B9 ≠ w'.heap.size := by omega
      clear hw2
      refine ⟨fun _ => hk, ?_⟩
      (try simp only [sI, sS, sZ])
      exact (hT _ _ _ _).1 (St9_10 (B9) (w'.heap.size) w2 hk hB9 mA9 hB10 mA10 hne9_10)
      refine go_alloc 11 10 #[tt,tt,ff,tt,tt,ff,tt,tt,ff,tt,ff,tt,ff,ff,ff] rfl rfl rfl (by rfl) 53 rfl _ al53 ?_
      intro w2 hw2
      have hk := (hbw).alloc (hbw).size (.cells z53 53)
      have hlt9 := mA9.lt
      have mA9 := mA9.alloc (.cells z53 53)
      have mA11 := HasN.new (w') z53 53 13 (by kernel_rfl)
      have hB11 := (hbw).size
      rw [← hw2] at hk mA9 mA11
      have hne9_11 : B9 ≠ w'.heap.size := by omega
      clear hw2
      refine ⟨fun _ => hk, ?_⟩
      (try simp only [sI, sS, sZ])
      exact (hT _ _ _ _).1 (St9_11 (B9) (w'.heap.size) w2 hk hB9 mA9 hB11 mA11 hne9_11)
    have St2 : ∀ (x1 : Nat) (y1 : Nat) (z1 : Nat) (b1 : Bool) (w' : World), Below W7.heap.size W7 w' → PtA x1 y1 z1 b1 Pa → T 8 #[tt,tt,tt,tt,tt,ff,tt,tt,ff,ff,ff,ff,ff,ff,ff] { tmps := #[.agg (k32 n1), .agg (k32 n2), .agg (k32 n3), .pointer (some ⟨w.heap.size, 0, none⟩), .pointer (some ⟨w.heap.size + 1, 0, none⟩), .pointer (some ⟨w.heap.size + 1 + 1, 0, none⟩), .bool false, .pointer (some ⟨B7, 0, none⟩), undef, undef, undef, undef, undef, .bool true, .bool false, .agg (pt x0 y0 z0 b0), .agg (pt x0 y0 z0 b0), .agg (k32 n1), .agg (pt x1 y1 z1 b1), .agg (pt x0 y0 z0 b0), .agg (k32 n2), undef, .agg (pt x0 y0 z0 b0), .agg (k32 n3), undef, undef, undef, undef, undef, undef, undef, undef, undef, undef, undef, undef, undef, undef, undef, undef, undef, undef, undef, undef, undef, undef, undef, undef, undef, undef, undef, undef, undef, undef, undef, undef, undef, undef, undef, undef, undef, undef, undef, undef, undef, undef, undef, undef, undef, undef, undef, undef, undef, undef, undef, undef, undef, undef, undef, undef, undef, undef, undef, undef, undef, undef, undef, undef, undef, undef, undef, undef, undef, undef, undef, undef, undef, undef], defers := [] } w' := by
      intro x1 y1 z1 b1 w' hbw hp1
      refine (hT _ _ _ _).2 ?_
      refine wpBut_r4 (i := 5) (j := 9) (l := 10) (m := 11) (by kernel_rfl) ?_ ?_ ?_ ?_
      refine go_call 5 21 #[tt,tt,tt,tt,tt,tt,tt,tt,ff,ff,ff,ff,ff,ff,ff] rfl rfl rfl (by rfl) rfl rfl (by rfl) ent56 (by rfl) (Hm2.out x0 y0 z0 b0 Hq0.out _) ?_
      rintro e w2 ⟨x2, y2, z2, b2, hp2, rfl, hb⟩
      have hk := held_next hbw hb
      refine ⟨_, rfl, fun _ => hk, ?_⟩
      (try simp only [sI, sS, sZ])
      exact (hT _ _ _ _).1 (St2_5 (x1) (y1) (z1) (b1) (x2) (y2) (z2) (b2) w2 hk hp1 hp2)
      refine go_alloc 9 8 #[tt,tt,tt,tt,tt,ff,tt,tt,ff,tt,ff,ff,ff,ff,ff] rfl rfl rfl (by rfl) 53 rfl _ al53 ?_
      intro w2 hw2
      have hk := (hbw).alloc (hbw).size (.cells z53 53)
      have mA9 := HasN.new (w') z53 53 13 (by kernel_rfl)
      have hB9 := (hbw).size
      rw [← hw2] at hk mA9
      clear hw2
      refine ⟨fun _ => hk, ?_⟩
      (try simp only [sI, sS, sZ])
      exact (hT _ _ _ _).1 (St2_9 (w'.heap.size) (x1) (y1) (z1) (b1) w2 hk hp1 hB9 mA9)
      refine go_alloc 10 9 #[tt,tt,tt,tt,tt,ff,tt,tt,ff,ff,tt,ff,ff,ff,ff] rfl rfl rfl (by rfl) 53 rfl _ al53 ?_
      intro w2 hw2
      have hk := (hbw).alloc (hbw).size (.cells z53 53)
      have mA10 := HasN.new (w') z53 53 13 (by kernel_rfl)
      have hB10 := (hbw).size
      rw [← hw2] at hk mA10
      clear hw2
      refine ⟨fun _ => hk, ?_⟩
      (try simp only [sI, sS, sZ])
      exact (hT _ _ _ _).1 (St2_10 (w'.heap.size) (x1) (y1) (z1) (b1) w2 hk hp1 hB10 mA10)
      refine go_alloc 11 10 #[tt,tt,tt,tt,tt,ff,tt,tt,ff,ff,ff,tt,ff,ff,ff] rfl rfl rfl (by rfl) 53 rfl _ al53 ?_
      intro w2 hw2
      have hk := (hbw).alloc (hbw).size (.cells z53 53)
      have mA11 := HasN.new (w') z53 53 13 (by kernel_rfl)
      have hB11 := (hbw).size
      rw [← hw2] at hk mA11
      clear hw2
      refine ⟨fun _ => hk, ?_⟩
      (try simp only [sI, sS, sZ])
      exact (hT _ _ _ _).1 (St2_11 (w'.heap.size) (x1) (y1) (z1) (b1) w2 hk hp1 hB11 mA11)
    refine (hT _ _ _ _).2 ?_
    refine wpBut_r4 (i := 2) (j := 9) (l := 10) (m := 11) (by kernel_rfl) ?_ ?_ ?_ ?_
    refine go_call 2 18 #[tt,tt,tt,tt,tt,ff,tt,tt,ff,ff,ff,ff,ff,ff,ff] rfl rfl rfl (by rfl) rfl rfl (by rfl) ent56 (by rfl) (Hm1.out x0 y0 z0 b0 Hq0.out _) ?_
    rintro e w2 ⟨x1, y1, z1, b1, hp1, rfl, hb⟩
    have hk := held_next (below_dr W7) hb
    refine ⟨_, rfl, fun _ => hk, ?_⟩
    (try simp only [sI, sS, sZ])
    exact (hT _ _ _ _).1 (St2 (x1) (y1) (z1) (b1) w2 hk hp1)
    refine go_alloc 9 8 #[tt,tt,ff,tt,tt,ff,tt,tt,ff,tt,ff,ff,ff,ff,ff] rfl rfl rfl (by rfl) 53 rfl _ al53 ?_
    intro w2 hw2
    have hk := ((below_dr W7)).alloc ((below_dr W7)).size (.cells z53 53)
    have mA9 := HasN.new (W7.drew) z53 53 13 (by kernel_rfl)
    have hB9 := ((below_dr W7)).size
    rw [← hw2] at hk mA9
    clear hw2
    refine ⟨fun _ => hk, ?_⟩
    (try simp only [sI, sS, sZ])
    exact (hT _ _ _ _).1 (St9 (W7.drew.heap.size) w2 hk hB9 mA9)
    refine go_alloc 10 9 #[tt,tt,ff,tt,tt,ff,tt,tt,ff,ff,tt,ff,ff,ff,ff] rfl rfl rfl (by rfl) 53 rfl _ al53 ?_
    intro w2 hw2
    have hk := ((below_dr W7)).alloc ((below_dr W7)).size (.cells z53 53)
    have mA10 := HasN.new (W7.drew) z53 53 13 (by kernel_rfl)
    have hB10 := ((below_dr W7)).size
    rw [← hw2] at hk mA10
    clear hw2
    refine ⟨fun _ => hk, ?_⟩
    (try simp only [sI, sS, sZ])
    exact (hT _ _ _ _).1 (St10 (W7.drew.heap.size) w2 hk hB10 mA10)
    refine go_alloc 11 10 #[tt,tt,ff,tt,tt,ff,tt,tt,ff,ff,ff,tt,ff,ff,ff] rfl rfl rfl (by rfl) 53 rfl _ al53 ?_
    intro w2 hw2
    have hk := ((below_dr W7)).alloc ((below_dr W7)).size (.cells z53 53)
    have mA11 := HasN.new (W7.drew) z53 53 13 (by kernel_rfl)
    have hB11 := ((below_dr W7)).size
    rw [← hw2] at hk mA11
    clear hw2
    refine ⟨fun _ => hk, ?_⟩
    (try simp only [sI, sS, sZ])
    exact (hT _ _ _ _).1 (St11 (W7.drew.heap.size) w2 hk hB11 mA11)
  · rintro W7 ⟨B8, B9, B10, x1, y1, z1, b1, x2, y2, z2, b2, x3, y3, z3, b3⟩ vw7 hW7 ⟨hp1, hp2, hp3, hBq0, mBq0, hBq1, mBq1, hBq2, mBq2, hbw⟩
    simp only [Act.put, List.setIfInBounds_toArray, List.set_cons_succ, List.set_cons_zero] at hp1 hp2 hp3 hBq0  mBq0 hBq1  mBq1 hBq2  mBq2 ⊢
    rw [← hW7] at M3 M4 M5 M7 HB
    clear hW7
    have hltM3_7 := M3.out.lt
    have hltM4_7 := M4.out.lt
    have hltM5_7 := M5.out.lt
    have hltM7_7 := M7.out.lt
    replace M3 := Lib.hid (M3.out.call hbw)
    replace M4 := Lib.hid (M4.out.call hbw)
    replace M5 := Lib.hid (M5.out.call hbw)
    replace M7 := Lib.hid (M7.out.call hbw)
    replace HB := Lib.hid (held_next HB.out hbw)
    have M8 := Lib.hid mBq0; clear mBq0
    have M9 := Lib.hid mBq1; clear mBq1
    have M10 := Lib.hid mBq2; clear mBq2
    clear hbw
    have Hp1 := Lib.hid hp1; clear hp1
    have Hp2 := Lib.hid hp2; clear hp2
    have Hp3 := Lib.hid hp3; clear hp3
    repeat ((fail_if_success (with_reducible (show wpList _ _ _ _ _ _))); go_step)
    refine wpList_load (by rfl) 53 _ rfl (B8) rfl 53 (pt x1 y1 z1 b1) M8.out Try.underlying53 rfl (by rw [pt_size]; kernel_rfl) 26 rfl ?_
    (try simp only [Act.put, sI, sS, sZ])
    refine wpList_call (by rfl) rfl rfl (by rfl) ent49 (by rfl) (Hk.out x1 y1 z1 b1 Hp1.out _) 27 rfl ?_
    rintro e uw3 ⟨rfl, hb⟩
    replace M3 := Lib.hid (M3.out.call hb)
    replace M4 := Lib.hid (M4.out.call hb)
    replace M5 := Lib.hid (M5.out.call hb)
    replace M7 := Lib.hid (M7.out.call hb)
    replace M8 := Lib.hid (M8.out.call hb)
    replace M9 := Lib.hid (M9.out.call hb)
    replace M10 := Lib.hid (M10.out.call hb)
    replace HB := Lib.hid (held_next HB.out hb)
    refine ⟨_, rfl, ?_⟩
    clear hb
    (try simp only [Act.put, sI, sS, sZ])
    refine wpList_call (by rfl) rfl rfl (by rfl) ent47 (by rfl) (Hof.out _) 28 rfl ?_
    rintro e uw4 ⟨x4, y4, z4, b4, hp4, rfl, hb⟩
    replace M3 := Lib.hid (M3.out.call hb)
    replace M4 := Lib.hid (M4.out.call hb)
    replace M5 := Lib.hid (M5.out.call hb)
    replace M7 := Lib.hid (M7.out.call hb)
    replace M8 := Lib.hid (M8.out.call hb)
    replace M9 := Lib.hid (M9.out.call hb)
    replace M10 := Lib.hid (M10.out.call hb)
    replace HB := Lib.hid (held_next HB.out hb)
    refine ⟨_, rfl, ?_⟩
    clear hb
    (try simp only [Act.put, sI, sS, sZ])
    iterate 3 (refine wpList_step (fun K hK => ?_); go_simp; (try go_bits); refine hK _ _ ?_; clear hK K)
    refine wpList_alloc (by rfl) 53 rfl _ al53 11 rfl ?_
    intro yw8 hw2
    have hlt9 := M3.out.lt
    have hlt10 := M4.out.lt
    have hlt11 := M5.out.lt
    have hlt12 := M7.out.lt
    have hlt13 := M8.out.lt
    have hlt14 := M9.out.lt
    have hlt15 := M10.out.lt
    have hsz := HB.out.size
    replace M3 := Lib.hid (M3.out.alloc (.cells z53 53))
    replace M4 := Lib.hid (M4.out.alloc (.cells z53 53))
    replace M5 := Lib.hid (M5.out.alloc (.cells z53 53))
    replace M7 := Lib.hid (M7.out.alloc (.cells z53 53))
    replace M8 := Lib.hid (M8.out.alloc (.cells z53 53))
    replace M9 := Lib.hid (M9.out.alloc (.cells z53 53))
    replace M10 := Lib.hid (M10.out.alloc (.cells z53 53))
    have M11 := Lib.hid (HasN.new uw4 z53 53 13 (by kernel_rfl))
    replace HB := Lib.hid (HB.out.alloc hsz (.cells z53 53))
    rw [← hw2] at M3 M4 M5 M7 M8 M9 M10 M11 HB; clear hw2
    (try simp only [Act.put, sI, sS, sZ])
    first | (obtain ⟨Zq, hZ, mZ⟩ := M11.out) | (obtain ⟨Zq, hZ, mZ⟩ := M11.out.toN (pt_size ..))
    refine wpList_store2 (by rfl) 53 _ _ rfl rfl (uw4.heap.size) (pt x4 y4 z4 b4) rfl rfl 53 Zq mZ (by rw [pt_size]; kernel_rfl) (hZ.trans (pt_size ..).symm) (pt_one _ _ _ _) ?_
    intro yw16 hw2
    replace M3 := Lib.hid (M3.out.setRow_other (uw4.heap.size) (pt x4 y4 z4 b4) (by omega))
    replace M4 := Lib.hid (M4.out.setRow_other (uw4.heap.size) (pt x4 y4 z4 b4) (by omega))
    replace M5 := Lib.hid (M5.out.setRow_other (uw4.heap.size) (pt x4 y4 z4 b4) (by omega))
    replace M7 := Lib.hid (M7.out.setRow_other (uw4.heap.size) (pt x4 y4 z4 b4) (by omega))
    replace M8 := Lib.hid (M8.out.setRow_other (uw4.heap.size) (pt x4 y4 z4 b4) (by omega))
    replace M9 := Lib.hid (M9.out.setRow_other (uw4.heap.size) (pt x4 y4 z4 b4) (by omega))
    replace M10 := Lib.hid (M10.out.setRow_other (uw4.heap.size) (pt x4 y4 z4 b4) (by omega))
    replace M11 := Lib.hid (mZ.setRow (pt x4 y4 z4 b4))
    replace HB := Lib.hid (below_setRow HB.out (uw4.heap.size) (pt x4 y4 z4 b4) (by omega))
    rw [← hw2] at M3 M4 M5 M7 M8 M9 M10 M11 HB; clear mZ hZ hw2
    (refine wpList_step (fun K hK => ?_); go_simp; (try go_bits); refine hK _ _ ?_; clear hK K)
    refine wpList_nil ?_
    have Hp4 := Lib.hid hp4; clear hp4
    repeat ((fail_if_success (with_reducible (show wpList _ _ _ _ _ _))); go_step)
    refine wp_region_noPanic ?_
    refine wp_region_go 99 50 #[ff,ff,ff,ff,ff,ff,ff,ff,ff,ff,ff,ff,ff,ff,ff,ff,ff,ff,ff,ff,ff,ff,ff,ff,ff,ff,ff,ff,ff,ff,ff,ff,ff,ff,ff,ff,ff,ff,ff,ff,ff,ff,ff,ff,ff,ff,ff,ff,ff,ff] (by kernel_rfl) rfl rfl ?_
    intro W17 hW17
    rw [← hW17] at M3 M4 M5 M7 M8 M9 M10 M11 HB
    clear hW17
    refine go_take2 0 31 #[tt,ff,ff,ff,ff,ff,ff,ff,ff,ff,ff,ff,ff,ff,ff,ff,ff,ff,ff,ff,ff,ff,ff,ff,ff,ff,ff,ff,ff,ff,ff,ff,ff,ff,ff,ff,ff,ff,ff,ff,ff,ff,ff,ff,ff,ff,ff,ff,ff,ff] (v := ?uv1) rfl rfl rfl (by kernel_rfl) (Or.inl ⟨by rfl, ?uy1⟩) ((below_dr W17)) ?urest1
    case uy1 => (intro _ _; go_simp; try with_reducible rfl)
    (try simp only [sI, sS, sZ])
    refine go_take2 1 32 #[tt,tt,ff,ff,ff,ff,ff,ff,ff,ff,ff,ff,ff,ff,ff,ff,ff,ff,ff,ff,ff,ff,ff,ff,ff,ff,ff,ff,ff,ff,ff,ff,ff,ff,ff,ff,ff,ff,ff,ff,ff,ff,ff,ff,ff,ff,ff,ff,ff,ff] (v := ?uv2) rfl rfl rfl (by kernel_rfl) (Or.inl ⟨by rfl, ?uy2⟩) ((below_dr W17)) ?urest2
    case uy2 => (intro _ _; go_simp; try with_reducible rfl)
    (try simp only [sI, sS, sZ])
    refine go_take2 2 33 #[tt,tt,tt,ff,ff,ff,ff,ff,ff,ff,ff,ff,ff,ff,ff,ff,ff,ff,ff,ff,ff,ff,ff,ff,ff,ff,ff,ff,ff,ff,ff,ff,ff,ff,ff,ff,ff,ff,ff,ff,ff,ff,ff,ff,ff,ff,ff,ff,ff,ff] (v := ?uv3) rfl rfl rfl (by kernel_rfl) (Or.inl ⟨by rfl, ?uy3⟩) ((below_dr W17)) ?urest3
    case uy3 => (intro _ _; go_simp; try with_reducible rfl)
    (try simp only [sI, sS, sZ])
    refine go_take2 3 34 #[tt,tt,tt,tt,ff,ff,ff,ff,ff,ff,ff,ff,ff,ff,ff,ff,ff,ff,ff,ff,ff,ff,ff,ff,ff,ff,ff,ff,ff,ff,ff,ff,ff,ff,ff,ff,ff,ff,ff,ff,ff,ff,ff,ff,ff,ff,ff,ff,ff,ff] rfl rfl rfl (by kernel_rfl) (yieldsIf_load_row (by rfl) 53 _ rfl (uw4.heap.size) rfl 53 (pt x4 y4 z4 b4) (fun _ h => M11.out.below h M11.out.lt) Try.underlying53 rfl (by rw [pt_size]; kernel_rfl)) ((below_dr W17)) ?_
    (try simp only [sI, sS, sZ])
    refine go_take2 4 35 #[tt,tt,tt,tt,tt,ff,ff,ff,ff,ff,ff,ff,ff,ff,ff,ff,ff,ff,ff,ff,ff,ff,ff,ff,ff,ff,ff,ff,ff,ff,ff,ff,ff,ff,ff,ff,ff,ff,ff,ff,ff,ff,ff,ff,ff,ff,ff,ff,ff,ff] rfl rfl rfl (by kernel_rfl) (yieldsIf_load_row (by rfl) 53 _ rfl (B8) rfl 53 (pt x1 y1 z1 b1) (fun _ h => M8.out.below h M8.out.lt) Try.underlying53 rfl (by rw [pt_size]; kernel_rfl)) ((below_dr W17)) ?_
    (try simp only [sI, sS, sZ])
    refine wpBut_r1 (i := 5) (by kernel_rfl) ?_
    refine go_call 5 36 #[tt,tt,tt,tt,tt,tt,ff,ff,ff,ff,ff,ff,ff,ff,ff,ff,ff,ff,ff,ff,ff,ff,ff,ff,ff,ff,ff,ff,ff,ff,ff,ff,ff,ff,ff,ff,ff,ff,ff,ff,ff,ff,ff,ff,ff,ff,ff,ff,ff,ff] rfl rfl rfl (by rfl) rfl rfl (by rfl) ent55 (by rfl) (His.out Pa x4 y4 z4 b4 Hp4.out x1 y1 z1 b1 Hp1.out _) ?_
    rintro e wW171 ⟨rfl, hb⟩
    have hkW171 := held_next (below_dr W17) hb
    refine ⟨_, rfl, fun _ => hkW171, ?_⟩
    clear hb
    (try simp only [sI, sS, sZ])
    refine go_take2 6 37 #[tt,tt,tt,tt,tt,tt,tt,ff,ff,ff,ff,ff,ff,ff,ff,ff,ff,ff,ff,ff,ff,ff,ff,ff,ff,ff,ff,ff,ff,ff,ff,ff,ff,ff,ff,ff,ff,ff,ff,ff,ff,ff,ff,ff,ff,ff,ff,ff,ff,ff] (v := ?uv4) rfl rfl rfl (by kernel_rfl) (Or.inl ⟨by rfl, ?uy4⟩) (hkW171) ?urest4
    case uy4 => (intro _ _; go_simp; try with_reducible rfl)
    (try simp only [sI, sS, sZ])
    refine go_take2 7 38 #[tt,tt,tt,tt,tt,tt,tt,tt,ff,ff,ff,ff,ff,ff,ff,ff,ff,ff,ff,ff,ff,ff,ff,ff,ff,ff,ff,ff,ff,ff,ff,ff,ff,ff,ff,ff,ff,ff,ff,ff,ff,ff,ff,ff,ff,ff,ff,ff,ff,ff] (v := ?uv5) rfl rfl rfl (by kernel_rfl) (Or.inl ⟨by rfl, ?uy5⟩) (hkW171) ?urest5
    case uy5 => (intro _ _; go_simp; try with_reducible rfl)
    (try simp only [sI, sS, sZ])
    refine go_take2 8 39 #[tt,tt,tt,tt,tt,tt,tt,tt,tt,ff,ff,ff,ff,ff,ff,ff,ff,ff,ff,ff,ff,ff,ff,ff,ff,ff,ff,ff,ff,ff,ff,ff,ff,ff,ff,ff,ff,ff,ff,ff,ff,ff,ff,ff,ff,ff,ff,ff,ff,ff] (v := ?uv6) rfl rfl rfl (by kernel_rfl) (Or.inl ⟨by rfl, ?uy6⟩) (hkW171) ?urest6
    case uy6 => (intro _ _; go_simp; try with_reducible rfl)
    (try simp only [sI, sS, sZ])
    refine go_take2 9 40 #[tt,tt,tt,tt,tt,tt,tt,tt,tt,tt,ff,ff,ff,ff,ff,ff,ff,ff,ff,ff,ff,ff,ff,ff,ff,ff,ff,ff,ff,ff,ff,ff,ff,ff,ff,ff,ff,ff,ff,ff,ff,ff,ff,ff,ff,ff,ff,ff,ff,ff] rfl rfl rfl (by kernel_rfl) (yieldsIf_load_row (by rfl) 53 _ rfl (B8) rfl 53 (pt x1 y1 z1 b1) (fun _ h => M8.out.below h M8.out.lt) Try.underlying53 rfl (by rw [pt_size]; kernel_rfl)) (hkW171) ?_
    (try simp only [sI, sS, sZ])
    refine go_take2 10 41 #[tt,tt,tt,tt,tt,tt,tt,tt,tt,tt,tt,ff,ff,ff,ff,ff,ff,ff,ff,ff,ff,ff,ff,ff,ff,ff,ff,ff,ff,ff,ff,ff,ff,ff,ff,ff,ff,ff,ff,ff,ff,ff,ff,ff,ff,ff,ff,ff,ff,ff] rfl rfl rfl (by kernel_rfl) (yieldsIf_load_row (by rfl) 53 _ rfl (B9) rfl 53 (pt x2 y2 z2 b2) (fun _ h => M9.out.below h M9.out.lt) Try.underlying53 rfl (by rw [pt_size]; kernel_rfl)) (hkW171) ?_
    (try simp only [sI, sS, sZ])
    refine go_take2 12 43 #[tt,tt,tt,tt,tt,tt,tt,tt,tt,tt,tt,ff,tt,ff,ff,ff,ff,ff,ff,ff,ff,ff,ff,ff,ff,ff,ff,ff,ff,ff,ff,ff,ff,ff,ff,ff,ff,ff,ff,ff,ff,ff,ff,ff,ff,ff,ff,ff,ff,ff] rfl rfl rfl (by kernel_rfl) (yieldsIf_load_row (by rfl) 53 _ rfl (B9) rfl 53 (pt x2 y2 z2 b2) (fun _ h => M9.out.below h M9.out.lt) Try.underlying53 rfl (by rw [pt_size]; kernel_rfl)) (hkW171) ?_
    (try simp only [sI, sS, sZ])
    refine go_take2 13 44 #[tt,tt,tt,tt,tt,tt,tt,tt,tt,tt,tt,ff,tt,tt,ff,ff,ff,ff,ff,ff,ff,ff,ff,ff,ff,ff,ff,ff,ff,ff,ff,ff,ff,ff,ff,ff,ff,ff,ff,ff,ff,ff,ff,ff,ff,ff,ff,ff,ff,ff] rfl rfl rfl (by kernel_rfl) (yieldsIf_load_row (by rfl) 53 _ rfl (B8) rfl 53 (pt x1 y1 z1 b1) (fun _ h => M8.out.below h M8.out.lt) Try.underlying53 rfl (by rw [pt_size]; kernel_rfl)) (hkW171) ?_
    (try simp only [sI, sS, sZ])
    refine wpBut_r1 (i := 11) (by kernel_rfl) ?_
    refine go_call 11 42 #[tt,tt,tt,tt,tt,tt,tt,tt,tt,tt,tt,tt,tt,tt,ff,ff,ff,ff,ff,ff,ff,ff,ff,ff,ff,ff,ff,ff,ff,ff,ff,ff,ff,ff,ff,ff,ff,ff,ff,ff,ff,ff,ff,ff,ff,ff,ff,ff,ff,ff] rfl rfl rfl (by rfl) rfl rfl (by rfl) ent51 (by rfl) (Hab.out x1 y1 z1 b1 Hp1.out x2 y2 z2 b2 Hp2.out _) ?_
    rintro e wW172 ⟨x5, y5, z5, b5, hp5, rfl, hb⟩
    have hkW172 := held_next hkW171 hb
    refine ⟨_, rfl, fun _ => hkW172, ?_⟩
    clear hb
    (try simp only [sI, sS, sZ])
    refine wpBut_r1 (i := 14) (by kernel_rfl) ?_
    refine go_call 14 45 #[tt,tt,tt,tt,tt,tt,tt,tt,tt,tt,tt,tt,tt,tt,tt,ff,ff,ff,ff,ff,ff,ff,ff,ff,ff,ff,ff,ff,ff,ff,ff,ff,ff,ff,ff,ff,ff,ff,ff,ff,ff,ff,ff,ff,ff,ff,ff,ff,ff,ff] rfl rfl rfl (by rfl) rfl rfl (by rfl) ent51 (by rfl) (Hba.out x2 y2 z2 b2 Hp2.out x1 y1 z1 b1 Hp1.out _) ?_
    rintro e wW173 ⟨x6, y6, z6, b6, hp6, rfl, hb⟩
    have hkW173 := held_next hkW172 hb
    refine ⟨_, rfl, fun _ => hkW173, ?_⟩
    clear hb
    (try simp only [sI, sS, sZ])
    refine wpBut_r1 (i := 15) (by kernel_rfl) ?_
    refine go_call 15 46 #[tt,tt,tt,tt,tt,tt,tt,tt,tt,tt,tt,tt,tt,tt,tt,tt,ff,ff,ff,ff,ff,ff,ff,ff,ff,ff,ff,ff,ff,ff,ff,ff,ff,ff,ff,ff,ff,ff,ff,ff,ff,ff,ff,ff,ff,ff,ff,ff,ff,ff] rfl rfl rfl (by rfl) rfl rfl (by rfl) ent55 (by rfl) (His.out S x5 y5 z5 b5 hp5 x6 y6 z6 b6 hp6 _) ?_
    rintro e wW174 ⟨rfl, hb⟩
    have hkW174 := held_next hkW173 hb
    refine ⟨_, rfl, fun _ => hkW174, ?_⟩
    clear hb
    (try simp only [sI, sS, sZ])
    refine go_take2 16 47 #[tt,tt,tt,tt,tt,tt,tt,tt,tt,tt,tt,tt,tt,tt,tt,tt,tt,ff,ff,ff,ff,ff,ff,ff,ff,ff,ff,ff,ff,ff,ff,ff,ff,ff,ff,ff,ff,ff,ff,ff,ff,ff,ff,ff,ff,ff,ff,ff,ff,ff] (v := ?uv7) rfl rfl rfl (by kernel_rfl) (Or.inl ⟨by rfl, ?uy7⟩) (hkW174) ?urest7
    case uy7 => (intro _ _; go_simp; try with_reducible rfl)
    (try simp only [sI, sS, sZ])
    refine go_take2 17 48 #[tt,tt,tt,tt,tt,tt,tt,tt,tt,tt,tt,tt,tt,tt,tt,tt,tt,tt,ff,ff,ff,ff,ff,ff,ff,ff,ff,ff,ff,ff,ff,ff,ff,ff,ff,ff,ff,ff,ff,ff,ff,ff,ff,ff,ff,ff,ff,ff,ff,ff] (v := ?uv8) rfl rfl rfl (by kernel_rfl) (Or.inl ⟨by rfl, ?uy8⟩) (hkW174) ?urest8
    case uy8 => (intro _ _; go_simp; try with_reducible rfl)
    (try simp only [sI, sS, sZ])
    refine go_take2 18 49 #[tt,tt,tt,tt,tt,tt,tt,tt,tt,tt,tt,tt,tt,tt,tt,tt,tt,tt,tt,ff,ff,ff,ff,ff,ff,ff,ff,ff,ff,ff,ff,ff,ff,ff,ff,ff,ff,ff,ff,ff,ff,ff,ff,ff,ff,ff,ff,ff,ff,ff] (v := ?uv9) rfl rfl rfl (by kernel_rfl) (Or.inl ⟨by rfl, ?uy9⟩) (hkW174) ?urest9
    case uy9 => (intro _ _; go_simp; try with_reducible rfl)
    (try simp only [sI, sS, sZ])
    refine go_take2 19 50 #[tt,tt,tt,tt,tt,tt,tt,tt,tt,tt,tt,tt,tt,tt,tt,tt,tt,tt,tt,tt,ff,ff,ff,ff,ff,ff,ff,ff,ff,ff,ff,ff,ff,ff,ff,ff,ff,ff,ff,ff,ff,ff,ff,ff,ff,ff,ff,ff,ff,ff] rfl rfl rfl (by kernel_rfl) (yieldsIf_load_row (by rfl) 53 _ rfl (B8) rfl 53 (pt x1 y1 z1 b1) (fun _ h => M8.out.below h M8.out.lt) Try.underlying53 rfl (by rw [pt_size]; kernel_rfl)) (hkW174) ?_
    (try simp only [sI, sS, sZ])
    refine go_take2 20 51 #[tt,tt,tt,tt,tt,tt,tt,tt,tt,tt,tt,tt,tt,tt,tt,tt,tt,tt,tt,tt,tt,ff,ff,ff,ff,ff,ff,ff,ff,ff,ff,ff,ff,ff,ff,ff,ff,ff,ff,ff,ff,ff,ff,ff,ff,ff,ff,ff,ff,ff] rfl rfl rfl (by kernel_rfl) (yieldsIf_load_row (by rfl) 53 _ rfl (B9) rfl 53 (pt x2 y2 z2 b2) (fun _ h => M9.out.below h M9.out.lt) Try.underlying53 rfl (by rw [pt_size]; kernel_rfl)) (hkW174) ?_
    (try simp only [sI, sS, sZ])
    refine go_take2 22 53 #[tt,tt,tt,tt,tt,tt,tt,tt,tt,tt,tt,tt,tt,tt,tt,tt,tt,tt,tt,tt,tt,ff,tt,ff,ff,ff,ff,ff,ff,ff,ff,ff,ff,ff,ff,ff,ff,ff,ff,ff,ff,ff,ff,ff,ff,ff,ff,ff,ff,ff] rfl rfl rfl (by kernel_rfl) (yieldsIf_load_row (by rfl) 53 _ rfl (B10) rfl 53 (pt x3 y3 z3 b3) (fun _ h => M10.out.below h M10.out.lt) Try.underlying53 rfl (by rw [pt_size]; kernel_rfl)) (hkW174) ?_
    (try simp only [sI, sS, sZ])
    refine go_take2 24 55 #[tt,tt,tt,tt,tt,tt,tt,tt,tt,tt,tt,tt,tt,tt,tt,tt,tt,tt,tt,tt,tt,ff,tt,ff,tt,ff,ff,ff,ff,ff,ff,ff,ff,ff,ff,ff,ff,ff,ff,ff,ff,ff,ff,ff,ff,ff,ff,ff,ff,ff] rfl rfl rfl (by kernel_rfl) (yieldsIf_load_row (by rfl) 53 _ rfl (B8) rfl 53 (pt x1 y1 z1 b1) (fun _ h => M8.out.below h M8.out.lt) Try.underlying53 rfl (by rw [pt_size]; kernel_rfl)) (hkW174) ?_
    (try simp only [sI, sS, sZ])
    refine go_take2 25 56 #[tt,tt,tt,tt,tt,tt,tt,tt,tt,tt,tt,tt,tt,tt,tt,tt,tt,tt,tt,tt,tt,ff,tt,ff,tt,tt,ff,ff,ff,ff,ff,ff,ff,ff,ff,ff,ff,ff,ff,ff,ff,ff,ff,ff,ff,ff,ff,ff,ff,ff] rfl rfl rfl (by kernel_rfl) (yieldsIf_load_row (by rfl) 53 _ rfl (B9) rfl 53 (pt x2 y2 z2 b2) (fun _ h => M9.out.below h M9.out.lt) Try.underlying53 rfl (by rw [pt_size]; kernel_rfl)) (hkW174) ?_
    (try simp only [sI, sS, sZ])
    refine go_take2 26 57 #[tt,tt,tt,tt,tt,tt,tt,tt,tt,tt,tt,tt,tt,tt,tt,tt,tt,tt,tt,tt,tt,ff,tt,ff,tt,tt,tt,ff,ff,ff,ff,ff,ff,ff,ff,ff,ff,ff,ff,ff,ff,ff,ff,ff,ff,ff,ff,ff,ff,ff] rfl rfl rfl (by kernel_rfl) (yieldsIf_load_row (by rfl) 53 _ rfl (B10) rfl 53 (pt x3 y3 z3 b3) (fun _ h => M10.out.below h M10.out.lt) Try.underlying53 rfl (by rw [pt_size]; kernel_rfl)) (hkW174) ?_
    (try simp only [sI, sS, sZ])
    refine wpBut_r1 (i := 21) (by kernel_rfl) ?_
    refine go_call 21 52 #[tt,tt,tt,tt,tt,tt,tt,tt,tt,tt,tt,tt,tt,tt,tt,tt,tt,tt,tt,tt,tt,tt,tt,ff,tt,tt,tt,ff,ff,ff,ff,ff,ff,ff,ff,ff,ff,ff,ff,ff,ff,ff,ff,ff,ff,ff,ff,ff,ff,ff] rfl rfl rfl (by rfl) rfl rfl (by rfl) ent51 (by rfl) (Hab.out x1 y1 z1 b1 Hp1.out x2 y2 z2 b2 Hp2.out _) ?_
    rintro e wW175 ⟨x7, y7, z7, b7, hp7, rfl, hb⟩
    have hkW175 := held_next hkW174 hb
    refine ⟨_, rfl, fun _ => hkW175, ?_⟩
    clear hb
    (try simp only [sI, sS, sZ])
    refine wpBut_r1 (i := 23) (by kernel_rfl) ?_
    refine go_call 23 54 #[tt,tt,tt,tt,tt,tt,tt,tt,tt,tt,tt,tt,tt,tt,tt,tt,tt,tt,tt,tt,tt,tt,tt,tt,tt,tt,tt,ff,ff,ff,ff,ff,ff,ff,ff,ff,ff,ff,ff,ff,ff,ff,ff,ff,ff,ff,ff,ff,ff,ff] rfl rfl rfl (by rfl) rfl rfl (by rfl) ent51 (by rfl) (Hsc.out x7 y7 z7 b7 hp7 x3 y3 z3 b3 Hp3.out _) ?_
    rintro e wW176 ⟨x8, y8, z8, b8, hp8, rfl, hb⟩
    have hkW176 := held_next hkW175 hb
    refine ⟨_, rfl, fun _ => hkW176, ?_⟩
    clear hb
    (try simp only [sI, sS, sZ])
    refine wpBut_r1 (i := 27) (by kernel_rfl) ?_
    refine go_call 27 58 #[tt,tt,tt,tt,tt,tt,tt,tt,tt,tt,tt,tt,tt,tt,tt,tt,tt,tt,tt,tt,tt,tt,tt,tt,tt,tt,tt,tt,ff,ff,ff,ff,ff,ff,ff,ff,ff,ff,ff,ff,ff,ff,ff,ff,ff,ff,ff,ff,ff,ff] rfl rfl rfl (by rfl) rfl rfl (by rfl) ent51 (by rfl) (Hbc.out x2 y2 z2 b2 Hp2.out x3 y3 z3 b3 Hp3.out _) ?_
    rintro e wW177 ⟨x9, y9, z9, b9, hp9, rfl, hb⟩
    have hkW177 := held_next hkW176 hb
    refine ⟨_, rfl, fun _ => hkW177, ?_⟩
    clear hb
    (try simp only [sI, sS, sZ])
    refine wpBut_r1 (i := 28) (by kernel_rfl) ?_
    refine go_call 28 59 #[tt,tt,tt,tt,tt,tt,tt,tt,tt,tt,tt,tt,tt,tt,tt,tt,tt,tt,tt,tt,tt,tt,tt,tt,tt,tt,tt,tt,tt,ff,ff,ff,ff,ff,ff,ff,ff,ff,ff,ff,ff,ff,ff,ff,ff,ff,ff,ff,ff,ff] rfl rfl rfl (by rfl) rfl rfl (by rfl) ent51 (by rfl) (Hau.out x1 y1 z1 b1 Hp1.out x9 y9 z9 b9 hp9 _) ?_
    rintro e wW178 ⟨x10, y10, z10, b10, hp10, rfl, hb⟩
    have hkW178 := held_next hkW177 hb
    refine ⟨_, rfl, fun _ => hkW178, ?_⟩
    clear hb
    (try simp only [sI, sS, sZ])
    refine wpBut_r1 (i := 29) (by kernel_rfl) ?_
    refine go_call 29 60 #[tt,tt,tt,tt,tt,tt,tt,tt,tt,tt,tt,tt,tt,tt,tt,tt,tt,tt,tt,tt,tt,tt,tt,tt,tt,tt,tt,tt,tt,tt,ff,ff,ff,ff,ff,ff,ff,ff,ff,ff,ff,ff,ff,ff,ff,ff,ff,ff,ff,ff] rfl rfl rfl (by rfl) rfl rfl (by rfl) ent55 (by rfl) (His.out T x8 y8 z8 b8 hp8 x10 y10 z10 b10 hp10 _) ?_
    rintro e wW179 ⟨rfl, hb⟩
    have hkW179 := held_next hkW178 hb
    refine ⟨_, rfl, fun _ => hkW179, ?_⟩
    clear hb
    (try simp only [sI, sS, sZ])
    refine go_take2 30 61 #[tt,tt,tt,tt,tt,tt,tt,tt,tt,tt,tt,tt,tt,tt,tt,tt,tt,tt,tt,tt,tt,tt,tt,tt,tt,tt,tt,tt,tt,tt,tt,ff,ff,ff,ff,ff,ff,ff,ff,ff,ff,ff,ff,ff,ff,ff,ff,ff,ff,ff] (v := ?uv10) rfl rfl rfl (by kernel_rfl) (Or.inl ⟨by rfl, ?uy10⟩) (hkW179) ?urest10
    case uy10 => (intro _ _; go_simp; try with_reducible rfl)
    (try simp only [sI, sS, sZ])
    refine go_take2 31 62 #[tt,tt,tt,tt,tt,tt,tt,tt,tt,tt,tt,tt,tt,tt,tt,tt,tt,tt,tt,tt,tt,tt,tt,tt,tt,tt,tt,tt,tt,tt,tt,tt,ff,ff,ff,ff,ff,ff,ff,ff,ff,ff,ff,ff,ff,ff,ff,ff,ff,ff] (v := ?uv11) rfl rfl rfl (by kernel_rfl) (Or.inl ⟨by rfl, ?uy11⟩) (hkW179) ?urest11
    case uy11 => (intro _ _; go_simp; try with_reducible rfl)
    (try simp only [sI, sS, sZ])
    refine go_take2 32 63 #[tt,tt,tt,tt,tt,tt,tt,tt,tt,tt,tt,tt,tt,tt,tt,tt,tt,tt,tt,tt,tt,tt,tt,tt,tt,tt,tt,tt,tt,tt,tt,tt,tt,ff,ff,ff,ff,ff,ff,ff,ff,ff,ff,ff,ff,ff,ff,ff,ff,ff] (v := ?uv12) rfl rfl rfl (by kernel_rfl) (Or.inl ⟨by rfl, ?uy12⟩) (hkW179) ?urest12
    case uy12 => (intro _ _; go_simp; try with_reducible rfl)
    (try simp only [sI, sS, sZ])
    refine go_take2 33 64 #[tt,tt,tt,tt,tt,tt,tt,tt,tt,tt,tt,tt,tt,tt,tt,tt,tt,tt,tt,tt,tt,tt,tt,tt,tt,tt,tt,tt,tt,tt,tt,tt,tt,tt,ff,ff,ff,ff,ff,ff,ff,ff,ff,ff,ff,ff,ff,ff,ff,ff] rfl rfl rfl (by kernel_rfl) (yieldsIf_load_row (by rfl) 53 _ rfl (B8) rfl 53 (pt x1 y1 z1 b1) (fun _ h => M8.out.below h M8.out.lt) Try.underlying53 rfl (by rw [pt_size]; kernel_rfl)) (hkW179) ?_
    (try simp only [sI, sS, sZ])
    refine go_take2 34 65 #[tt,tt,tt,tt,tt,tt,tt,tt,tt,tt,tt,tt,tt,tt,tt,tt,tt,tt,tt,tt,tt,tt,tt,tt,tt,tt,tt,tt,tt,tt,tt,tt,tt,tt,tt,ff,ff,ff,ff,ff,ff,ff,ff,ff,ff,ff,ff,ff,ff,ff] rfl rfl rfl (by kernel_rfl) (yieldsIf_build (by rfl) 53 _ rfl _ (by rfl) (pt 0 0 0 false) (bd53z)) (hkW179) ?_
    (try simp only [sI, sS, sZ])
    refine go_take2 36 67 #[tt,tt,tt,tt,tt,tt,tt,tt,tt,tt,tt,tt,tt,tt,tt,tt,tt,tt,tt,tt,tt,tt,tt,tt,tt,tt,tt,tt,tt,tt,tt,tt,tt,tt,tt,ff,tt,ff,ff,ff,ff,ff,ff,ff,ff,ff,ff,ff,ff,ff] rfl rfl rfl (by kernel_rfl) (yieldsIf_load_row (by rfl) 53 _ rfl (B8) rfl 53 (pt x1 y1 z1 b1) (fun _ h => M8.out.below h M8.out.lt) Try.underlying53 rfl (by rw [pt_size]; kernel_rfl)) (hkW179) ?_
    (try simp only [sI, sS, sZ])
    refine wpBut_r1 (i := 35) (by kernel_rfl) ?_
    refine go_call 35 66 #[tt,tt,tt,tt,tt,tt,tt,tt,tt,tt,tt,tt,tt,tt,tt,tt,tt,tt,tt,tt,tt,tt,tt,tt,tt,tt,tt,tt,tt,tt,tt,tt,tt,tt,tt,tt,tt,ff,ff,ff,ff,ff,ff,ff,ff,ff,ff,ff,ff,ff] rfl rfl rfl (by rfl) rfl rfl (by rfl) ent51 (by rfl) (Hp0.out x1 y1 z1 b1 Hp1.out _) ?_
    rintro e wW1710 ⟨x11, y11, z11, b11, hp11, rfl, hb⟩
    have hkW1710 := held_next hkW179 hb
    refine ⟨_, rfl, fun _ => hkW1710, ?_⟩
    clear hb
    (try simp only [sI, sS, sZ])
    refine wpBut_r1 (i := 37) (by kernel_rfl) ?_
    refine go_call 37 68 #[tt,tt,tt,tt,tt,tt,tt,tt,tt,tt,tt,tt,tt,tt,tt,tt,tt,tt,tt,tt,tt,tt,tt,tt,tt,tt,tt,tt,tt,tt,tt,tt,tt,tt,tt,tt,tt,tt,ff,ff,ff,ff,ff,ff,ff,ff,ff,ff,ff,ff] rfl rfl rfl (by rfl) rfl rfl (by rfl) ent55 (by rfl) (His.out Pa x11 y11 z11 b11 hp11 x1 y1 z1 b1 Hp1.out _) ?_
    rintro e wW1711 ⟨rfl, hb⟩
    have hkW1711 := held_next hkW1710 hb
    refine ⟨_, rfl, fun _ => hkW1711, ?_⟩
    clear hb
    (try simp only [sI, sS, sZ])
    refine go_take2 38 69 #[tt,tt,tt,tt,tt,tt,tt,tt,tt,tt,tt,tt,tt,tt,tt,tt,tt,tt,tt,tt,tt,tt,tt,tt,tt,tt,tt,tt,tt,tt,tt,tt,tt,tt,tt,tt,tt,tt,tt,ff,ff,ff,ff,ff,ff,ff,ff,ff,ff,ff] (v := ?uv13) rfl rfl rfl (by kernel_rfl) (Or.inl ⟨by rfl, ?uy13⟩) (hkW1711) ?urest13
    case uy13 => (intro _ _; go_simp; try with_reducible rfl)
    (try simp only [sI, sS, sZ])
    refine go_take2 39 70 #[tt,tt,tt,tt,tt,tt,tt,tt,tt,tt,tt,tt,tt,tt,tt,tt,tt,tt,tt,tt,tt,tt,tt,tt,tt,tt,tt,tt,tt,tt,tt,tt,tt,tt,tt,tt,tt,tt,tt,tt,ff,ff,ff,ff,ff,ff,ff,ff,ff,ff] (v := ?uv14) rfl rfl rfl (by kernel_rfl) (Or.inl ⟨by rfl, ?uy14⟩) (hkW1711) ?urest14
    case uy14 => (intro _ _; go_simp; try with_reducible rfl)
    (try simp only [sI, sS, sZ])
    refine go_take2 40 71 #[tt,tt,tt,tt,tt,tt,tt,tt,tt,tt,tt,tt,tt,tt,tt,tt,tt,tt,tt,tt,tt,tt,tt,tt,tt,tt,tt,tt,tt,tt,tt,tt,tt,tt,tt,tt,tt,tt,tt,tt,tt,ff,ff,ff,ff,ff,ff,ff,ff,ff] (v := ?uv15) rfl rfl rfl (by kernel_rfl) (Or.inl ⟨by rfl, ?uy15⟩) (hkW1711) ?urest15
    case uy15 => (intro _ _; go_simp; try with_reducible rfl)
    (try simp only [sI, sS, sZ])
    refine go_take2 41 72 #[tt,tt,tt,tt,tt,tt,tt,tt,tt,tt,tt,tt,tt,tt,tt,tt,tt,tt,tt,tt,tt,tt,tt,tt,tt,tt,tt,tt,tt,tt,tt,tt,tt,tt,tt,tt,tt,tt,tt,tt,tt,tt,ff,ff,ff,ff,ff,ff,ff,ff] rfl rfl rfl (by kernel_rfl) (yieldsIf_load_row (by rfl) 53 _ rfl (B8) rfl 53 (pt x1 y1 z1 b1) (fun _ h => M8.out.below h M8.out.lt) Try.underlying53 rfl (by rw [pt_size]; kernel_rfl)) (hkW1711) ?_
    (try simp only [sI, sS, sZ])
    refine go_take2 42 73 #[tt,tt,tt,tt,tt,tt,tt,tt,tt,tt,tt,tt,tt,tt,tt,tt,tt,tt,tt,tt,tt,tt,tt,tt,tt,tt,tt,tt,tt,tt,tt,tt,tt,tt,tt,tt,tt,tt,tt,tt,tt,tt,tt,ff,ff,ff,ff,ff,ff,ff] rfl rfl rfl (by kernel_rfl) (yieldsIf_load_row (by rfl) 53 _ rfl (B9) rfl 53 (pt x2 y2 z2 b2) (fun _ h => M9.out.below h M9.out.lt) Try.underlying53 rfl (by rw [pt_size]; kernel_rfl)) (hkW1711) ?_
    (try simp only [sI, sS, sZ])
    refine go_take2 44 75 #[tt,tt,tt,tt,tt,tt,tt,tt,tt,tt,tt,tt,tt,tt,tt,tt,tt,tt,tt,tt,tt,tt,tt,tt,tt,tt,tt,tt,tt,tt,tt,tt,tt,tt,tt,tt,tt,tt,tt,tt,tt,tt,tt,ff,tt,ff,ff,ff,ff,ff] rfl rfl rfl (by kernel_rfl) (yieldsIf_load_row (by rfl) 53 _ rfl (B9) rfl 53 (pt x2 y2 z2 b2) (fun _ h => M9.out.below h M9.out.lt) Try.underlying53 rfl (by rw [pt_size]; kernel_rfl)) (hkW1711) ?_
    (try simp only [sI, sS, sZ])
    refine go_take2 46 77 #[tt,tt,tt,tt,tt,tt,tt,tt,tt,tt,tt,tt,tt,tt,tt,tt,tt,tt,tt,tt,tt,tt,tt,tt,tt,tt,tt,tt,tt,tt,tt,tt,tt,tt,tt,tt,tt,tt,tt,tt,tt,tt,tt,ff,tt,ff,tt,ff,ff,ff] rfl rfl rfl (by kernel_rfl) (yieldsIf_load_row (by rfl) 53 _ rfl (B8) rfl 53 (pt x1 y1 z1 b1) (fun _ h => M8.out.below h M8.out.lt) Try.underlying53 rfl (by rw [pt_size]; kernel_rfl)) (hkW1711) ?_
    (try simp only [sI, sS, sZ])
    refine wpBut_r1 (i := 43) (by kernel_rfl) ?_
    refine go_call 43 74 #[tt,tt,tt,tt,tt,tt,tt,tt,tt,tt,tt,tt,tt,tt,tt,tt,tt,tt,tt,tt,tt,tt,tt,tt,tt,tt,tt,tt,tt,tt,tt,tt,tt,tt,tt,tt,tt,tt,tt,tt,tt,tt,tt,tt,tt,ff,tt,ff,ff,ff] rfl rfl rfl (by rfl) rfl rfl (by rfl) ent51 (by rfl) (Hab.out x1 y1 z1 b1 Hp1.out x2 y2 z2 b2 Hp2.out _) ?_
    rintro e wW1712 ⟨x12, y12, z12, b12, hp12, rfl, hb⟩
    have hkW1712 := held_next hkW1711 hb
    refine ⟨_, rfl, fun _ => hkW1712, ?_⟩
    clear hb
    (try simp only [sI, sS, sZ])
    refine wpBut_r1 (i := 45) (by kernel_rfl) ?_
    refine go_call 45 76 #[tt,tt,tt,tt,tt,tt,tt,tt,tt,tt,tt,tt,tt,tt,tt,tt,tt,tt,tt,tt,tt,tt,tt,tt,tt,tt,tt,tt,tt,tt,tt,tt,tt,tt,tt,tt,tt,tt,tt,tt,tt,tt,tt,tt,tt,tt,tt,ff,ff,ff] rfl rfl rfl (by rfl) rfl rfl (by rfl) ent53 (by rfl) (Hmi.out x12 y12 z12 b12 hp12 x2 y2 z2 b2 Hp2.out _) ?_
    rintro e wW1713 ⟨x13, y13, z13, b13, hp13, rfl, hb⟩
    have hkW1713 := held_next hkW1712 hb
    refine ⟨_, rfl, fun _ => hkW1713, ?_⟩
    clear hb
    (try simp only [sI, sS, sZ])
    refine wpBut_r1 (i := 47) (by kernel_rfl) ?_
    refine go_call 47 78 #[tt,tt,tt,tt,tt,tt,tt,tt,tt,tt,tt,tt,tt,tt,tt,tt,tt,tt,tt,tt,tt,tt,tt,tt,tt,tt,tt,tt,tt,tt,tt,tt,tt,tt,tt,tt,tt,tt,tt,tt,tt,tt,tt,tt,tt,tt,tt,tt,ff,ff] rfl rfl rfl (by rfl) rfl rfl (by rfl) ent55 (by rfl) (His.out Pa x13 y13 z13 b13 hp13 x1 y1 z1 b1 Hp1.out _) ?_
    rintro e wW1714 ⟨rfl, hb⟩
    have hkW1714 := held_next hkW1713 hb
    refine ⟨_, rfl, fun _ => hkW1714, ?_⟩
    clear hb
    (try simp only [sI, sS, sZ])
    refine go_take2 48 79 #[tt,tt,tt,tt,tt,tt,tt,tt,tt,tt,tt,tt,tt,tt,tt,tt,tt,tt,tt,tt,tt,tt,tt,tt,tt,tt,tt,tt,tt,tt,tt,tt,tt,tt,tt,tt,tt,tt,tt,tt,tt,tt,tt,tt,tt,tt,tt,tt,tt,ff] (v := ?uv16) rfl rfl rfl (by kernel_rfl) (Or.inl ⟨by rfl, ?uy16⟩) (hkW1714) ?urest16
    case uy16 => (intro _ _; go_simp; try with_reducible rfl)
    (try simp only [sI, sS, sZ])
    refine go_take2 49 80 #[tt,tt,tt,tt,tt,tt,tt,tt,tt,tt,tt,tt,tt,tt,tt,tt,tt,tt,tt,tt,tt,tt,tt,tt,tt,tt,tt,tt,tt,tt,tt,tt,tt,tt,tt,tt,tt,tt,tt,tt,tt,tt,tt,tt,tt,tt,tt,tt,tt,tt] (v := ?uv17) rfl rfl rfl (by kernel_rfl) (Or.inl ⟨by rfl, ?uy17⟩) (hkW1714) ?urest17
    case uy17 => (intro _ _; go_simp; try with_reducible rfl)
    (try simp only [sI, sS, sZ])
    refine wpBut_done (by kernel_rfl) (NoPanic.normal ?_)
    replace M3 := Lib.hid (M3.out.call hkW1714)
    replace M4 := Lib.hid (M4.out.call hkW1714)
    replace M5 := Lib.hid (M5.out.call hkW1714)
    replace M7 := Lib.hid (M7.out.call hkW1714)
    replace M8 := Lib.hid (M8.out.call hkW1714)
    replace M9 := Lib.hid (M9.out.call hkW1714)
    replace M10 := Lib.hid (M10.out.call hkW1714)
    replace M11 := Lib.hid (M11.out.call hkW1714)
    replace HB := Lib.hid (held_next HB.out hkW1714)
    repeat ((fail_if_success (with_reducible (show wpList _ _ _ _ _ _))); go_step)
    refine wp_region_noPanic ?_
    refine wp_region_go 99 18 #[ff,ff,ff,ff,ff,ff,ff,ff,ff,ff,ff,ff,ff,ff,ff,ff,ff,ff] (by kernel_rfl) rfl rfl ?_
    intro W18 hW18
    rw [← hW18] at M3 M4 M5 M7 M8 M9 M10 M11 HB
    clear hW18
    refine go_take2 0 81 #[tt,ff,ff,ff,ff,ff,ff,ff,ff,ff,ff,ff,ff,ff,ff,ff,ff,ff] rfl rfl rfl (by kernel_rfl) (yieldsIf_load_row (by rfl) 53 _ rfl (B7) rfl 53 (pt x0 y0 z0 b0) (fun _ h => M7.out.below h M7.out.lt) Try.underlying53 rfl (by rw [pt_size]; kernel_rfl)) ((below_dr W18)) ?_
    (try simp only [sI, sS, sZ])
    refine go_take2 1 82 #[tt,tt,ff,ff,ff,ff,ff,ff,ff,ff,ff,ff,ff,ff,ff,ff,ff,ff] rfl rfl rfl (by kernel_rfl) (yieldsIf_load_row (by rfl) 24 _ rfl (w.heap.size) rfl 24 (k32 n1) (fun _ h => M3.out.below h M3.out.lt) Try.underlying24 rfl (by rw [k32_size]; kernel_rfl)) ((below_dr W18)) ?_
    (try simp only [sI, sS, sZ])
    refine go_take2 2 83 #[tt,tt,tt,ff,ff,ff,ff,ff,ff,ff,ff,ff,ff,ff,ff,ff,ff,ff] rfl rfl rfl (by kernel_rfl) (yieldsIf_build (by rfl) 24 _ rfl _ (by rfl) (k32 1) (bd24_o)) ((below_dr W18)) ?_
    (try simp only [sI, sS, sZ])
    refine go_take2 3 84 #[tt,tt,tt,tt,ff,ff,ff,ff,ff,ff,ff,ff,ff,ff,ff,ff,ff,ff] rfl rfl rfl (by kernel_rfl) (yieldsIf_load_row (by rfl) 24 _ rfl (w.heap.size + 1) rfl 24 (k32 n2) (fun _ h => M4.out.below h M4.out.lt) Try.underlying24 rfl (by rw [k32_size]; kernel_rfl)) ((below_dr W18)) ?_
    (try simp only [sI, sS, sZ])
    refine go_take2 6 87 #[tt,tt,tt,tt,ff,ff,tt,ff,ff,ff,ff,ff,ff,ff,ff,ff,ff,ff] rfl rfl rfl (by kernel_rfl) (yieldsIf_load_row (by rfl) 53 _ rfl (B8) rfl 53 (pt x1 y1 z1 b1) (fun _ h => M8.out.below h M8.out.lt) Try.underlying53 rfl (by rw [pt_size]; kernel_rfl)) ((below_dr W18)) ?_
    (try simp only [sI, sS, sZ])
    refine go_take2 7 88 #[tt,tt,tt,tt,ff,ff,tt,tt,ff,ff,ff,ff,ff,ff,ff,ff,ff,ff] rfl rfl rfl (by kernel_rfl) (yieldsIf_load_row (by rfl) 53 _ rfl (B9) rfl 53 (pt x2 y2 z2 b2) (fun _ h => M9.out.below h M9.out.lt) Try.underlying53 rfl (by rw [pt_size]; kernel_rfl)) ((below_dr W18)) ?_
    (try simp only [sI, sS, sZ])
    refine wpBut_r1 (i := 4) (by kernel_rfl) ?_
    refine go_call 4 85 #[tt,tt,tt,tt,tt,ff,tt,tt,ff,ff,ff,ff,ff,ff,ff,ff,ff,ff] rfl rfl rfl (by rfl) rfl rfl (by rfl) ent26 (by rfl) (Hti.out _) ?_
    rintro e wW181 ⟨rfl, hb⟩
    have hkW181 := held_next (below_dr W18) hb
    refine ⟨_, rfl, fun _ => hkW181, ?_⟩
    clear hb
    (try simp only [sI, sS, sZ])
    refine wpBut_r1 (i := 5) (by kernel_rfl) ?_
    refine go_call 5 86 #[tt,tt,tt,tt,tt,tt,tt,tt,ff,ff,ff,ff,ff,ff,ff,ff,ff,ff] rfl rfl rfl (by rfl) rfl rfl (by rfl) ent56 (by rfl) (Hmr.out x0 y0 z0 b0 Hq0.out _) ?_
    rintro e wW182 ⟨x5, y5, z5, b5, hp5, rfl, hb⟩
    have hkW182 := held_next hkW181 hb
    refine ⟨_, rfl, fun _ => hkW182, ?_⟩
    clear hb
    (try simp only [sI, sS, sZ])
    refine wpBut_r1 (i := 8) (by kernel_rfl) ?_
    refine go_call 8 89 #[tt,tt,tt,tt,tt,tt,tt,tt,tt,ff,ff,ff,ff,ff,ff,ff,ff,ff] rfl rfl rfl (by rfl) rfl rfl (by rfl) ent51 (by rfl) (Hab.out x1 y1 z1 b1 Hp1.out x2 y2 z2 b2 Hp2.out _) ?_
    rintro e wW183 ⟨x6, y6, z6, b6, hp6, rfl, hb⟩
    have hkW183 := held_next hkW182 hb
    refine ⟨_, rfl, fun _ => hkW183, ?_⟩
    clear hb
    (try simp only [sI, sS, sZ])
    refine wpBut_r1 (i := 9) (by kernel_rfl) ?_
    refine go_call 9 90 #[tt,tt,tt,tt,tt,tt,tt,tt,tt,tt,ff,ff,ff,ff,ff,ff,ff,ff] rfl rfl rfl (by rfl) rfl rfl (by rfl) ent55 (by rfl) (His.out S x5 y5 z5 b5 hp5 x6 y6 z6 b6 hp6 _) ?_
    rintro e wW184 ⟨rfl, hb⟩
    have hkW184 := held_next hkW183 hb
    refine ⟨_, rfl, fun _ => hkW184, ?_⟩
    clear hb
    (try simp only [sI, sS, sZ])
    refine go_take2 10 91 #[tt,tt,tt,tt,tt,tt,tt,tt,tt,tt,tt,ff,ff,ff,ff,ff,ff,ff] (v := ?uv18) rfl rfl rfl (by kernel_rfl) (Or.inl ⟨by rfl, ?uy18⟩) (hkW184) ?urest18
    case uy18 => (intro _ _; go_simp; try with_reducible rfl)
    (try simp only [sI, sS, sZ])
    refine go_take2 11 92 #[tt,tt,tt,tt,tt,tt,tt,tt,tt,tt,tt,tt,ff,ff,ff,ff,ff,ff] rfl rfl rfl (by kernel_rfl) (yieldsIf_load_row (by rfl) 53 _ rfl (B7) rfl 53 (pt x0 y0 z0 b0) (fun _ h => M7.out.below h M7.out.lt) Try.underlying53 rfl (by rw [pt_size]; kernel_rfl)) (hkW184) ?_
    (try simp only [sI, sS, sZ])
    refine go_take2 14 95 #[tt,tt,tt,tt,tt,tt,tt,tt,tt,tt,tt,tt,ff,ff,tt,ff,ff,ff] rfl rfl rfl (by kernel_rfl) (yieldsIf_build (by rfl) 53 _ rfl _ (by rfl) (pt 0 0 0 false) (bd53z)) (hkW184) ?_
    (try simp only [sI, sS, sZ])
    refine wpBut_r1 (i := 12) (by kernel_rfl) ?_
    refine go_call 12 93 #[tt,tt,tt,tt,tt,tt,tt,tt,tt,tt,tt,tt,tt,ff,tt,ff,ff,ff] rfl rfl rfl (by rfl) rfl rfl (by rfl) ent59 (by rfl) (Hro.out _) ?_
    rintro e wW185 ⟨rfl, hb⟩
    have hkW185 := held_next hkW184 hb
    refine ⟨_, rfl, fun _ => hkW185, ?_⟩
    clear hb
    (try simp only [sI, sS, sZ])
    refine wpBut_r1 (i := 13) (by kernel_rfl) ?_
    refine go_call 13 94 #[tt,tt,tt,tt,tt,tt,tt,tt,tt,tt,tt,tt,tt,tt,tt,ff,ff,ff] rfl rfl rfl (by rfl) rfl rfl (by rfl) ent56 (by rfl) (Hmo.out x0 y0 z0 b0 Hq0.out _) ?_
    rintro e wW186 ⟨x7, y7, z7, b7, hp7, rfl, hb⟩
    have hkW186 := held_next hkW185 hb
    refine ⟨_, rfl, fun _ => hkW186, ?_⟩
    clear hb
    (try simp only [sI, sS, sZ])
    refine wpBut_r1 (i := 15) (by kernel_rfl) ?_
    refine go_call 15 96 #[tt,tt,tt,tt,tt,tt,tt,tt,tt,tt,tt,tt,tt,tt,tt,tt,ff,ff] rfl rfl rfl (by rfl) rfl rfl (by rfl) ent55 (by rfl) (His.out _ x7 y7 z7 b7 hp7 0 0 0 false zero_pta _) ?_
    rintro e wW187 ⟨rfl, hb⟩
    have hkW187 := held_next hkW186 hb
    refine ⟨_, rfl, fun _ => hkW187, ?_⟩
    clear hb
    (try simp only [sI, sS, sZ])
    refine go_take2 16 97 #[tt,tt,tt,tt,tt,tt,tt,tt,tt,tt,tt,tt,tt,tt,tt,tt,tt,ff] (v := ?uv19) rfl rfl rfl (by kernel_rfl) (Or.inl ⟨by rfl, ?uy19⟩) (hkW187) ?urest19
    case uy19 => (intro _ _; go_simp; try with_reducible rfl)
    (try simp only [sI, sS, sZ])
    refine go_take2 17 6 #[tt,tt,tt,tt,tt,tt,tt,tt,tt,tt,tt,tt,tt,tt,tt,tt,tt,tt] (v := ?uv20) rfl rfl rfl (by kernel_rfl) (Or.inl ⟨by rfl, ?uy20⟩) (hkW187) ?urest20
    case uy20 => (intro _ _; go_simp; try with_reducible rfl)
    (try simp only [sI, sS, sZ])
    refine wpBut_done (by kernel_rfl) (NoPanic.normal ?_)
    replace M3 := Lib.hid (M3.out.call hkW187)
    replace M4 := Lib.hid (M4.out.call hkW187)
    replace M5 := Lib.hid (M5.out.call hkW187)
    replace M7 := Lib.hid (M7.out.call hkW187)
    replace M8 := Lib.hid (M8.out.call hkW187)
    replace M9 := Lib.hid (M9.out.call hkW187)
    replace M10 := Lib.hid (M10.out.call hkW187)
    replace M11 := Lib.hid (M11.out.call hkW187)
    replace HB := Lib.hid (held_next HB.out hkW187)
    go_wp2_with fail
    go_ret
    exact ⟨rfl, HB.out⟩
end Go.Proofs.Ytjiagjonlcadiaa
end
section
namespace Go.Proofs.Ytjiagjonlcadiaa
open Go.ChangeShapes Go.WideShapes Go.ChangeAt Go.RowKit

theorem own : ownKnob Try.prog.godebug = none := by kernel_rfl
theorem laidOut : laidOutB Try.prog = true := by kernel_rfl
theorem cells24 : Try.prog.cellsOf 24 = 32 := by kernel_rfl
theorem cells5 : Try.prog.cellsOf 5 = 1 := by kernel_rfl

set_option maxRecDepth 100000 in
theorem okWide_arr {w : World} {r : Reach} {b0 : Nat} {t e : TypeId} {n : Nat} {v : Value} (ht : Try.prog.underlying t = some (.array n e)) (h : Value.okWide Try.prog w r b0 t v) : ∃ cs, v = .agg cs ∧ cs.size = Try.prog.cellsOf t := by
  simp only [Value.okWide, ht] at h
  obtain ⟨cs, h1, h2, _⟩ := h
  exact ⟨cs, h1, h2⟩


set_option maxRecDepth 100000 in
theorem fig_number (f : Nat → Int) (hf : ∀ i, i < 32 → 0 ≤ f i ∧ f i < 256) : ∃ n : Nat, n < 115792089237316195423570985008687907853269984665640564039457584007913129639936 ∧ row .u8 32 f = k32 n := by
  have h0 := sumf_nonneg 256 (by omega) f 32 (fun i hi => (hf i hi).1)
  have h1 := sumf_lt 256 (by omega) f 32 (fun i hi => (hf i hi).2)
  obtain ⟨n, hn⟩ := Int.eq_ofNat_of_zero_le h0
  refine ⟨n, ?_, ?_⟩
  · have e : (256 : Int) ^ 32 = 115792089237316195423570985008687907853269984665640564039457584007913129639936 := by decide +kernel
    rw [hn, e] at h1; omega
  · exact row_ext _ _ _ _ (sumf_uniq 256 f n 32 (fun i hi => hf i hi) hn)

set_option maxRecDepth 100000 in
theorem open_key {H : Type} {enc : TypeId × Value → H} {w : World} {base : Nat} {spare : Nat → Bool} {held : Bool} {r : Reach} {b0 : Nat} {v : Value} {d : DataW H} {p : List MemPlace}
    (hv : Value.okWide Try.prog w r b0 24 v) (h : DataW.Trod enc Try.prog w base spare held 24 v d p) : ∃ n : Nat, n < 115792089237316195423570985008687907853269984665640564039457584007913129639936 ∧ v = .agg (k32 n) := by
  obtain ⟨cs, rfl, hsz⟩ := okWide_arr Try.underlying24 hv
  rw [cells24] at hsz
  obtain ⟨fuel, hf⟩ := h
  obtain ⟨xs, m, _, _, _, hl, hel⟩ := DataW.trod_array Try.underlying24 hf
  have hz : ∀ i : Nat, ∃ z : Int, i < 32 → cs[i]? = some (.int .u8 z) ∧ (Lit.int .u8 z).wf = true := by
    intro i
    by_cases hi : i < 32
    · have hE := hel i hi
      rw [cells5, Nat.mul_one, List.getElem?_eq_getElem (by omega)] at hE
      obtain ⟨z, e1, _, e3⟩ := DataW.trod_int Try.underlying5 hE
      refine ⟨z, fun _ => ⟨?_, e3⟩⟩
      have h0 : (((Value.agg cs).cells.toList.drop i).take 1)[0]? = some (.int .u8 z) := by rw [e1]; rfl
      simpa [Value.cells] using h0
    · exact ⟨0, fun h => absurd h hi⟩
  obtain ⟨f, hf2⟩ := Classical.skolem.1 hz
  obtain ⟨n, hn, he⟩ := fig_number f (fun i hi => by
    have := bounds_u8 (hf2 i hi).2
    omega)
  refine ⟨n, hn, ?_⟩
  rw [← he]
  congr 1
  apply Array.ext_getElem?
  intro j
  by_cases hj : j < 32
  · rw [(hf2 j hj).1, row_get _ _ _ _ hj]
  · rw [row_none _ _ _ _ hj]; simp; omega
end Go.Proofs.Ytjiagjonlcadiaa
end
