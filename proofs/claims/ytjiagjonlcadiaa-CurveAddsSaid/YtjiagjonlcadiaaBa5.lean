/- The program's field and points, and the document's: what each function of theirs comes to, and the group of the points. -/
import Derived.RangeFuncNested
import Derived.RangeFuncBound
import Derived.RangeFuncCalls
import Derived.RangeFuncLeaves
import Derived.RangeFuncBox
import Derived.RangeFuncFrom
import Derived.OrdersIn
import Derived.TacticsIn
import Derived.LoopIn
import Derived.LoopNIn
import Derived.Shelf.Abstract
import Derived.Shelf.RegionOpen
import Derived.WalkKit
import Derived.OwnWalkIn
import Derived.TacticsInMore
import Derived.Laws.MakeOwn
import Derived.Test.YtjiagjonlcadiaaBa4
section
namespace Go.Proofs.Ytjiagjonlcadiaa
open Go.RowKit Go.Lib

set_option maxRecDepth 100000 in
set_option linter.unusedSimpArgs false in
set_option maxHeartbeats 8000000 in
theorem pplus_any (x1 y1 c1 : Nat) (b1 : Bool) (X1 Y1 Z1 : Nat) (p1 : IsPt x1 y1 c1 b1 X1 Y1 Z1) (x2 y2 c2 : Nat) (b2 : Bool) (X2 Y2 Z2 : Nat) (p2 : IsPt x2 y2 c2 b2 X2 Y2 Z2) (w : World) :
    Calls Try.prog 51 #[.agg (pt x1 y1 c1 b1), .agg (pt x2 y2 c2 b2)] w (PtP (padd SL X1 Y1 Z1 X2 Y2 Z2).1 (padd SL X1 Y1 Z1 X2 Y2 Z2).2.1 (padd SL X1 Y1 Z1 X2 Y2 Z2).2.2 w) := by
  have hadd := fun d hd hr w => add_of d SL hd hr x1 y1 c1 b1 X1 Y1 Z1 p1 x2 y2 c2 b2 X2 Y2 Z2 p2 w
  obtain ⟨R, hR⟩ : ∃ R, R = padd SL X1 Y1 Z1 X2 Y2 Z2 := ⟨_, rfl⟩
  rw [← hR] at hadd ⊢
  clear hR p1 p2
  have Hadd := Lib.hid hadd; clear hadd
  go_enter Try.func51, Try.ntmps51
  repeat ((fail_if_success (with_reducible (show wpList _ _ _ _ _ _))); go_step)
  iterate 3 (refine wpList_step (fun K hK => ?_); go_simp; (try go_bits); refine hK _ _ ?_; clear hK K)
  refine wpList_nil ?_
  have M2 := Lib.hid (((Has.new w  (pt x1 y1 c1 b1) 53).alloc (.cells (pt x2 y2 c2 b2) 53)).alloc (.cells (#[.int .u64 0, .int .u64 0, .int .u64 0, .int .u64 0, .int .u64 0, .int .u64 0, .int .u64 0, .int .u64 0, .int .u64 0, .int .u64 0, .int .u64 0, .int .u64 0, .bool false] : Array Value) 53))
  have M3 := Lib.hid ((Has.new1 w (.cells (pt x1 y1 c1 b1) 53) (pt x2 y2 c2 b2) 53).alloc (.cells (#[.int .u64 0, .int .u64 0, .int .u64 0, .int .u64 0, .int .u64 0, .int .u64 0, .int .u64 0, .int .u64 0, .int .u64 0, .int .u64 0, .int .u64 0, .int .u64 0, .bool false] : Array Value) 53))
  have M4 := Lib.hid (HasN.new2 w (.cells (pt x1 y1 c1 b1) 53) (.cells (pt x2 y2 c2 b2) 53) (#[.int .u64 0, .int .u64 0, .int .u64 0, .int .u64 0, .int .u64 0, .int .u64 0, .int .u64 0, .int .u64 0, .int .u64 0, .int .u64 0, .int .u64 0, .int .u64 0, .bool false] : Array Value) 53 13 (by kernel_rfl))
  have HB := Lib.hid (below_3 w (.cells (pt x1 y1 c1 b1) 53) (.cells (pt x2 y2 c2 b2) 53) (.cells (#[.int .u64 0, .int .u64 0, .int .u64 0, .int .u64 0, .int .u64 0, .int .u64 0, .int .u64 0, .int .u64 0, .int .u64 0, .int .u64 0, .int .u64 0, .int .u64 0, .bool false] : Array Value) 53))
  obtain ⟨yw1, hwyw1⟩ : ∃ ww, ww = (((w.alloc (.cells (pt x1 y1 c1 b1) 53)).alloc (.cells (pt x2 y2 c2 b2) 53)).alloc (.cells (#[.int .u64 0, .int .u64 0, .int .u64 0, .int .u64 0, .int .u64 0, .int .u64 0, .int .u64 0, .int .u64 0, .int .u64 0, .int .u64 0, .int .u64 0, .int .u64 0, .bool false] : Array Value) 53)) := ⟨_, rfl⟩
  rw [← hwyw1] at M2 M3 M4 HB ⊢
  clear hwyw1
  repeat ((fail_if_success (with_reducible (show wpList _ _ _ _ _ _))); go_step)
  refine wp_region_noPanic ?_
  refine wp_region_go 4 5 #[ff,ff,ff,ff,ff] (by kernel_rfl) rfl rfl ?_
  intro W2 hW2
  rw [← hW2] at M2 M3 M4 HB
  clear hW2
  have M4N := Lib.hid (by first | exact M4.out | exact M4.out.toN (by first | exact e4_size _ | exact r22_size _ | exact k32_size _ | exact pt_size .. | exact rp_size ..) : HasN W2 (w.heap.size + 1 + 1) _ _)
  refine go_take2 1 6 #[ff,tt,ff,ff,ff] rfl rfl rfl (by kernel_rfl) (yieldsIf_load_row (by rfl) 53 _ rfl (w.heap.size) rfl 53 (pt x1 y1 c1 b1) (fun _ h => M2.out.below h M2.out.lt) Try.underlying53 rfl (by rw [pt_size]; kernel_rfl)) ((below_dr W2)) ?_
  (try simp only [sI, sS, sZ])
  refine go_take2 2 7 #[ff,tt,tt,ff,ff] rfl rfl rfl (by kernel_rfl) (yieldsIf_load_row (by rfl) 53 _ rfl (w.heap.size + 1) rfl 53 (pt x2 y2 c2 b2) (fun _ h => M3.out.below h M3.out.lt) Try.underlying53 rfl (by rw [pt_size]; kernel_rfl)) ((below_dr W2)) ?_
  (try simp only [sI, sS, sZ])
  refine wpBut_r1 (i := 0) (by kernel_rfl) ?_
  refine go_call 0 5 #[tt,tt,tt,ff,ff] rfl rfl rfl (by rfl) rfl rfl (by rfl) ent91 (by rfl) (slope_any _) ?_
  rintro e wW21 ⟨d, hd, hdr, rfl, hb⟩
  have hkW21 := held_next (below_dr W2) hb
  refine ⟨_, rfl, fun _ => hkW21, ?_⟩
  clear hb
  (try simp only [sI, sS, sZ])
  refine wpBut_r1 (i := 3) (by kernel_rfl) ?_
  refine go_call 3 8 #[tt,tt,tt,tt,ff] rfl rfl rfl (by rfl) rfl rfl (by rfl) ent92 (by rfl) (Hadd.out d hd hdr _) ?_
  rintro e wW22 ⟨px, py, pz, pb, hpt, rfl, hb⟩
  have hkW22 := held_next hkW21 hb
  refine ⟨_, rfl, fun _ => hkW22, ?_⟩
  clear hb
  (try simp only [sI, sS, sZ])
  refine wpBut_r1 (i := 4) (by kernel_rfl) ?_
  obtain ⟨Zq, hZ, mZ⟩ := M4N.out.below hkW22 M4N.out.lt
  have MZ := Lib.hid mZ; clear mZ
  have HZ := Lib.hid hZ; clear hZ
  refine go_store 4 #[tt,tt,tt,tt,tt] rfl rfl rfl (by rfl) 53 _ _ rfl (w.heap.size + 1 + 1) _ rfl rfl 53 Zq MZ.out (by rw [pt_size]; kernel_rfl) (HZ.out.trans (pt_size ..).symm) (pt_one _ _ _ _) ⟨fun h => (h rfl).elim, ?_⟩
  (try simp only [sI, sS, sZ])
  refine wpBut_done (by kernel_rfl) (NoPanic.normal ?_)
  replace M2 := Lib.hid ((M2.out.call hkW22).setRow_other (w.heap.size + 1 + 1) (pt px py pz pb) (by omega))
  replace M3 := Lib.hid ((M3.out.call hkW22).setRow_other (w.heap.size + 1 + 1) (pt px py pz pb) (by omega))
  clear M4 M4N
  have M4 := Lib.hid (MZ.out.setRow (pt px py pz pb)); clear MZ HZ
  replace HB := Lib.hid (below_setRow (held_next HB.out hkW22) (w.heap.size + 1 + 1) (pt px py pz pb) (by omega))
  obtain ⟨yw3, hwyw3⟩ : ∃ ww, ww = wW22.setRow (w.heap.size + 1 + 1) (pt px py pz pb) := ⟨_, rfl⟩
  rw [← hwyw3] at M2 M3 M4 HB ⊢
  clear hwyw3
  go_wp2_with fail
  exact bodyPost_ret (v := .agg (pt px py pz pb)) (results_cell_row (t := 53) (by rfl) _ _ (w.heap.size + 1 + 1) _ _ _ rfl M4.out Try.underlying53 rfl (by rw [pt_size]; kernel_rfl)) rfl ⟨px, py, pz, pb, hpt, rfl, HB.out⟩

/-- the opposite of a residue -/
def negP (X : Nat) : Nat := (0 % PP + (PP - X)) % PP
set_option maxRecDepth 100000 in
set_option linter.unusedSimpArgs false in
set_option maxHeartbeats 8000000 in
theorem pminus_any (x1 y1 c1 : Nat) (b1 : Bool) (X1 Y1 Z1 : Nat) (p1 : IsPt x1 y1 c1 b1 X1 Y1 Z1) (x2 y2 c2 : Nat) (b2 : Bool) (X2 Y2 Z2 : Nat) (p2 : IsPt x2 y2 c2 b2 X2 Y2 Z2) (w : World) :
    Calls Try.prog 53 #[.agg (pt x1 y1 c1 b1), .agg (pt x2 y2 c2 b2)] w (PtP (padd SL X1 Y1 Z1 (negP X2) Y2 Z2).1 (padd SL X1 Y1 Z1 (negP X2) Y2 Z2).2.1 (padd SL X1 Y1 Z1 (negP X2) Y2 Z2).2.2 w) := by
  have hpl := fun w => plain_any x2 y2 c2 b2 X2 Y2 Z2 p2 w
  have hplus := fun x y z b h w => pplus_any x1 y1 c1 b1 X1 Y1 Z1 p1 x y z b (negP X2) Y2 Z2 h w
  have hmi := minus_any
  have hmd := made_any
  obtain ⟨NX, hNX⟩ : ∃ n, n = negP X2 := ⟨_, rfl⟩
  rw [← hNX] at hplus ⊢
  have hnx : ∀ m u, u % PP = X2 → m % PP = (0 % PP + (PP - u % PP)) % PP → m % PP = NX := by
    intro m u h1 h2; rw [hNX, h2, h1]; rfl
  obtain ⟨R, hR⟩ : ∃ R, R = padd SL X1 Y1 Z1 NX Y2 Z2 := ⟨_, rfl⟩
  rw [← hR] at hplus ⊢
  clear hR hNX p1 p2
  have Hpl := Lib.hid hpl; clear hpl
  have Hplus := Lib.hid hplus; clear hplus
  have Hmi := Lib.hid hmi; clear hmi
  have Hmd := Lib.hid hmd; clear hmd
  have Hnx := Lib.hid hnx; clear hnx
  go_enter Try.func53, Try.ntmps53
  repeat ((fail_if_success (with_reducible (show wpList _ _ _ _ _ _))); go_step)
  iterate 3 (refine wpList_step (fun K hK => ?_); go_simp; (try go_bits); refine hK _ _ ?_; clear hK K)
  refine wpList_nil ?_
  have M2 := Lib.hid (((Has.new w  (pt x1 y1 c1 b1) 53).alloc (.cells (pt x2 y2 c2 b2) 53)).alloc (.cells (#[.int .u64 0, .int .u64 0, .int .u64 0, .int .u64 0, .int .u64 0, .int .u64 0, .int .u64 0, .int .u64 0, .int .u64 0, .int .u64 0, .int .u64 0, .int .u64 0, .bool false] : Array Value) 53))
  have M3 := Lib.hid ((Has.new1 w (.cells (pt x1 y1 c1 b1) 53) (pt x2 y2 c2 b2) 53).alloc (.cells (#[.int .u64 0, .int .u64 0, .int .u64 0, .int .u64 0, .int .u64 0, .int .u64 0, .int .u64 0, .int .u64 0, .int .u64 0, .int .u64 0, .int .u64 0, .int .u64 0, .bool false] : Array Value) 53))
  have M4 := Lib.hid (HasN.new2 w (.cells (pt x1 y1 c1 b1) 53) (.cells (pt x2 y2 c2 b2) 53) (#[.int .u64 0, .int .u64 0, .int .u64 0, .int .u64 0, .int .u64 0, .int .u64 0, .int .u64 0, .int .u64 0, .int .u64 0, .int .u64 0, .int .u64 0, .int .u64 0, .bool false] : Array Value) 53 13 (by kernel_rfl))
  have HB := Lib.hid (below_3 w (.cells (pt x1 y1 c1 b1) 53) (.cells (pt x2 y2 c2 b2) 53) (.cells (#[.int .u64 0, .int .u64 0, .int .u64 0, .int .u64 0, .int .u64 0, .int .u64 0, .int .u64 0, .int .u64 0, .int .u64 0, .int .u64 0, .int .u64 0, .int .u64 0, .bool false] : Array Value) 53))
  obtain ⟨yw1, hwyw1⟩ : ∃ ww, ww = (((w.alloc (.cells (pt x1 y1 c1 b1) 53)).alloc (.cells (pt x2 y2 c2 b2) 53)).alloc (.cells (#[.int .u64 0, .int .u64 0, .int .u64 0, .int .u64 0, .int .u64 0, .int .u64 0, .int .u64 0, .int .u64 0, .int .u64 0, .int .u64 0, .int .u64 0, .int .u64 0, .bool false] : Array Value) 53)) := ⟨_, rfl⟩
  rw [← hwyw1] at M2 M3 M4 HB ⊢
  clear hwyw1
  repeat ((fail_if_success (with_reducible (show wpList _ _ _ _ _ _))); go_step)
  refine wpList_load (by rfl) 53 _ rfl (w.heap.size + 1) rfl 53 (pt x2 y2 c2 b2) M3.out Try.underlying53 rfl (by rw [pt_size]; kernel_rfl) 9 rfl ?_
  (try simp only [Act.put, sI, sS, sZ])
  refine wpList_call (by rfl) rfl rfl (by rfl) ent90 (by rfl) (Hpl.out _) 10 rfl ?_
  rintro e uw1 ⟨u, s, t, ⟨hu, hs, ht⟩, ⟨hur, hsr, htr⟩, rfl, hb⟩
  replace M2 := Lib.hid (M2.out.call hb)
  replace M3 := Lib.hid (M3.out.call hb)
  replace M4 := Lib.hid (M4.out.call hb)
  replace HB := Lib.hid (held_next HB.out hb)
  refine ⟨_, rfl, ?_⟩
  clear hb
  (try simp only [Act.put, sI, sS, sZ])
  iterate 4 (refine wpList_step (fun K hK => ?_); go_simp; (try go_bits); refine hK _ _ ?_; clear hK K)
  refine wpList_alloc (by rfl) 36 rfl _ al36 5 rfl ?_
  intro yw2 hw2
  have hlt3 := M2.out.lt
  have hlt4 := M3.out.lt
  have hlt5 := M4.out.lt
  have hsz := HB.out.size
  replace M2 := Lib.hid (M2.out.alloc (.cells z36 36))
  replace M3 := Lib.hid (M3.out.alloc (.cells z36 36))
  replace M4 := Lib.hid (M4.out.alloc (.cells z36 36))
  have M5 := Lib.hid (HasN.new uw1 z36 36 4 (by kernel_rfl))
  replace HB := Lib.hid (HB.out.alloc hsz (.cells z36 36))
  rw [← hw2] at M2 M3 M4 M5 HB; clear hw2
  (try simp only [Act.put, sI, sS, sZ])
  refine wpList_alloc (by rfl) 36 rfl _ al36 6 rfl ?_
  intro yw6 hw2
  have hlt7 := M2.out.lt
  have hlt8 := M3.out.lt
  have hlt9 := M4.out.lt
  have hlt10 := M5.out.lt
  have hsz := HB.out.size
  replace M2 := Lib.hid (M2.out.alloc (.cells z36 36))
  replace M3 := Lib.hid (M3.out.alloc (.cells z36 36))
  replace M4 := Lib.hid (M4.out.alloc (.cells z36 36))
  replace M5 := Lib.hid (M5.out.alloc (.cells z36 36))
  have M6 := Lib.hid (HasN.new yw2 z36 36 4 (by kernel_rfl))
  replace HB := Lib.hid (HB.out.alloc hsz (.cells z36 36))
  rw [← hw2] at M2 M3 M4 M5 M6 HB; clear hw2
  (try simp only [Act.put, sI, sS, sZ])
  refine wpList_alloc (by rfl) 36 rfl _ al36 7 rfl ?_
  intro yw11 hw2
  have hlt12 := M2.out.lt
  have hlt13 := M3.out.lt
  have hlt14 := M4.out.lt
  have hlt15 := M5.out.lt
  have hlt16 := M6.out.lt
  have hsz := HB.out.size
  replace M2 := Lib.hid (M2.out.alloc (.cells z36 36))
  replace M3 := Lib.hid (M3.out.alloc (.cells z36 36))
  replace M4 := Lib.hid (M4.out.alloc (.cells z36 36))
  replace M5 := Lib.hid (M5.out.alloc (.cells z36 36))
  replace M6 := Lib.hid (M6.out.alloc (.cells z36 36))
  have M7 := Lib.hid (HasN.new yw6 z36 36 4 (by kernel_rfl))
  replace HB := Lib.hid (HB.out.alloc hsz (.cells z36 36))
  rw [← hw2] at M2 M3 M4 M5 M6 M7 HB; clear hw2
  (try simp only [Act.put, sI, sS, sZ])
  first | (obtain ⟨Zq, hZ, mZ⟩ := M5.out) | (obtain ⟨Zq, hZ, mZ⟩ := M5.out.toN (e4_size ..))
  refine wpList_store2 (by rfl) 36 _ _ rfl rfl (uw1.heap.size) (e4 u) rfl rfl 36 Zq mZ (by rw [e4_size]; kernel_rfl) (hZ.trans (e4_size ..).symm) (row_one _ _ _) ?_
  intro yw17 hw2
  replace M2 := Lib.hid (M2.out.setRow_other (uw1.heap.size) (e4 u) (by omega))
  replace M3 := Lib.hid (M3.out.setRow_other (uw1.heap.size) (e4 u) (by omega))
  replace M4 := Lib.hid (M4.out.setRow_other (uw1.heap.size) (e4 u) (by omega))
  replace M6 := Lib.hid (M6.out.setRow_other (uw1.heap.size) (e4 u) (by omega))
  replace M7 := Lib.hid (M7.out.setRow_other (uw1.heap.size) (e4 u) (by omega))
  replace M5 := Lib.hid (mZ.setRow (e4 u))
  replace HB := Lib.hid (below_setRow HB.out (uw1.heap.size) (e4 u) (by omega))
  rw [← hw2] at M2 M3 M4 M6 M7 M5 HB; clear mZ hZ hw2
  first | (obtain ⟨Zq, hZ, mZ⟩ := M6.out) | (obtain ⟨Zq, hZ, mZ⟩ := M6.out.toN (e4_size ..))
  refine wpList_store2 (by rfl) 36 _ _ rfl rfl (yw2.heap.size) (e4 s) rfl rfl 36 Zq mZ (by rw [e4_size]; kernel_rfl) (hZ.trans (e4_size ..).symm) (row_one _ _ _) ?_
  intro yw18 hw2
  replace M2 := Lib.hid (M2.out.setRow_other (yw2.heap.size) (e4 s) (by omega))
  replace M3 := Lib.hid (M3.out.setRow_other (yw2.heap.size) (e4 s) (by omega))
  replace M4 := Lib.hid (M4.out.setRow_other (yw2.heap.size) (e4 s) (by omega))
  replace M5 := Lib.hid (M5.out.setRow_other (yw2.heap.size) (e4 s) (by omega))
  replace M7 := Lib.hid (M7.out.setRow_other (yw2.heap.size) (e4 s) (by omega))
  replace M6 := Lib.hid (mZ.setRow (e4 s))
  replace HB := Lib.hid (below_setRow HB.out (yw2.heap.size) (e4 s) (by omega))
  rw [← hw2] at M2 M3 M4 M5 M7 M6 HB; clear mZ hZ hw2
  first | (obtain ⟨Zq, hZ, mZ⟩ := M7.out) | (obtain ⟨Zq, hZ, mZ⟩ := M7.out.toN (e4_size ..))
  refine wpList_store2 (by rfl) 36 _ _ rfl rfl (yw6.heap.size) (e4 t) rfl rfl 36 Zq mZ (by rw [e4_size]; kernel_rfl) (hZ.trans (e4_size ..).symm) (row_one _ _ _) ?_
  intro yw19 hw2
  replace M2 := Lib.hid (M2.out.setRow_other (yw6.heap.size) (e4 t) (by omega))
  replace M3 := Lib.hid (M3.out.setRow_other (yw6.heap.size) (e4 t) (by omega))
  replace M4 := Lib.hid (M4.out.setRow_other (yw6.heap.size) (e4 t) (by omega))
  replace M5 := Lib.hid (M5.out.setRow_other (yw6.heap.size) (e4 t) (by omega))
  replace M6 := Lib.hid (M6.out.setRow_other (yw6.heap.size) (e4 t) (by omega))
  replace M7 := Lib.hid (mZ.setRow (e4 t))
  replace HB := Lib.hid (below_setRow HB.out (yw6.heap.size) (e4 t) (by omega))
  rw [← hw2] at M2 M3 M4 M5 M6 M7 HB; clear mZ hZ hw2
  refine wpList_nil ?_
  have Hur := Lib.hid hur; clear hur
  have Hsr := Lib.hid hsr; clear hsr
  have Htr := Lib.hid htr; clear htr
  repeat ((fail_if_success (with_reducible (show wpList _ _ _ _ _ _))); go_step)
  refine wp_region_noPanic ?_
  refine wp_region_go 8 9 #[ff,ff,ff,ff,ff,ff,ff,ff,ff] (by kernel_rfl) rfl rfl ?_
  intro W20 hW20
  rw [← hW20] at M2 M3 M4 M5 M6 M7 HB
  clear hW20
  have M4N := Lib.hid (by first | exact M4.out | exact M4.out.toN (by first | exact e4_size _ | exact r22_size _ | exact k32_size _ | exact pt_size .. | exact rp_size ..) : HasN W20 (w.heap.size + 1 + 1) _ _)
  refine go_take2 0 14 #[tt,ff,ff,ff,ff,ff,ff,ff,ff] rfl rfl rfl (by kernel_rfl) (yieldsIf_load_row (by rfl) 53 _ rfl (w.heap.size) rfl 53 (pt x1 y1 c1 b1) (fun _ h => M2.out.below h M2.out.lt) Try.underlying53 rfl (by rw [pt_size]; kernel_rfl)) ((below_dr W20)) ?_
  (try simp only [sI, sS, sZ])
  refine go_take2 1 15 #[tt,tt,ff,ff,ff,ff,ff,ff,ff] rfl rfl rfl (by kernel_rfl) (yieldsIf_build (by rfl) 36 _ rfl _ (by rfl) (e4 0) (bd36z)) ((below_dr W20)) ?_
  (try simp only [sI, sS, sZ])
  refine go_take2 2 16 #[tt,tt,tt,ff,ff,ff,ff,ff,ff] rfl rfl rfl (by kernel_rfl) (yieldsIf_load_row (by rfl) 36 _ rfl (uw1.heap.size) rfl 36 (e4 u) (fun _ h => M5.out.below h M5.out.lt) Try.underlying36 rfl (by rw [e4_size]; kernel_rfl)) ((below_dr W20)) ?_
  (try simp only [sI, sS, sZ])
  refine go_take2 4 18 #[tt,tt,tt,ff,tt,ff,ff,ff,ff] rfl rfl rfl (by kernel_rfl) (yieldsIf_load_row (by rfl) 36 _ rfl (yw2.heap.size) rfl 36 (e4 s) (fun _ h => M6.out.below h M6.out.lt) Try.underlying36 rfl (by rw [e4_size]; kernel_rfl)) ((below_dr W20)) ?_
  (try simp only [sI, sS, sZ])
  refine go_take2 5 19 #[tt,tt,tt,ff,tt,tt,ff,ff,ff] rfl rfl rfl (by kernel_rfl) (yieldsIf_load_row (by rfl) 36 _ rfl (yw6.heap.size) rfl 36 (e4 t) (fun _ h => M7.out.below h M7.out.lt) Try.underlying36 rfl (by rw [e4_size]; kernel_rfl)) ((below_dr W20)) ?_
  (try simp only [sI, sS, sZ])
  refine wpBut_r1 (i := 3) (by kernel_rfl) ?_
  refine go_call 3 17 #[tt,tt,tt,tt,tt,tt,ff,ff,ff] rfl rfl rfl (by rfl) rfl rfl (by rfl) ent39 (by rfl) (Hmi.out 0 u (by decide) hu _) ?_
  rintro e wW201 ⟨m, hm, hmr, rfl, hb⟩
  have hkW201 := held_next (below_dr W20) hb
  refine ⟨_, rfl, fun _ => hkW201, ?_⟩
  clear hb
  (try simp only [sI, sS, sZ])
  refine wpBut_r1 (i := 6) (by kernel_rfl) ?_
  refine go_call 6 20 #[tt,tt,tt,tt,tt,tt,tt,ff,ff] rfl rfl rfl (by rfl) rfl rfl (by rfl) ent93 (by rfl) (Hmd.out m s t hm hs ht _) ?_
  rintro e wW202 ⟨qx, qy, qz, qb, hq, rfl, hb⟩
  have hkW202 := held_next hkW201 hb
  rw [Hnx.out m u Hur.out hmr, Hsr.out, Htr.out] at hq
  have Hq := Lib.hid hq; clear hq hmr
  refine ⟨_, rfl, fun _ => hkW202, ?_⟩
  clear hb
  (try simp only [sI, sS, sZ])
  refine wpBut_r1 (i := 7) (by kernel_rfl) ?_
  refine go_call 7 21 #[tt,tt,tt,tt,tt,tt,tt,tt,ff] rfl rfl rfl (by rfl) rfl rfl (by rfl) ent51 (by rfl) (Hplus.out qx qy qz qb Hq.out _) ?_
  rintro e wW203 ⟨px, py, pz, pb, hpt, rfl, hb⟩
  have hkW203 := held_next hkW202 hb
  refine ⟨_, rfl, fun _ => hkW203, ?_⟩
  clear hb
  (try simp only [sI, sS, sZ])
  refine wpBut_r1 (i := 8) (by kernel_rfl) ?_
  obtain ⟨Zq, hZ, mZ⟩ := M4N.out.below hkW203 M4N.out.lt
  have MZ := Lib.hid mZ; clear mZ
  have HZ := Lib.hid hZ; clear hZ
  refine go_store 8 #[tt,tt,tt,tt,tt,tt,tt,tt,tt] rfl rfl rfl (by rfl) 53 _ _ rfl (w.heap.size + 1 + 1) _ rfl rfl 53 Zq MZ.out (by rw [pt_size]; kernel_rfl) (HZ.out.trans (pt_size ..).symm) (pt_one _ _ _ _) ⟨fun h => (h rfl).elim, ?_⟩
  (try simp only [sI, sS, sZ])
  refine wpBut_done (by kernel_rfl) (NoPanic.normal ?_)
  replace M2 := Lib.hid ((M2.out.call hkW203).setRow_other (w.heap.size + 1 + 1) (pt px py pz pb) (by omega))
  replace M3 := Lib.hid ((M3.out.call hkW203).setRow_other (w.heap.size + 1 + 1) (pt px py pz pb) (by omega))
  replace M5 := Lib.hid ((M5.out.call hkW203).setRow_other (w.heap.size + 1 + 1) (pt px py pz pb) (by omega))
  replace M6 := Lib.hid ((M6.out.call hkW203).setRow_other (w.heap.size + 1 + 1) (pt px py pz pb) (by omega))
  replace M7 := Lib.hid ((M7.out.call hkW203).setRow_other (w.heap.size + 1 + 1) (pt px py pz pb) (by omega))
  clear M4 M4N
  have M4 := Lib.hid (MZ.out.setRow (pt px py pz pb)); clear MZ HZ
  replace HB := Lib.hid (below_setRow (held_next HB.out hkW203) (w.heap.size + 1 + 1) (pt px py pz pb) (by omega))
  obtain ⟨yw21, hwyw21⟩ : ∃ ww, ww = wW203.setRow (w.heap.size + 1 + 1) (pt px py pz pb) := ⟨_, rfl⟩
  rw [← hwyw21] at M2 M3 M4 M5 M6 M7 HB ⊢
  clear hwyw21
  go_wp2_with fail
  exact bodyPost_ret (v := .agg (pt px py pz pb)) (results_cell_row (t := 53) (by rfl) _ _ (w.heap.size + 1 + 1) _ _ _ rfl M4.out Try.underlying53 rfl (by rw [pt_size]; kernel_rfl)) rfl ⟨px, py, pz, pb, hpt, rfl, HB.out⟩

theorem is_bool (a b X Y : Nat) (z : Bool) (ha : a < 115792089237316195423570985008687907853269984665640564039457584007913129639936) (hb : b < 115792089237316195423570985008687907853269984665640564039457584007913129639936) (h1 : a % PP = X) (h2 : b % PP = Y) (hz : z = decide (X = Y)) (w : World) :
    Calls Try.prog 41 #[.agg (e4 a), .agg (e4 b)] w fun e w' => e = .returned (.bool z) ∧ Below w.heap.size w w' := by
  rw [hz, ← h1, ← h2]; exact is_any a b ha hb w
set_option maxRecDepth 100000 in
set_option linter.unusedSimpArgs false in
set_option maxHeartbeats 8000000 in
theorem pis_any (x1 y1 c1 : Nat) (b1 : Bool) (X1 Y1 Z1 : Nat) (p1 : IsPt x1 y1 c1 b1 X1 Y1 Z1) (x2 y2 c2 : Nat) (b2 : Bool) (X2 Y2 Z2 : Nat) (p2 : IsPt x2 y2 c2 b2 X2 Y2 Z2) (w : World) :
    Calls Try.prog 55 #[.agg (pt x1 y1 c1 b1), .agg (pt x2 y2 c2 b2)] w fun e w' => e = .returned (.bool (decide (X1 * Z2 % PP = X2 * Z1 % PP) && decide (Y1 * Z2 % PP = Y2 * Z1 % PP))) ∧ Below w.heap.size w w' := by
  have hpl1 := fun w => plain_any x1 y1 c1 b1 X1 Y1 Z1 p1 w
  have hpl2 := fun w => plain_any x2 y2 c2 b2 X2 Y2 Z2 p2 w
  have ht := times_any
  obtain ⟨i1, hi1⟩ : ∃ b, b = decide (X1 * Z2 % PP = X2 * Z1 % PP) := ⟨_, rfl⟩
  obtain ⟨i2, hi2⟩ : ∃ b, b = decide (Y1 * Z2 % PP = Y2 * Z1 % PP) := ⟨_, rfl⟩
  rw [← hi1, ← hi2]
  have hI1 := fun a b ha hb h1 h2 w => is_bool a b (X1 * Z2 % PP) (X2 * Z1 % PP) i1 ha hb h1 h2 hi1 w
  have hI2 := fun a b ha hb h1 h2 w => is_bool a b (Y1 * Z2 % PP) (Y2 * Z1 % PP) i2 ha hb h1 h2 hi2 w
  clear hi1 hi2 p1 p2
  have Hpl1 := Lib.hid hpl1; clear hpl1
  have Hpl2 := Lib.hid hpl2; clear hpl2
  have Ht := Lib.hid ht; clear ht
  have Hi1 := Lib.hid hI1; clear hI1
  have Hi2 := Lib.hid hI2; clear hI2
  go_enter Try.func55, Try.ntmps55
  repeat ((fail_if_success (with_reducible (show wpList _ _ _ _ _ _))); go_step)
  iterate 3 (refine wpList_step (fun K hK => ?_); go_simp; (try go_bits); refine hK _ _ ?_; clear hK K)
  refine wpList_nil ?_
  have M2 := Lib.hid ((Has.new w  (pt x1 y1 c1 b1) 53).alloc (.cells (pt x2 y2 c2 b2) 53))
  have M3 := Lib.hid (Has.new1 w (.cells (pt x1 y1 c1 b1) 53) (pt x2 y2 c2 b2) 53)
  have HB := Lib.hid (below_2 w (.cells (pt x1 y1 c1 b1) 53) (.cells (pt x2 y2 c2 b2) 53))
  obtain ⟨yw1, hwyw1⟩ : ∃ ww, ww = ((w.alloc (.cells (pt x1 y1 c1 b1) 53)).alloc (.cells (pt x2 y2 c2 b2) 53)) := ⟨_, rfl⟩
  rw [← hwyw1] at M2 M3 HB ⊢
  clear hwyw1
  repeat ((fail_if_success (with_reducible (show wpList _ _ _ _ _ _))); go_step)
  refine wpList_load (by rfl) 53 _ rfl (w.heap.size) rfl 53 (pt x1 y1 c1 b1) M2.out Try.underlying53 rfl (by rw [pt_size]; kernel_rfl) 12 rfl ?_
  (try simp only [Act.put, sI, sS, sZ])
  refine wpList_call (by rfl) rfl rfl (by rfl) ent90 (by rfl) (Hpl1.out _) 13 rfl ?_
  rintro e uw1 ⟨u, s, t, ⟨hu, hs, ht⟩, ⟨hur, hsr, htr⟩, rfl, hb⟩
  replace M2 := Lib.hid (M2.out.call hb)
  replace M3 := Lib.hid (M3.out.call hb)
  replace HB := Lib.hid (held_next HB.out hb)
  refine ⟨_, rfl, ?_⟩
  clear hb
  (try simp only [Act.put, sI, sS, sZ])
  iterate 4 (refine wpList_step (fun K hK => ?_); go_simp; (try go_bits); refine hK _ _ ?_; clear hK K)
  refine wpList_alloc (by rfl) 36 rfl _ al36 5 rfl ?_
  intro yw2 hw2
  have hlt3 := M2.out.lt
  have hlt4 := M3.out.lt
  have hsz := HB.out.size
  replace M2 := Lib.hid (M2.out.alloc (.cells z36 36))
  replace M3 := Lib.hid (M3.out.alloc (.cells z36 36))
  have M5 := Lib.hid (HasN.new uw1 z36 36 4 (by kernel_rfl))
  replace HB := Lib.hid (HB.out.alloc hsz (.cells z36 36))
  rw [← hw2] at M2 M3 M5 HB; clear hw2
  (try simp only [Act.put, sI, sS, sZ])
  refine wpList_alloc (by rfl) 36 rfl _ al36 6 rfl ?_
  intro yw5 hw2
  have hlt6 := M2.out.lt
  have hlt7 := M3.out.lt
  have hlt8 := M5.out.lt
  have hsz := HB.out.size
  replace M2 := Lib.hid (M2.out.alloc (.cells z36 36))
  replace M3 := Lib.hid (M3.out.alloc (.cells z36 36))
  replace M5 := Lib.hid (M5.out.alloc (.cells z36 36))
  have M6 := Lib.hid (HasN.new yw2 z36 36 4 (by kernel_rfl))
  replace HB := Lib.hid (HB.out.alloc hsz (.cells z36 36))
  rw [← hw2] at M2 M3 M5 M6 HB; clear hw2
  (try simp only [Act.put, sI, sS, sZ])
  refine wpList_alloc (by rfl) 36 rfl _ al36 7 rfl ?_
  intro yw9 hw2
  have hlt10 := M2.out.lt
  have hlt11 := M3.out.lt
  have hlt12 := M5.out.lt
  have hlt13 := M6.out.lt
  have hsz := HB.out.size
  replace M2 := Lib.hid (M2.out.alloc (.cells z36 36))
  replace M3 := Lib.hid (M3.out.alloc (.cells z36 36))
  replace M5 := Lib.hid (M5.out.alloc (.cells z36 36))
  replace M6 := Lib.hid (M6.out.alloc (.cells z36 36))
  have M7 := Lib.hid (HasN.new yw5 z36 36 4 (by kernel_rfl))
  replace HB := Lib.hid (HB.out.alloc hsz (.cells z36 36))
  rw [← hw2] at M2 M3 M5 M6 M7 HB; clear hw2
  (try simp only [Act.put, sI, sS, sZ])
  first | (obtain ⟨Zq, hZ, mZ⟩ := M5.out) | (obtain ⟨Zq, hZ, mZ⟩ := M5.out.toN (e4_size ..))
  refine wpList_store2 (by rfl) 36 _ _ rfl rfl (uw1.heap.size) (e4 u) rfl rfl 36 Zq mZ (by rw [e4_size]; kernel_rfl) (hZ.trans (e4_size ..).symm) (row_one _ _ _) ?_
  intro yw14 hw2
  replace M2 := Lib.hid (M2.out.setRow_other (uw1.heap.size) (e4 u) (by omega))
  replace M3 := Lib.hid (M3.out.setRow_other (uw1.heap.size) (e4 u) (by omega))
  replace M6 := Lib.hid (M6.out.setRow_other (uw1.heap.size) (e4 u) (by omega))
  replace M7 := Lib.hid (M7.out.setRow_other (uw1.heap.size) (e4 u) (by omega))
  replace M5 := Lib.hid (mZ.setRow (e4 u))
  replace HB := Lib.hid (below_setRow HB.out (uw1.heap.size) (e4 u) (by omega))
  rw [← hw2] at M2 M3 M6 M7 M5 HB; clear mZ hZ hw2
  first | (obtain ⟨Zq, hZ, mZ⟩ := M6.out) | (obtain ⟨Zq, hZ, mZ⟩ := M6.out.toN (e4_size ..))
  refine wpList_store2 (by rfl) 36 _ _ rfl rfl (yw2.heap.size) (e4 s) rfl rfl 36 Zq mZ (by rw [e4_size]; kernel_rfl) (hZ.trans (e4_size ..).symm) (row_one _ _ _) ?_
  intro yw15 hw2
  replace M2 := Lib.hid (M2.out.setRow_other (yw2.heap.size) (e4 s) (by omega))
  replace M3 := Lib.hid (M3.out.setRow_other (yw2.heap.size) (e4 s) (by omega))
  replace M5 := Lib.hid (M5.out.setRow_other (yw2.heap.size) (e4 s) (by omega))
  replace M7 := Lib.hid (M7.out.setRow_other (yw2.heap.size) (e4 s) (by omega))
  replace M6 := Lib.hid (mZ.setRow (e4 s))
  replace HB := Lib.hid (below_setRow HB.out (yw2.heap.size) (e4 s) (by omega))
  rw [← hw2] at M2 M3 M5 M7 M6 HB; clear mZ hZ hw2
  first | (obtain ⟨Zq, hZ, mZ⟩ := M7.out) | (obtain ⟨Zq, hZ, mZ⟩ := M7.out.toN (e4_size ..))
  refine wpList_store2 (by rfl) 36 _ _ rfl rfl (yw5.heap.size) (e4 t) rfl rfl 36 Zq mZ (by rw [e4_size]; kernel_rfl) (hZ.trans (e4_size ..).symm) (row_one _ _ _) ?_
  intro yw16 hw2
  replace M2 := Lib.hid (M2.out.setRow_other (yw5.heap.size) (e4 t) (by omega))
  replace M3 := Lib.hid (M3.out.setRow_other (yw5.heap.size) (e4 t) (by omega))
  replace M5 := Lib.hid (M5.out.setRow_other (yw5.heap.size) (e4 t) (by omega))
  replace M6 := Lib.hid (M6.out.setRow_other (yw5.heap.size) (e4 t) (by omega))
  replace M7 := Lib.hid (mZ.setRow (e4 t))
  replace HB := Lib.hid (below_setRow HB.out (yw5.heap.size) (e4 t) (by omega))
  rw [← hw2] at M2 M3 M5 M6 M7 HB; clear mZ hZ hw2
  refine wpList_nil ?_
  have Hur := Lib.hid hur; clear hur
  have Hsr := Lib.hid hsr; clear hsr
  have Htr := Lib.hid htr; clear htr
  repeat ((fail_if_success (with_reducible (show wpList _ _ _ _ _ _))); go_step)
  refine wpList_load (by rfl) 53 _ rfl (w.heap.size + 1) rfl 53 (pt x2 y2 c2 b2) M3.out Try.underlying53 rfl (by rw [pt_size]; kernel_rfl) 18 rfl ?_
  (try simp only [Act.put, sI, sS, sZ])
  refine wpList_call (by rfl) rfl rfl (by rfl) ent90 (by rfl) (Hpl2.out _) 19 rfl ?_
  rintro e uw2 ⟨u2, s2, t2, ⟨hu2, hs2, ht2⟩, ⟨hu2r, hs2r, ht2r⟩, rfl, hb⟩
  replace M2 := Lib.hid (M2.out.call hb)
  replace M3 := Lib.hid (M3.out.call hb)
  replace M5 := Lib.hid (M5.out.call hb)
  replace M6 := Lib.hid (M6.out.call hb)
  replace M7 := Lib.hid (M7.out.call hb)
  replace HB := Lib.hid (held_next HB.out hb)
  refine ⟨_, rfl, ?_⟩
  clear hb
  (try simp only [Act.put, sI, sS, sZ])
  iterate 4 (refine wpList_step (fun K hK => ?_); go_simp; (try go_bits); refine hK _ _ ?_; clear hK K)
  refine wpList_alloc (by rfl) 36 rfl _ al36 8 rfl ?_
  intro yw17 hw2
  have hlt18 := M2.out.lt
  have hlt19 := M3.out.lt
  have hlt20 := M5.out.lt
  have hlt21 := M6.out.lt
  have hlt22 := M7.out.lt
  have hsz := HB.out.size
  replace M2 := Lib.hid (M2.out.alloc (.cells z36 36))
  replace M3 := Lib.hid (M3.out.alloc (.cells z36 36))
  replace M5 := Lib.hid (M5.out.alloc (.cells z36 36))
  replace M6 := Lib.hid (M6.out.alloc (.cells z36 36))
  replace M7 := Lib.hid (M7.out.alloc (.cells z36 36))
  have M8 := Lib.hid (HasN.new uw2 z36 36 4 (by kernel_rfl))
  replace HB := Lib.hid (HB.out.alloc hsz (.cells z36 36))
  rw [← hw2] at M2 M3 M5 M6 M7 M8 HB; clear hw2
  (try simp only [Act.put, sI, sS, sZ])
  refine wpList_alloc (by rfl) 36 rfl _ al36 9 rfl ?_
  intro yw23 hw2
  have hlt24 := M2.out.lt
  have hlt25 := M3.out.lt
  have hlt26 := M5.out.lt
  have hlt27 := M6.out.lt
  have hlt28 := M7.out.lt
  have hlt29 := M8.out.lt
  have hsz := HB.out.size
  replace M2 := Lib.hid (M2.out.alloc (.cells z36 36))
  replace M3 := Lib.hid (M3.out.alloc (.cells z36 36))
  replace M5 := Lib.hid (M5.out.alloc (.cells z36 36))
  replace M6 := Lib.hid (M6.out.alloc (.cells z36 36))
  replace M7 := Lib.hid (M7.out.alloc (.cells z36 36))
  replace M8 := Lib.hid (M8.out.alloc (.cells z36 36))
  have M9 := Lib.hid (HasN.new yw17 z36 36 4 (by kernel_rfl))
  replace HB := Lib.hid (HB.out.alloc hsz (.cells z36 36))
  rw [← hw2] at M2 M3 M5 M6 M7 M8 M9 HB; clear hw2
  (try simp only [Act.put, sI, sS, sZ])
  refine wpList_alloc (by rfl) 36 rfl _ al36 10 rfl ?_
  intro yw30 hw2
  have hlt31 := M2.out.lt
  have hlt32 := M3.out.lt
  have hlt33 := M5.out.lt
  have hlt34 := M6.out.lt
  have hlt35 := M7.out.lt
  have hlt36 := M8.out.lt
  have hlt37 := M9.out.lt
  have hsz := HB.out.size
  replace M2 := Lib.hid (M2.out.alloc (.cells z36 36))
  replace M3 := Lib.hid (M3.out.alloc (.cells z36 36))
  replace M5 := Lib.hid (M5.out.alloc (.cells z36 36))
  replace M6 := Lib.hid (M6.out.alloc (.cells z36 36))
  replace M7 := Lib.hid (M7.out.alloc (.cells z36 36))
  replace M8 := Lib.hid (M8.out.alloc (.cells z36 36))
  replace M9 := Lib.hid (M9.out.alloc (.cells z36 36))
  have M10 := Lib.hid (HasN.new yw23 z36 36 4 (by kernel_rfl))
  replace HB := Lib.hid (HB.out.alloc hsz (.cells z36 36))
  rw [← hw2] at M2 M3 M5 M6 M7 M8 M9 M10 HB; clear hw2
  (try simp only [Act.put, sI, sS, sZ])
  first | (obtain ⟨Zq, hZ, mZ⟩ := M8.out) | (obtain ⟨Zq, hZ, mZ⟩ := M8.out.toN (e4_size ..))
  refine wpList_store2 (by rfl) 36 _ _ rfl rfl (uw2.heap.size) (e4 u2) rfl rfl 36 Zq mZ (by rw [e4_size]; kernel_rfl) (hZ.trans (e4_size ..).symm) (row_one _ _ _) ?_
  intro yw38 hw2
  replace M2 := Lib.hid (M2.out.setRow_other (uw2.heap.size) (e4 u2) (by omega))
  replace M3 := Lib.hid (M3.out.setRow_other (uw2.heap.size) (e4 u2) (by omega))
  replace M5 := Lib.hid (M5.out.setRow_other (uw2.heap.size) (e4 u2) (by omega))
  replace M6 := Lib.hid (M6.out.setRow_other (uw2.heap.size) (e4 u2) (by omega))
  replace M7 := Lib.hid (M7.out.setRow_other (uw2.heap.size) (e4 u2) (by omega))
  replace M9 := Lib.hid (M9.out.setRow_other (uw2.heap.size) (e4 u2) (by omega))
  replace M10 := Lib.hid (M10.out.setRow_other (uw2.heap.size) (e4 u2) (by omega))
  replace M8 := Lib.hid (mZ.setRow (e4 u2))
  replace HB := Lib.hid (below_setRow HB.out (uw2.heap.size) (e4 u2) (by omega))
  rw [← hw2] at M2 M3 M5 M6 M7 M9 M10 M8 HB; clear mZ hZ hw2
  first | (obtain ⟨Zq, hZ, mZ⟩ := M9.out) | (obtain ⟨Zq, hZ, mZ⟩ := M9.out.toN (e4_size ..))
  refine wpList_store2 (by rfl) 36 _ _ rfl rfl (yw17.heap.size) (e4 s2) rfl rfl 36 Zq mZ (by rw [e4_size]; kernel_rfl) (hZ.trans (e4_size ..).symm) (row_one _ _ _) ?_
  intro yw39 hw2
  replace M2 := Lib.hid (M2.out.setRow_other (yw17.heap.size) (e4 s2) (by omega))
  replace M3 := Lib.hid (M3.out.setRow_other (yw17.heap.size) (e4 s2) (by omega))
  replace M5 := Lib.hid (M5.out.setRow_other (yw17.heap.size) (e4 s2) (by omega))
  replace M6 := Lib.hid (M6.out.setRow_other (yw17.heap.size) (e4 s2) (by omega))
  replace M7 := Lib.hid (M7.out.setRow_other (yw17.heap.size) (e4 s2) (by omega))
  replace M8 := Lib.hid (M8.out.setRow_other (yw17.heap.size) (e4 s2) (by omega))
  replace M10 := Lib.hid (M10.out.setRow_other (yw17.heap.size) (e4 s2) (by omega))
  replace M9 := Lib.hid (mZ.setRow (e4 s2))
  replace HB := Lib.hid (below_setRow HB.out (yw17.heap.size) (e4 s2) (by omega))
  rw [← hw2] at M2 M3 M5 M6 M7 M8 M10 M9 HB; clear mZ hZ hw2
  first | (obtain ⟨Zq, hZ, mZ⟩ := M10.out) | (obtain ⟨Zq, hZ, mZ⟩ := M10.out.toN (e4_size ..))
  refine wpList_store2 (by rfl) 36 _ _ rfl rfl (yw23.heap.size) (e4 t2) rfl rfl 36 Zq mZ (by rw [e4_size]; kernel_rfl) (hZ.trans (e4_size ..).symm) (row_one _ _ _) ?_
  intro yw40 hw2
  replace M2 := Lib.hid (M2.out.setRow_other (yw23.heap.size) (e4 t2) (by omega))
  replace M3 := Lib.hid (M3.out.setRow_other (yw23.heap.size) (e4 t2) (by omega))
  replace M5 := Lib.hid (M5.out.setRow_other (yw23.heap.size) (e4 t2) (by omega))
  replace M6 := Lib.hid (M6.out.setRow_other (yw23.heap.size) (e4 t2) (by omega))
  replace M7 := Lib.hid (M7.out.setRow_other (yw23.heap.size) (e4 t2) (by omega))
  replace M8 := Lib.hid (M8.out.setRow_other (yw23.heap.size) (e4 t2) (by omega))
  replace M9 := Lib.hid (M9.out.setRow_other (yw23.heap.size) (e4 t2) (by omega))
  replace M10 := Lib.hid (mZ.setRow (e4 t2))
  replace HB := Lib.hid (below_setRow HB.out (yw23.heap.size) (e4 t2) (by omega))
  rw [← hw2] at M2 M3 M5 M6 M7 M8 M9 M10 HB; clear mZ hZ hw2
  refine wpList_nil ?_
  have Hu2r := Lib.hid hu2r; clear hu2r
  have Hs2r := Lib.hid hs2r; clear hs2r
  have Ht2r := Lib.hid ht2r; clear ht2r
  clear M2 M3
  repeat ((fail_if_success (with_reducible (show wpList _ _ _ _ _ _))); go_step)
  cases i1
  · refine wp_region_noPanic ?_
    refine wp_region_go 99 17 #[ff,ff,ff,ff,ff,ff,ff,ff,ff,ff,ff,ff,ff,ff,ff,ff,ff] (by kernel_rfl) rfl rfl ?_
    intro W41 hW41
    rw [← hW41] at M5 M6 M7 M8 M9 M10 HB
    clear hW41
    refine go_take2 0 23 #[tt,ff,ff,ff,ff,ff,ff,ff,ff,ff,ff,ff,ff,ff,ff,ff,ff] rfl rfl rfl (by kernel_rfl) (yieldsIf_load_row (by rfl) 36 _ rfl (uw1.heap.size) rfl 36 (e4 u) (fun _ h => M5.out.below h M5.out.lt) Try.underlying36 rfl (by rw [e4_size]; kernel_rfl)) ((below_dr W41)) ?_
    (try simp only [sI, sS, sZ])
    refine go_take2 1 24 #[tt,tt,ff,ff,ff,ff,ff,ff,ff,ff,ff,ff,ff,ff,ff,ff,ff] rfl rfl rfl (by kernel_rfl) (yieldsIf_load_row (by rfl) 36 _ rfl (yw23.heap.size) rfl 36 (e4 t2) (fun _ h => M10.out.below h M10.out.lt) Try.underlying36 rfl (by rw [e4_size]; kernel_rfl)) ((below_dr W41)) ?_
    (try simp only [sI, sS, sZ])
    refine go_take2 3 26 #[tt,tt,ff,tt,ff,ff,ff,ff,ff,ff,ff,ff,ff,ff,ff,ff,ff] rfl rfl rfl (by kernel_rfl) (yieldsIf_load_row (by rfl) 36 _ rfl (uw2.heap.size) rfl 36 (e4 u2) (fun _ h => M8.out.below h M8.out.lt) Try.underlying36 rfl (by rw [e4_size]; kernel_rfl)) ((below_dr W41)) ?_
    (try simp only [sI, sS, sZ])
    refine go_take2 4 27 #[tt,tt,ff,tt,tt,ff,ff,ff,ff,ff,ff,ff,ff,ff,ff,ff,ff] rfl rfl rfl (by kernel_rfl) (yieldsIf_load_row (by rfl) 36 _ rfl (yw5.heap.size) rfl 36 (e4 t) (fun _ h => M7.out.below h M7.out.lt) Try.underlying36 rfl (by rw [e4_size]; kernel_rfl)) ((below_dr W41)) ?_
    (try simp only [sI, sS, sZ])
    refine wpBut_r1 (i := 2) (by kernel_rfl) ?_
    refine go_call 2 25 #[tt,tt,tt,tt,tt,ff,ff,ff,ff,ff,ff,ff,ff,ff,ff,ff,ff] rfl rfl rfl (by rfl) rfl rfl (by rfl) ent31 (by rfl) (Ht.out u t2 hu ht2 _) ?_
    rintro e wW411 ⟨m1, hm1, hm1r, rfl, hb⟩
    have hkW411 := held_next (below_dr W41) hb
    refine ⟨_, rfl, fun _ => hkW411, ?_⟩
    clear hb
    (try simp only [sI, sS, sZ])
    refine wpBut_r1 (i := 5) (by kernel_rfl) ?_
    refine go_call 5 28 #[tt,tt,tt,tt,tt,tt,ff,ff,ff,ff,ff,ff,ff,ff,ff,ff,ff] rfl rfl rfl (by rfl) rfl rfl (by rfl) ent31 (by rfl) (Ht.out u2 t hu2 ht _) ?_
    rintro e wW412 ⟨m2, hm2, hm2r, rfl, hb⟩
    have hkW412 := held_next hkW411 hb
    refine ⟨_, rfl, fun _ => hkW412, ?_⟩
    clear hb
    (try simp only [sI, sS, sZ])
    refine wpBut_r1 (i := 6) (by kernel_rfl) ?_
    refine go_call 6 29 #[tt,tt,tt,tt,tt,tt,tt,ff,ff,ff,ff,ff,ff,ff,ff,ff,ff] rfl rfl rfl (by rfl) rfl rfl (by rfl) ent41 (by rfl) (Hi1.out m1 m2 hm1 hm2 (r_mul m1 u t2 X1 Z2 _ hm1r Hur.out Ht2r.out rfl) (r_mul m2 u2 t X2 Z1 _ hm2r Hu2r.out Htr.out rfl) _) ?_
    rintro e wW413 ⟨rfl, hb⟩
    have hkW413 := held_next hkW412 hb
    refine ⟨_, rfl, fun _ => hkW413, ?_⟩
    clear hb
    (try simp only [sI, sS, sZ])
    refine go_take2 7 30 #[tt,tt,tt,tt,tt,tt,tt,tt,ff,ff,ff,ff,ff,ff,ff,ff,ff] (v := ?uv1) rfl rfl rfl (by kernel_rfl) (Or.inl ⟨by rfl, ?uy1⟩) (hkW413) ?urest1
    case uy1 => (intro _ _; go_simp; try with_reducible rfl)
    (try simp only [sI, sS, sZ])
    refine go_take2 8 31 #[tt,tt,tt,tt,tt,tt,tt,tt,tt,ff,ff,ff,ff,ff,ff,ff,ff] (v := undef) rfl rfl rfl (by kernel_rfl) (Or.inr ⟨by rfl, rfl⟩) (hkW413) ?_
    (try simp only [sI, sS, sZ])
    refine go_take2 9 32 #[tt,tt,tt,tt,tt,tt,tt,tt,tt,tt,ff,ff,ff,ff,ff,ff,ff] (v := undef) rfl rfl rfl (by kernel_rfl) (Or.inr ⟨by rfl, rfl⟩) (hkW413) ?_
    (try simp only [sI, sS, sZ])
    refine go_take2 10 33 #[tt,tt,tt,tt,tt,tt,tt,tt,tt,tt,tt,ff,ff,ff,ff,ff,ff] (v := undef) rfl rfl rfl (by kernel_rfl) (Or.inr ⟨by rfl, rfl⟩) (hkW413) ?_
    (try simp only [sI, sS, sZ])
    refine go_take2 11 34 #[tt,tt,tt,tt,tt,tt,tt,tt,tt,tt,tt,tt,ff,ff,ff,ff,ff] (v := undef) rfl rfl rfl (by kernel_rfl) (Or.inr ⟨by rfl, rfl⟩) (hkW413) ?_
    (try simp only [sI, sS, sZ])
    refine go_take2 12 35 #[tt,tt,tt,tt,tt,tt,tt,tt,tt,tt,tt,tt,tt,ff,ff,ff,ff] (v := undef) rfl rfl rfl (by kernel_rfl) (Or.inr ⟨by rfl, rfl⟩) (hkW413) ?_
    (try simp only [sI, sS, sZ])
    refine go_take2 13 36 #[tt,tt,tt,tt,tt,tt,tt,tt,tt,tt,tt,tt,tt,tt,ff,ff,ff] (v := undef) rfl rfl rfl (by kernel_rfl) (Or.inr ⟨by rfl, rfl⟩) (hkW413) ?_
    (try simp only [sI, sS, sZ])
    refine go_take2 14 37 #[tt,tt,tt,tt,tt,tt,tt,tt,tt,tt,tt,tt,tt,tt,tt,ff,ff] (v := undef) rfl rfl rfl (by kernel_rfl) (Or.inr ⟨by rfl, rfl⟩) (hkW413) ?_
    (try simp only [sI, sS, sZ])
    refine go_take2 15 38 #[tt,tt,tt,tt,tt,tt,tt,tt,tt,tt,tt,tt,tt,tt,tt,tt,ff] (v := ?uv2) rfl rfl rfl (by kernel_rfl) (Or.inl ⟨by rfl, ?uy2⟩) (hkW413) ?urest2
    case uy2 => (intro _ _; go_simp; try with_reducible rfl)
    (try simp only [sI, sS, sZ])
    refine go_take2 16 4 #[tt,tt,tt,tt,tt,tt,tt,tt,tt,tt,tt,tt,tt,tt,tt,tt,tt] (v := ?uv3) rfl rfl rfl (by kernel_rfl) (Or.inl ⟨by rfl, ?uy3⟩) (hkW413) ?urest3
    case uy3 => (intro _ _; go_simp; try with_reducible rfl)
    (try simp only [sI, sS, sZ])
    refine wpBut_done (by kernel_rfl) (NoPanic.normal ?_)
    replace M5 := Lib.hid (M5.out.call hkW413)
    replace M6 := Lib.hid (M6.out.call hkW413)
    replace M7 := Lib.hid (M7.out.call hkW413)
    replace M8 := Lib.hid (M8.out.call hkW413)
    replace M9 := Lib.hid (M9.out.call hkW413)
    replace M10 := Lib.hid (M10.out.call hkW413)
    replace HB := Lib.hid (held_next HB.out hkW413)
    go_wp2_with fail
    go_ret
    exact ⟨by simp, HB.out⟩
  · refine wp_region_noPanic ?_
    refine wp_region_go 99 17 #[ff,ff,ff,ff,ff,ff,ff,ff,ff,ff,ff,ff,ff,ff,ff,ff,ff] (by kernel_rfl) rfl rfl ?_
    intro W41 hW41
    rw [← hW41] at M5 M6 M7 M8 M9 M10 HB
    clear hW41
    refine go_take2 0 23 #[tt,ff,ff,ff,ff,ff,ff,ff,ff,ff,ff,ff,ff,ff,ff,ff,ff] rfl rfl rfl (by kernel_rfl) (yieldsIf_load_row (by rfl) 36 _ rfl (uw1.heap.size) rfl 36 (e4 u) (fun _ h => M5.out.below h M5.out.lt) Try.underlying36 rfl (by rw [e4_size]; kernel_rfl)) ((below_dr W41)) ?_
    (try simp only [sI, sS, sZ])
    refine go_take2 1 24 #[tt,tt,ff,ff,ff,ff,ff,ff,ff,ff,ff,ff,ff,ff,ff,ff,ff] rfl rfl rfl (by kernel_rfl) (yieldsIf_load_row (by rfl) 36 _ rfl (yw23.heap.size) rfl 36 (e4 t2) (fun _ h => M10.out.below h M10.out.lt) Try.underlying36 rfl (by rw [e4_size]; kernel_rfl)) ((below_dr W41)) ?_
    (try simp only [sI, sS, sZ])
    refine go_take2 3 26 #[tt,tt,ff,tt,ff,ff,ff,ff,ff,ff,ff,ff,ff,ff,ff,ff,ff] rfl rfl rfl (by kernel_rfl) (yieldsIf_load_row (by rfl) 36 _ rfl (uw2.heap.size) rfl 36 (e4 u2) (fun _ h => M8.out.below h M8.out.lt) Try.underlying36 rfl (by rw [e4_size]; kernel_rfl)) ((below_dr W41)) ?_
    (try simp only [sI, sS, sZ])
    refine go_take2 4 27 #[tt,tt,ff,tt,tt,ff,ff,ff,ff,ff,ff,ff,ff,ff,ff,ff,ff] rfl rfl rfl (by kernel_rfl) (yieldsIf_load_row (by rfl) 36 _ rfl (yw5.heap.size) rfl 36 (e4 t) (fun _ h => M7.out.below h M7.out.lt) Try.underlying36 rfl (by rw [e4_size]; kernel_rfl)) ((below_dr W41)) ?_
    (try simp only [sI, sS, sZ])
    refine wpBut_r1 (i := 2) (by kernel_rfl) ?_
    refine go_call 2 25 #[tt,tt,tt,tt,tt,ff,ff,ff,ff,ff,ff,ff,ff,ff,ff,ff,ff] rfl rfl rfl (by rfl) rfl rfl (by rfl) ent31 (by rfl) (Ht.out u t2 hu ht2 _) ?_
    rintro e wW411 ⟨m1, hm1, hm1r, rfl, hb⟩
    have hkW411 := held_next (below_dr W41) hb
    refine ⟨_, rfl, fun _ => hkW411, ?_⟩
    clear hb
    (try simp only [sI, sS, sZ])
    refine wpBut_r1 (i := 5) (by kernel_rfl) ?_
    refine go_call 5 28 #[tt,tt,tt,tt,tt,tt,ff,ff,ff,ff,ff,ff,ff,ff,ff,ff,ff] rfl rfl rfl (by rfl) rfl rfl (by rfl) ent31 (by rfl) (Ht.out u2 t hu2 ht _) ?_
    rintro e wW412 ⟨m2, hm2, hm2r, rfl, hb⟩
    have hkW412 := held_next hkW411 hb
    refine ⟨_, rfl, fun _ => hkW412, ?_⟩
    clear hb
    (try simp only [sI, sS, sZ])
    refine wpBut_r1 (i := 6) (by kernel_rfl) ?_
    refine go_call 6 29 #[tt,tt,tt,tt,tt,tt,tt,ff,ff,ff,ff,ff,ff,ff,ff,ff,ff] rfl rfl rfl (by rfl) rfl rfl (by rfl) ent41 (by rfl) (Hi1.out m1 m2 hm1 hm2 (r_mul m1 u t2 X1 Z2 _ hm1r Hur.out Ht2r.out rfl) (r_mul m2 u2 t X2 Z1 _ hm2r Hu2r.out Htr.out rfl) _) ?_
    rintro e wW413 ⟨rfl, hb⟩
    have hkW413 := held_next hkW412 hb
    refine ⟨_, rfl, fun _ => hkW413, ?_⟩
    clear hb
    (try simp only [sI, sS, sZ])
    refine go_take2 7 30 #[tt,tt,tt,tt,tt,tt,tt,tt,ff,ff,ff,ff,ff,ff,ff,ff,ff] (v := ?uv4) rfl rfl rfl (by kernel_rfl) (Or.inl ⟨by rfl, ?uy4⟩) (hkW413) ?urest4
    case uy4 => (intro _ _; go_simp; try with_reducible rfl)
    (try simp only [sI, sS, sZ])
    refine go_take2 8 31 #[tt,tt,tt,tt,tt,tt,tt,tt,tt,ff,ff,ff,ff,ff,ff,ff,ff] rfl rfl rfl (by kernel_rfl) (yieldsIf_load_row (by rfl) 36 _ rfl (yw2.heap.size) rfl 36 (e4 s) (fun _ h => M6.out.below h M6.out.lt) Try.underlying36 rfl (by rw [e4_size]; kernel_rfl)) (hkW413) ?_
    (try simp only [sI, sS, sZ])
    refine go_take2 9 32 #[tt,tt,tt,tt,tt,tt,tt,tt,tt,tt,ff,ff,ff,ff,ff,ff,ff] rfl rfl rfl (by kernel_rfl) (yieldsIf_load_row (by rfl) 36 _ rfl (yw23.heap.size) rfl 36 (e4 t2) (fun _ h => M10.out.below h M10.out.lt) Try.underlying36 rfl (by rw [e4_size]; kernel_rfl)) (hkW413) ?_
    (try simp only [sI, sS, sZ])
    refine go_take2 11 34 #[tt,tt,tt,tt,tt,tt,tt,tt,tt,tt,ff,tt,ff,ff,ff,ff,ff] rfl rfl rfl (by kernel_rfl) (yieldsIf_load_row (by rfl) 36 _ rfl (yw17.heap.size) rfl 36 (e4 s2) (fun _ h => M9.out.below h M9.out.lt) Try.underlying36 rfl (by rw [e4_size]; kernel_rfl)) (hkW413) ?_
    (try simp only [sI, sS, sZ])
    refine go_take2 12 35 #[tt,tt,tt,tt,tt,tt,tt,tt,tt,tt,ff,tt,tt,ff,ff,ff,ff] rfl rfl rfl (by kernel_rfl) (yieldsIf_load_row (by rfl) 36 _ rfl (yw5.heap.size) rfl 36 (e4 t) (fun _ h => M7.out.below h M7.out.lt) Try.underlying36 rfl (by rw [e4_size]; kernel_rfl)) (hkW413) ?_
    (try simp only [sI, sS, sZ])
    refine wpBut_r1 (i := 10) (by kernel_rfl) ?_
    refine go_call 10 33 #[tt,tt,tt,tt,tt,tt,tt,tt,tt,tt,tt,tt,tt,ff,ff,ff,ff] rfl rfl rfl (by rfl) rfl rfl (by rfl) ent31 (by rfl) (Ht.out s t2 hs ht2 _) ?_
    rintro e wW414 ⟨m3, hm3, hm3r, rfl, hb⟩
    have hkW414 := held_next hkW413 hb
    refine ⟨_, rfl, fun _ => hkW414, ?_⟩
    clear hb
    (try simp only [sI, sS, sZ])
    refine wpBut_r1 (i := 13) (by kernel_rfl) ?_
    refine go_call 13 36 #[tt,tt,tt,tt,tt,tt,tt,tt,tt,tt,tt,tt,tt,tt,ff,ff,ff] rfl rfl rfl (by rfl) rfl rfl (by rfl) ent31 (by rfl) (Ht.out s2 t hs2 ht _) ?_
    rintro e wW415 ⟨m4, hm4, hm4r, rfl, hb⟩
    have hkW415 := held_next hkW414 hb
    refine ⟨_, rfl, fun _ => hkW415, ?_⟩
    clear hb
    (try simp only [sI, sS, sZ])
    refine wpBut_r1 (i := 14) (by kernel_rfl) ?_
    refine go_call 14 37 #[tt,tt,tt,tt,tt,tt,tt,tt,tt,tt,tt,tt,tt,tt,tt,ff,ff] rfl rfl rfl (by rfl) rfl rfl (by rfl) ent41 (by rfl) (Hi2.out m3 m4 hm3 hm4 (r_mul m3 s t2 Y1 Z2 _ hm3r Hsr.out Ht2r.out rfl) (r_mul m4 s2 t Y2 Z1 _ hm4r Hs2r.out Htr.out rfl) _) ?_
    rintro e wW416 ⟨rfl, hb⟩
    have hkW416 := held_next hkW415 hb
    refine ⟨_, rfl, fun _ => hkW416, ?_⟩
    clear hb
    (try simp only [sI, sS, sZ])
    refine go_take2 15 38 #[tt,tt,tt,tt,tt,tt,tt,tt,tt,tt,tt,tt,tt,tt,tt,tt,ff] (v := ?uv5) rfl rfl rfl (by kernel_rfl) (Or.inl ⟨by rfl, ?uy5⟩) (hkW416) ?urest5
    case uy5 => (intro _ _; go_simp; try with_reducible rfl)
    (try simp only [sI, sS, sZ])
    refine go_take2 16 4 #[tt,tt,tt,tt,tt,tt,tt,tt,tt,tt,tt,tt,tt,tt,tt,tt,tt] (v := ?uv6) rfl rfl rfl (by kernel_rfl) (Or.inl ⟨by rfl, ?uy6⟩) (hkW416) ?urest6
    case uy6 => (intro _ _; go_simp; try with_reducible rfl)
    (try simp only [sI, sS, sZ])
    refine wpBut_done (by kernel_rfl) (NoPanic.normal ?_)
    replace M5 := Lib.hid (M5.out.call hkW416)
    replace M6 := Lib.hid (M6.out.call hkW416)
    replace M7 := Lib.hid (M7.out.call hkW416)
    replace M8 := Lib.hid (M8.out.call hkW416)
    replace M9 := Lib.hid (M9.out.call hkW416)
    replace M10 := Lib.hid (M10.out.call hkW416)
    replace HB := Lib.hid (held_next HB.out hkW416)
    go_wp2_with fail
    go_ret
    exact ⟨by simp, HB.out⟩
end Go.Proofs.Ytjiagjonlcadiaa
end
section
namespace Go.Proofs.Ytjiagjonlcadiaa
open Go.RowKit Go.Lib

theorem and_128 (a : Nat) (h : a < 256) : bits .and .u8 (a : Int) 128 = ((a / 128 * 128 : Nat) : Int) := by
  have : (List.range 256).all (fun a => bits .and .u8 (a : Int) 128 == ((a / 128 * 128 : Nat) : Int)) = true := by decide +kernel
  simpa using List.all_eq_true.1 this a (by simpa using h)
theorem andn_128 (a : Nat) (h : a < 256) : bits .andNot .u8 (a : Int) 128 = ((a % 128 : Nat) : Int) := by
  have : (List.range 256).all (fun a => bits .andNot .u8 (a : Int) 128 == ((a % 128 : Nat) : Int)) = true := by decide +kernel
  simpa using List.all_eq_true.1 this a (by simpa using h)
theorem dg31_any (n : Nat) (h : n < 115792089237316195423570985008687907853269984665640564039457584007913129639936) : ∃ c : Nat, dg 256 n 31 = (c : Int) ∧ c < 256 ∧ c / 128 = n / 57896044618658097711785492504343953926634992332820282019728792003956564819968 ∧ c = n / 256 ^ 31 % 256 := by
  refine ⟨n / 256 ^ 31 % 256, rfl, Nat.mod_lt _ (by decide), ?_, rfl⟩
  rw [show (256 : Nat) ^ 31 = 452312848583266388373324160190187140051835877600158453279131187530910662656 by decide +kernel]
  omega
theorem key_clear (n c : Nat) (hc : c = n / 256 ^ 31 % 256) (x : Int) (hx : x = ((c % 128 : Nat) : Int)) : row .u8 32 (upd (dg 256 n) 31 x) = k32 (n % 57896044618658097711785492504343953926634992332820282019728792003956564819968) := by
  refine row_ext _ _ _ _ fun i hi => ?_
  have e31 : (256 : Nat) ^ 31 = 452312848583266388373324160190187140051835877600158453279131187530910662656 := by decide +kernel
  by_cases e : i = 31
  · subst e
    rw [upd_same, hx, hc]
    unfold dg
    rw [e31]
    omega
  · rw [upd_ne _ _ _ _ e]
    unfold dg
    have e1 : 57896044618658097711785492504343953926634992332820282019728792003956564819968 = 256 ^ i * (256 * (128 * 256 ^ (30 - i))) := by
      rw [show 256 ^ i * (256 * (128 * 256 ^ (30 - i))) = 128 * (256 ^ i * 256 ^ (30 - i) * 256) by ac_rfl, ← Nat.pow_add, show i + (30 - i) = 30 by omega]
    rw [e1, Nat.mod_mul, Nat.add_mul_div_left _ _ (Nat.pow_pos (by omega)), Nat.mod_mul, Nat.div_eq_of_lt (Nat.mod_lt n (Nat.pow_pos (by omega) : 0 < 256 ^ i)), Nat.zero_add, Nat.add_mul_mod_self_left, Nat.mod_mod]
/-- is a text a point's, and which -/
def cof (n : Nat) : Bool × Nat × Nat := if n % 57896044618658097711785492504343953926634992332820282019728792003956564819968 < PP then bes (cx (n % 57896044618658097711785492504343953926634992332820282019728792003956564819968)) (decide (n / 57896044618658097711785492504343953926634992332820282019728792003956564819968 = 0)) (n % 57896044618658097711785492504343953926634992332820282019728792003956564819968) else (false, 0, 1)
theorem cof_yes (n : Nat) (h : n % 57896044618658097711785492504343953926634992332820282019728792003956564819968 < PP) : cof n = bes (cx (n % 57896044618658097711785492504343953926634992332820282019728792003956564819968)) (decide (n / 57896044618658097711785492504343953926634992332820282019728792003956564819968 = 0)) (n % 57896044618658097711785492504343953926634992332820282019728792003956564819968) := by unfold cof; rw [if_pos h]
theorem cof_no (n : Nat) (h : ¬ n % 57896044618658097711785492504343953926634992332820282019728792003956564819968 < PP) : cof n = (false, 0, 1) := by unfold cof; rw [if_neg h]
theorem even_bit (c q : Nat) (h : c / 128 = q) : (((c / 128 * 128 : Nat) : Int) == 0) = decide (q = 0) := by
  rw [← h]
  by_cases h0 : c / 128 = 0
  · rw [h0]; rfl
  · rw [decide_eq_false h0]
    exact beq_eq_false_iff_ne.2 (by omega)
theorem m255_lt (n : Nat) : n % 57896044618658097711785492504343953926634992332820282019728792003956564819968 < 115792089237316195423570985008687907853269984665640564039457584007913129639936 := by omega
theorem m255_m (n : Nat) : n % 57896044618658097711785492504343953926634992332820282019728792003956564819968 % 57896044618658097711785492504343953926634992332820282019728792003956564819968 = n % 57896044618658097711785492504343953926634992332820282019728792003956564819968 := Nat.mod_mod _ _

set_option maxRecDepth 100000 in
set_option linter.unusedSimpArgs false in
set_option maxHeartbeats 8000000 in
theorem pof_any (n : Nat) (hn : n < 115792089237316195423570985008687907853269984665640564039457584007913129639936) (w : World) : Calls Try.prog 47 #[.agg (k32 n)] w (BeP (cof n) w) := by
  obtain ⟨c, hc, hcl, hcq, hcd⟩ := dg31_any n hn
  have hand := and_128 c hcl
  have handn := andn_128 c hcl
  have hclr := key_clear n c hcd ((c % 128 : Nat) : Int) rfl
  have hyes := cof_yes n
  have hno := cof_no n
  obtain ⟨ev, hev⟩ : ∃ b, b = decide (n / 57896044618658097711785492504343953926634992332820282019728792003956564819968 = 0) := ⟨_, rfl⟩
  have hbit := even_bit c _ hcq
  rw [← hev] at hyes hbit
  have hl0 := m255_lt n
  have hmm := m255_m n
  obtain ⟨n0, hn0⟩ : ∃ m, m = n % 57896044618658097711785492504343953926634992332820282019728792003956564819968 := ⟨_, rfl⟩
  rw [← hn0] at hclr hyes hno hl0 hmm
  have hfo := fun w => fof_a n0 n0 hl0 hmm.symm w
  have hkey := fun w => key_any n0 hl0 w
  have hbe := fun w => beside_any n0 ev hl0 w
  obtain ⟨c1, hc1⟩ : ∃ c1 : Nat, c1 = c / 128 * 128 := ⟨_, rfl⟩
  obtain ⟨c2, hc2⟩ : ∃ c2 : Nat, c2 = c % 128 := ⟨_, rfl⟩
  rw [← hc1] at hand hbit
  rw [← hc2] at handn hclr
  obtain ⟨R, hR⟩ : ∃ R, R = cof n := ⟨_, rfl⟩
  rw [← hR] at hyes hno ⊢
  clear hR hc1 hc2 hn0 hmm hev hcq hcd
  have Hclr := Lib.hid hclr; clear hclr
  have Hyes := Lib.hid hyes; clear hyes
  have Hno := Lib.hid hno; clear hno
  have Hfo := Lib.hid hfo; clear hfo
  have Hkey := Lib.hid hkey; clear hkey
  have Hbe := Lib.hid hbe; clear hbe
  have Hc := Lib.hid hc; clear hc
  have Hl0 := Lib.hid hl0; clear hl0
  go_enter Try.func47, Try.ntmps47
  repeat ((fail_if_success (with_reducible (show wpList _ _ _ _ _ _))); go_step)
  iterate 3 (refine wpList_step (fun K hK => ?_); go_simp; (try go_bits); refine hK _ _ ?_; clear hK K)
  refine wpList_nil ?_
  have M1 := Lib.hid ((Has.new w  (k32 n) 24).alloc (.cells (#[.int .u64 0, .int .u64 0, .int .u64 0, .int .u64 0, .int .u64 0, .int .u64 0, .int .u64 0, .int .u64 0, .int .u64 0, .int .u64 0, .int .u64 0, .int .u64 0, .bool false] : Array Value) 53))
  have M2 := Lib.hid (HasN.new1 w (.cells (k32 n) 24) (#[.int .u64 0, .int .u64 0, .int .u64 0, .int .u64 0, .int .u64 0, .int .u64 0, .int .u64 0, .int .u64 0, .int .u64 0, .int .u64 0, .int .u64 0, .int .u64 0, .bool false] : Array Value) 53 13 (by kernel_rfl))
  have HB := Lib.hid (below_2 w (.cells (k32 n) 24) (.cells (#[.int .u64 0, .int .u64 0, .int .u64 0, .int .u64 0, .int .u64 0, .int .u64 0, .int .u64 0, .int .u64 0, .int .u64 0, .int .u64 0, .int .u64 0, .int .u64 0, .bool false] : Array Value) 53))
  obtain ⟨yw1, hwyw1⟩ : ∃ ww, ww = ((w.alloc (.cells (k32 n) 24)).alloc (.cells (#[.int .u64 0, .int .u64 0, .int .u64 0, .int .u64 0, .int .u64 0, .int .u64 0, .int .u64 0, .int .u64 0, .int .u64 0, .int .u64 0, .int .u64 0, .int .u64 0, .bool false] : Array Value) 53)) := ⟨_, rfl⟩
  rw [← hwyw1] at M1 M2 HB ⊢
  clear hwyw1
  have h1 := M1.out.cell 31 (by omega)
  rw [Hc.out] at h1
  have hfz := M1.out.frozen 31
  repeat ((fail_if_success (with_reducible (show wpList _ _ _ _ _ _))); go_step)
  iterate 5 (refine wpList_step (fun K hK => ?_); go_simp; (try go_bits); refine hK _ _ ?_; clear hK K)
  refine wpList_nil ?_
  repeat ((fail_if_success (with_reducible (show wpList _ _ _ _ _ _))); go_step)
  iterate 5 (refine wpList_step (fun K hK => ?_); go_simp; (try go_bits); refine hK _ _ ?_; clear hK K)
  refine wpList_nil ?_
  clear h1 hfz
  have kq := M1.out.set 31 ((c2 : Int)); rw [Hclr.out] at kq; clear M1; have M1 := Lib.hid kq; clear kq
  have kq := M2.out.other ⟨w.heap.size, 31, none⟩ (.int .u8 ((c2 : Int))) (by simp <;> omega); clear M2; have M2 := Lib.hid kq; clear kq
  replace HB := Lib.hid (HB.out.setCell (p := ⟨w.heap.size, 31, none⟩) (show w.heap.size ≤ w.heap.size by omega) (.int .u8 ((c2 : Int))))
  obtain ⟨yw2, hwyw2⟩ : ∃ ww, ww = yw1.setCell ⟨w.heap.size, 31, none⟩ (.int .u8 ((c2 : Int))) := ⟨_, rfl⟩
  rw [← hwyw2] at M1 M2 HB ⊢
  clear hwyw2
  clear hand handn hbit hcl
  repeat ((fail_if_success (with_reducible (show wpList _ _ _ _ _ _))); go_step)
  refine wpList_load (by rfl) 24 _ rfl (w.heap.size) rfl 24 (k32 n0) M1.out Try.underlying24 rfl (by rw [k32_size]; kernel_rfl) 14 rfl ?_
  (try simp only [Act.put, sI, sS, sZ])
  refine wpList_call (by rfl) rfl rfl (by rfl) ent30 (by rfl) (Hfo.out _) 15 rfl ?_
  rintro e uw1 ⟨rfl, hb⟩
  replace M1 := Lib.hid (M1.out.call hb)
  replace M2 := Lib.hid (M2.out.call hb)
  replace HB := Lib.hid (held_next HB.out hb)
  refine ⟨_, rfl, ?_⟩
  clear hb
  (try simp only [Act.put, sI, sS, sZ])
  refine wpList_alloc (by rfl) 36 rfl _ al36 5 rfl ?_
  intro yw3 hw2
  have hlt4 := M1.out.lt
  have hlt5 := M2.out.lt
  have hsz := HB.out.size
  replace M1 := Lib.hid (M1.out.alloc (.cells z36 36))
  replace M2 := Lib.hid (M2.out.alloc (.cells z36 36))
  have M5 := Lib.hid (HasN.new uw1 z36 36 4 (by kernel_rfl))
  replace HB := Lib.hid (HB.out.alloc hsz (.cells z36 36))
  rw [← hw2] at M1 M2 M5 HB; clear hw2
  (try simp only [Act.put, sI, sS, sZ])
  first | (obtain ⟨Zq, hZ, mZ⟩ := M5.out) | (obtain ⟨Zq, hZ, mZ⟩ := M5.out.toN (e4_size ..))
  refine wpList_store2 (by rfl) 36 _ _ rfl rfl (uw1.heap.size) (e4 n0) rfl rfl 36 Zq mZ (by rw [e4_size]; kernel_rfl) (hZ.trans (e4_size ..).symm) (row_one _ _ _) ?_
  intro yw6 hw2
  replace M1 := Lib.hid (M1.out.setRow_other (uw1.heap.size) (e4 n0) (by omega))
  replace M2 := Lib.hid (M2.out.setRow_other (uw1.heap.size) (e4 n0) (by omega))
  replace M5 := Lib.hid (mZ.setRow (e4 n0))
  replace HB := Lib.hid (below_setRow HB.out (uw1.heap.size) (e4 n0) (by omega))
  rw [← hw2] at M1 M2 M5 HB; clear mZ hZ hw2
  refine wpList_nil ?_
  repeat ((fail_if_success (with_reducible (show wpList _ _ _ _ _ _))); go_step)
  by_cases hlt : n0 < PP
  · have hm := Nat.mod_eq_of_lt hlt
    have hk2 := Hkey.out
    rw [hm] at hk2
    have heq := fun w => k32_same n0 Hl0.out w
    have hb2 := Hbe.out
    rw [hm] at hb2
    have hR := Hyes.out hlt
    rw [← hR] at hb2
    clear hm hR
    have Hk2 := Lib.hid hk2; clear hk2
    have Hb2 := Lib.hid hb2; clear hb2
    refine wp_region_noPanic ?_
    refine wp_region_go 99 4 #[false, false, false, false] (by kernel_rfl) rfl rfl ?_
    intro W7 hW7
    rw [← hW7] at M1 M2 M5 HB
    clear hW7
    refine go_take2 0 16 #[true, false, false, false] rfl rfl rfl (by kernel_rfl) (yieldsIf_load_row (by rfl) 36 _ rfl (uw1.heap.size) rfl 36 (e4 n0) (fun _ h => M5.out.below h M5.out.lt) Try.underlying36 rfl (by rw [e4_size]; kernel_rfl)) ((below_dr W7)) ?_
    (try simp only [sI, sS, sZ])
    refine go_take2 2 18 #[true, false, true, false] rfl rfl rfl (by kernel_rfl) (yieldsIf_load_row (by rfl) 24 _ rfl (w.heap.size) rfl 24 (k32 n0) (fun _ h => M1.out.below h M1.out.lt) Try.underlying24 rfl (by rw [k32_size]; kernel_rfl)) ((below_dr W7)) ?_
    (try simp only [sI, sS, sZ])
    refine wpBut_r1 (i := 1) (by kernel_rfl) ?_
    refine go_call 1 17 #[true, true, true, false] rfl rfl rfl (by rfl) rfl rfl (by rfl) ent73 (by rfl) (Hk2.out _) ?_
    rintro e wW71 ⟨rfl, hb⟩
    have hkW71 := held_next (below_dr W7) hb
    refine ⟨_, rfl, fun _ => hkW71, ?_⟩
    clear hb
    (try simp only [sI, sS, sZ])
    refine go_take2 3 19 #[true, true, true, true] (v := ?uv1) rfl rfl rfl (by kernel_rfl) (Or.inl ⟨by rfl, ?uy1⟩) (hkW71) ?urest1
    case uy1 => (intro _ _; go_simp; try with_reducible rfl)
    (try simp only [sI, sS, sZ])
    refine wpBut_done (by kernel_rfl) (NoPanic.normal ?_)
    replace M1 := Lib.hid (M1.out.call hkW71)
    replace M2 := Lib.hid (M2.out.call hkW71)
    replace M5 := Lib.hid (M5.out.call hkW71)
    replace HB := Lib.hid (held_next HB.out hkW71)
    clear heq
    repeat ((fail_if_success (with_reducible (show wpList _ _ _ _ _ _))); go_step)
    refine wpList_load (by rfl) 36 _ rfl (uw1.heap.size) rfl 36 (e4 n0) M5.out Try.underlying36 rfl (by rw [e4_size]; kernel_rfl) 21 rfl ?_
    (try simp only [Act.put, sI, sS, sZ])
    (refine wpList_step (fun K hK => ?_); go_simp; (try go_bits); refine hK _ _ ?_; clear hK K)
    refine wpList_call (by rfl) rfl rfl (by rfl) ent87 (by rfl) (Hb2.out _) 23 rfl ?_
    rintro e uw2 ⟨px, py, pz, pb, hpt, rfl, hb⟩
    replace M1 := Lib.hid (M1.out.call hb)
    replace M2 := Lib.hid (M2.out.call hb)
    replace M5 := Lib.hid (M5.out.call hb)
    replace HB := Lib.hid (held_next HB.out hb)
    refine ⟨_, rfl, ?_⟩
    clear hb
    (try simp only [Act.put, sI, sS, sZ])
    iterate 2 (refine wpList_step (fun K hK => ?_); go_simp; (try go_bits); refine hK _ _ ?_; clear hK K)
    first | (obtain ⟨Zq, hZ, mZ⟩ := M2.out) | (obtain ⟨Zq, hZ, mZ⟩ := M2.out.toN (pt_size ..))
    refine wpList_store2 (by rfl) 53 _ _ rfl rfl (w.heap.size + 1) (pt px py pz pb) rfl rfl 53 Zq mZ (by rw [pt_size]; kernel_rfl) (hZ.trans (pt_size ..).symm) (pt_one _ _ _ _) ?_
    intro yw8 hw2
    replace M1 := Lib.hid (M1.out.setRow_other (w.heap.size + 1) (pt px py pz pb) (by omega))
    replace M5 := Lib.hid (M5.out.setRow_other (w.heap.size + 1) (pt px py pz pb) (by omega))
    replace M2 := Lib.hid (mZ.setRow (pt px py pz pb))
    replace HB := Lib.hid (below_setRow HB.out (w.heap.size + 1) (pt px py pz pb) (by omega))
    rw [← hw2] at M1 M5 M2 HB; clear mZ hZ hw2
    (refine wpList_step (fun K hK => ?_); go_simp; (try go_bits); refine hK _ _ ?_; clear hK K)
    refine wpList_nil ?_
    go_wp2_with fail
    exact bodyPost_ret (v := .tuple #[.agg (pt px py pz pb), .bool R.1]) (results_cell_tmp_row (fn := Try.f47) (p := 2) (t2 := 3) (ty := 53) (t := 53) (by rfl) _ _ (w.heap.size + 1) _ _ _ rfl M2.out Try.underlying53 rfl (by rw [pt_size]; kernel_rfl)) rfl ⟨px, py, pz, pb, hpt, rfl, HB.out⟩
  · have hne : ¬ n0 % PP = n0 := by
      have := Nat.mod_lt n0 PP_pos
      omega
    have heq := fun w => k32_eq (n0 % PP) n0 (modPP_lt n0) Hl0.out w
    rw [decide_eq_false hne] at heq
    obtain ⟨r, hr⟩ : ∃ r, r = n0 % PP := ⟨_, rfl⟩
    have hk2 := Hkey.out
    rw [← hr] at hk2 heq
    have hR := Hno.out hlt
    clear hr hne
    have Hk2 := Lib.hid hk2; clear hk2
    have HR := Lib.hid hR; clear hR
    refine wp_region_noPanic ?_
    refine wp_region_go 99 4 #[false, false, false, false] (by kernel_rfl) rfl rfl ?_
    intro W7 hW7
    rw [← hW7] at M1 M2 M5 HB
    clear hW7
    refine go_take2 0 16 #[true, false, false, false] rfl rfl rfl (by kernel_rfl) (yieldsIf_load_row (by rfl) 36 _ rfl (uw1.heap.size) rfl 36 (e4 n0) (fun _ h => M5.out.below h M5.out.lt) Try.underlying36 rfl (by rw [e4_size]; kernel_rfl)) ((below_dr W7)) ?_
    (try simp only [sI, sS, sZ])
    refine go_take2 2 18 #[true, false, true, false] rfl rfl rfl (by kernel_rfl) (yieldsIf_load_row (by rfl) 24 _ rfl (w.heap.size) rfl 24 (k32 n0) (fun _ h => M1.out.below h M1.out.lt) Try.underlying24 rfl (by rw [k32_size]; kernel_rfl)) ((below_dr W7)) ?_
    (try simp only [sI, sS, sZ])
    refine wpBut_r1 (i := 1) (by kernel_rfl) ?_
    refine go_call 1 17 #[true, true, true, false] rfl rfl rfl (by rfl) rfl rfl (by rfl) ent73 (by rfl) (Hk2.out _) ?_
    rintro e wW71 ⟨rfl, hb⟩
    have hkW71 := held_next (below_dr W7) hb
    refine ⟨_, rfl, fun _ => hkW71, ?_⟩
    clear hb
    (try simp only [sI, sS, sZ])
    refine go_take2 3 19 #[true, true, true, true] (v := ?uv2) rfl rfl rfl (by kernel_rfl) (Or.inl ⟨by rfl, ?uy2⟩) (hkW71) ?urest2
    case uy2 => (intro _ _; go_simp; try with_reducible rfl)
    (try simp only [sI, sS, sZ])
    refine wpBut_done (by kernel_rfl) (NoPanic.normal ?_)
    replace M1 := Lib.hid (M1.out.call hkW71)
    replace M2 := Lib.hid (M2.out.call hkW71)
    replace M5 := Lib.hid (M5.out.call hkW71)
    replace HB := Lib.hid (held_next HB.out hkW71)
    clear heq
    repeat ((fail_if_success (with_reducible (show wpList _ _ _ _ _ _))); go_step)
    refine wpList_built (by rfl) 53 _ rfl _ (by rfl) (pt 0 0 0 false) (bd53z) 20 rfl ?_
    (try simp only [Act.put, sI, sS, sZ])
    first | (obtain ⟨Zq, hZ, mZ⟩ := M2.out) | (obtain ⟨Zq, hZ, mZ⟩ := M2.out.toN (pt_size ..))
    refine wpList_store2 (by rfl) 53 _ _ rfl rfl (w.heap.size + 1) (pt 0 0 0 false) rfl rfl 53 Zq mZ (by rw [pt_size]; kernel_rfl) (hZ.trans (pt_size ..).symm) (pt_one _ _ _ _) ?_
    intro yw8 hw2
    replace M1 := Lib.hid (M1.out.setRow_other (w.heap.size + 1) (pt 0 0 0 false) (by omega))
    replace M5 := Lib.hid (M5.out.setRow_other (w.heap.size + 1) (pt 0 0 0 false) (by omega))
    replace M2 := Lib.hid (mZ.setRow (pt 0 0 0 false))
    replace HB := Lib.hid (below_setRow HB.out (w.heap.size + 1) (pt 0 0 0 false) (by omega))
    rw [← hw2] at M1 M5 M2 HB; clear mZ hZ hw2
    (refine wpList_step (fun K hK => ?_); go_simp; (try go_bits); refine hK _ _ ?_; clear hK K)
    refine wpList_nil ?_
    go_wp2_with fail
    exact bodyPost_ret (v := .tuple #[.agg (pt 0 0 0 false), .bool false]) (results_cell_tmp_row (fn := Try.f47) (p := 2) (t2 := 3) (ty := 53) (t := 53) (by rfl) _ _ (w.heap.size + 1) _ _ _ rfl M2.out Try.underlying53 rfl (by rw [pt_size]; kernel_rfl)) rfl ⟨0, 0, 0, false, by rw [HR.out]; exact ⟨⟨by decide, by decide, by decide⟩, .inr ⟨rfl, by rw [Nat.zero_mod], by rw [one_PP], rfl⟩⟩, by rw [HR.out], HB.out⟩
end Go.Proofs.Ytjiagjonlcadiaa
end
section
namespace Go.Proofs.Ytjiagjonlcadiaa
open Go.RowKit Go.Lib

def GX : Nat := 15112221349535400772501151409588531511454012693041857206046113283949847762202
def GY : Nat := 46316835694926478169428394003475163141307993866256225615783033603165251855960
theorem GX_lt : GX < PP := by decide +kernel
theorem GY_lt : GY < PP := by decide +kernel
theorem gy_pm : 4 * Nm.pm PP 256 5 (PP - 2) % PP = GY := by decide +kernel
theorem gx_pm : (GY * GY % PP + (PP - 1)) % PP * Nm.pm PP 256 ((SL * (GY * GY % PP) % PP + 1) % PP) (PP - 2) % PP = GX * GX % PP := by decide +kernel
theorem gy_val : 4 * pwm 5 (PP - 2) % PP = GY := by rw [pwm_pm _ _ pp2_lt, gy_pm]
theorem cx_pm (Y r : Nat) (h : (Y * Y % PP + (PP - 1)) % PP * Nm.pm PP 256 ((SL * (Y * Y % PP) % PP + 1) % PP) (PP - 2) % PP = r) : cx Y = r := by
  unfold cx; rw [pwm_pm _ _ pp2_lt, h]
theorem root_even (r : Nat) (hr : r < PP) (he : r % 2 = 0) : rt3 (r * r % PP) = r := by
  rcases rt3_root r with h | h
  · rw [h, Nat.mod_eq_of_lt hr]
  · have h1 := rt3_even (r * r % PP)
    have h2 := rt3_lt (r * r % PP)
    have h3 := PP_odd
    by_cases hh : rt3 (r * r % PP) + r < PP
    · rw [Nat.mod_eq_of_lt hh] at h; omega
    · have h4 : (rt3 (r * r % PP) + r) = PP + (rt3 (r * r % PP) + r - PP) := by omega
      rw [h4, Nat.add_mod_left, Nat.mod_eq_of_lt (by omega)] at h
      omega
theorem gx_even : GX % 2 = 0 := by decide +kernel
theorem gen_bes : bes (cx GY) true GY = (true, GX, GY) := by
  rw [cx_pm GY _ gx_pm, bes_even _ _ (rtok_sq GX), root_even GX GX_lt gx_even]
theorem pwm_base1 (e : Nat) : pwm 1 e = 1 := by unfold pwm; rw [Nat.one_pow, one_PP]
theorem keyn_one (X Y : Nat) (hX : X < PP) (hY : Y < PP) : keyn X Y 1 = Y + X % 2 * 57896044618658097711785492504343953926634992332820282019728792003956564819968 := by
  unfold keyn; rw [pwm_base1, Nat.mul_one, Nat.mul_one, Nat.mod_eq_of_lt hX, Nat.mod_eq_of_lt hY]
theorem gen_key : keyn GX GY 1 = GY := by rw [keyn_one GX GY GX_lt GY_lt, gx_even, Nat.zero_mul, Nat.add_zero]

set_option maxRecDepth 100000 in
set_option linter.unusedSimpArgs false in
set_option maxHeartbeats 8000000 in
theorem gen_any (w : World) : Calls Try.prog 58 #[] w (PtP GX GY 1 w) := by
  have h4 := fun w => fint_nn 4 (by decide) w
  have h5 := fun w => fint_nn 5 (by decide) w
  have hov := fun w => over_any 4 5 (by decide) (by decide) w
  rw [gy_val] at hov
  have hbe : ∀ m, m < 115792089237316195423570985008687907853269984665640564039457584007913129639936 → m % PP = GY → ∀ w, Calls Try.prog 87 #[.agg (e4 m), .bool true] w fun e w' => ∃ (x y z1 : Nat) (b : Bool), IsPt x y z1 b GX GY 1 ∧ e = .returned (.tuple #[.agg (pt x y z1 b), .bool true]) ∧ Below w.heap.size w w' := by
    intro m hm hr w
    have := beside_any m true hm w
    rw [hr, gen_bes] at this
    refine this.mono ?_
    rintro e w' ⟨x, y, z1, b, h1, h2, h3⟩
    rw [one_PP] at h1
    exact ⟨x, y, z1, b, h1, h2, h3⟩
  have H4 := Lib.hid h4; clear h4
  have H5 := Lib.hid h5; clear h5
  have Hov := Lib.hid hov; clear hov
  have Hbe := Lib.hid hbe; clear hbe
  go_enter Try.func58, Try.ntmps58
  repeat ((fail_if_success (with_reducible (show wpList _ _ _ _ _ _))); go_step)
  (refine wpList_step (fun K hK => ?_); go_simp; (try go_bits); refine hK _ _ ?_; clear hK K)
  refine wpList_nil ?_
  have M0 := Lib.hid (HasN.new w  (#[.int .u64 0, .int .u64 0, .int .u64 0, .int .u64 0, .int .u64 0, .int .u64 0, .int .u64 0, .int .u64 0, .int .u64 0, .int .u64 0, .int .u64 0, .int .u64 0, .bool false] : Array Value) 53 13 (by kernel_rfl))
  have HB := Lib.hid (below_1 w (.cells (#[.int .u64 0, .int .u64 0, .int .u64 0, .int .u64 0, .int .u64 0, .int .u64 0, .int .u64 0, .int .u64 0, .int .u64 0, .int .u64 0, .int .u64 0, .int .u64 0, .bool false] : Array Value) 53))
  obtain ⟨yw1, hwyw1⟩ : ∃ ww, ww = (w.alloc (.cells (#[.int .u64 0, .int .u64 0, .int .u64 0, .int .u64 0, .int .u64 0, .int .u64 0, .int .u64 0, .int .u64 0, .int .u64 0, .int .u64 0, .int .u64 0, .int .u64 0, .bool false] : Array Value) 53)) := ⟨_, rfl⟩
  rw [← hwyw1] at M0 HB ⊢
  clear hwyw1
  repeat ((fail_if_success (with_reducible (show wpList _ _ _ _ _ _))); go_step)
  refine wpList_call (by rfl) rfl rfl (by rfl) ent34 (by rfl) (H4.out _) 4 rfl ?_
  rintro e uw1 ⟨rfl, hb⟩
  replace M0 := Lib.hid (M0.out.call hb)
  replace HB := Lib.hid (held_next HB.out hb)
  refine ⟨_, rfl, ?_⟩
  clear hb
  (try simp only [Act.put, sI, sS, sZ])
  refine wpList_call (by rfl) rfl rfl (by rfl) ent34 (by rfl) (H5.out _) 5 rfl ?_
  rintro e uw2 ⟨rfl, hb⟩
  replace M0 := Lib.hid (M0.out.call hb)
  replace HB := Lib.hid (held_next HB.out hb)
  refine ⟨_, rfl, ?_⟩
  clear hb
  (try simp only [Act.put, sI, sS, sZ])
  refine wpList_call (by rfl) rfl rfl (by rfl) ent42 (by rfl) (Hov.out _) 6 rfl ?_
  rintro e uw3 ⟨m, hm, hmr, rfl, hb⟩
  replace M0 := Lib.hid (M0.out.call hb)
  replace HB := Lib.hid (held_next HB.out hb)
  refine ⟨_, rfl, ?_⟩
  clear hb
  (try simp only [Act.put, sI, sS, sZ])
  refine wpList_call (by rfl) rfl rfl (by rfl) ent87 (by rfl) (Hbe.out m hm hmr _) 7 rfl ?_
  rintro e uw4 ⟨px, py, pz, pb, hpt, rfl, hb⟩
  replace M0 := Lib.hid (M0.out.call hb)
  replace HB := Lib.hid (held_next HB.out hb)
  refine ⟨_, rfl, ?_⟩
  clear hb
  (try simp only [Act.put, sI, sS, sZ])
  iterate 3 (refine wpList_step (fun K hK => ?_); go_simp; (try go_bits); refine hK _ _ ?_; clear hK K)
  refine wpList_alloc (by rfl) 53 rfl _ al53 1 rfl ?_
  intro yw2 hw2
  have hlt3 := M0.out.lt
  have hsz := HB.out.size
  replace M0 := Lib.hid (M0.out.alloc (.cells z53 53))
  have M1 := Lib.hid (HasN.new uw4 z53 53 13 (by kernel_rfl))
  replace HB := Lib.hid (HB.out.alloc hsz (.cells z53 53))
  rw [← hw2] at M0 M1 HB; clear hw2
  (try simp only [Act.put, sI, sS, sZ])
  first | (obtain ⟨Zq, hZ, mZ⟩ := M1.out) | (obtain ⟨Zq, hZ, mZ⟩ := M1.out.toN (pt_size ..))
  refine wpList_store2 (by rfl) 53 _ _ rfl rfl (uw4.heap.size) (pt px py pz pb) rfl rfl 53 Zq mZ (by rw [pt_size]; kernel_rfl) (hZ.trans (pt_size ..).symm) (pt_one _ _ _ _) ?_
  intro yw4 hw2
  replace M0 := Lib.hid (M0.out.setRow_other (uw4.heap.size) (pt px py pz pb) (by omega))
  replace M1 := Lib.hid (mZ.setRow (pt px py pz pb))
  replace HB := Lib.hid (below_setRow HB.out (uw4.heap.size) (pt px py pz pb) (by omega))
  rw [← hw2] at M0 M1 HB; clear mZ hZ hw2
  (refine wpList_step (fun K hK => ?_); go_simp; (try go_bits); refine hK _ _ ?_; clear hK K)
  refine wpList_nil ?_
  repeat ((fail_if_success (with_reducible (show wpList _ _ _ _ _ _))); go_step)
  refine wpList_load (by rfl) 53 _ rfl (uw4.heap.size) rfl 53 (pt px py pz pb) M1.out Try.underlying53 rfl (by rw [pt_size]; kernel_rfl) 10 rfl ?_
  (try simp only [Act.put, sI, sS, sZ])
  first | (obtain ⟨Zq, hZ, mZ⟩ := M0.out) | (obtain ⟨Zq, hZ, mZ⟩ := M0.out.toN (pt_size ..))
  refine wpList_store2 (by rfl) 53 _ _ rfl rfl (w.heap.size) (pt px py pz pb) rfl rfl 53 Zq mZ (by rw [pt_size]; kernel_rfl) (hZ.trans (pt_size ..).symm) (pt_one _ _ _ _) ?_
  intro yw5 hw2
  replace M1 := Lib.hid (M1.out.setRow_other (w.heap.size) (pt px py pz pb) (by omega))
  replace M0 := Lib.hid (mZ.setRow (pt px py pz pb))
  replace HB := Lib.hid (below_setRow HB.out (w.heap.size) (pt px py pz pb) (by omega))
  rw [← hw2] at M1 M0 HB; clear mZ hZ hw2
  refine wpList_nil ?_
  go_wp2_with fail
  exact bodyPost_ret (v := .agg (pt px py pz pb)) (results_cell_row (t := 53) (by rfl) _ _ (w.heap.size) _ _ _ rfl M0.out Try.underlying53 rfl (by rw [pt_size]; kernel_rfl)) rfl ⟨px, py, pz, pb, hpt, rfl, HB.out⟩

theorem gen_minus : (decide ((padd SL GX GY 1 (negP GX) GY 1).1 * 1 % PP = 0 * (padd SL GX GY 1 (negP GX) GY 1).2.2 % PP) && decide ((padd SL GX GY 1 (negP GX) GY 1).2.1 * 1 % PP = 1 * (padd SL GX GY 1 (negP GX) GY 1).2.2 % PP)) = true := by decide +kernel
theorem zero_pt : IsPt 0 0 0 false 0 1 1 := ⟨⟨by decide, by decide, by decide⟩, .inr ⟨rfl, Nat.zero_mod _, one_PP, one_PP⟩⟩

set_option maxRecDepth 100000 in
set_option linter.unusedSimpArgs false in
set_option maxHeartbeats 8000000 in
theorem law4_alive (w : World) : Calls Try.prog 46 #[] w fun e w' => e = .returned (.bool true) ∧ Below w.heap.size w w' := by
  have hg := gen_any
  have hk := fun x y z b h w => pkey_any x y z b GX GY 1 h w
  simp only [gen_key] at hk
  have hmi := fun x y z b h x2 y2 z2 b2 h2 w => pminus_any x y z b GX GY 1 h x2 y2 z2 b2 GX GY 1 h2 w
  have hgm := gen_minus
  obtain ⟨R, hR⟩ : ∃ R, R = padd SL GX GY 1 (negP GX) GY 1 := ⟨_, rfl⟩
  rw [← hR] at hgm
  simp only [← hR] at hmi
  have his : ∀ x y z b, IsPt x y z b R.1 R.2.1 R.2.2 → ∀ w, Calls Try.prog 55 #[.agg (pt x y z b), .agg (pt 0 0 0 false)] w fun e w' => e = .returned (.bool true) ∧ Below w.heap.size w w' := by
    intro x y z b h w
    have := pis_any x y z b R.1 R.2.1 R.2.2 h 0 0 0 false 0 1 1 zero_pt w
    rwa [hgm] at this
  have hc0 : dg 256 GY 0 = 88 := by decide +kernel
  have hc1 : dg 256 GY 1 = 102 := by decide +kernel
  have hc31 : dg 256 GY 31 = 102 := by decide +kernel
  obtain ⟨gy, hgy⟩ : ∃ g, g = GY := ⟨_, rfl⟩
  rw [← hgy] at hc0 hc1 hc31
  simp only [← hgy] at hg hk hmi
  obtain ⟨gx, hgx⟩ : ∃ g, g = GX := ⟨_, rfl⟩
  simp only [← hgx] at hg hk hmi
  clear hR hgm hgy hgx
  have Hg := Lib.hid hg; clear hg
  have Hk := Lib.hid hk; clear hk
  have Hmi := Lib.hid hmi; clear hmi
  have His := Lib.hid his; clear his
  have Hc0 := Lib.hid hc0; clear hc0
  have Hc1 := Lib.hid hc1; clear hc1
  have Hc31 := Lib.hid hc31; clear hc31
  go_enter Try.func46, Try.ntmps46
  repeat ((fail_if_success (with_reducible (show wpList _ _ _ _ _ _))); go_step)
  (refine wpList_step (fun K hK => ?_); go_simp; (try go_bits); refine hK _ _ ?_; clear hK K)
  refine wpList_nil ?_
  have HB := Lib.hid (Below.refl w.heap.size w)
  repeat ((fail_if_success (with_reducible (show wpList _ _ _ _ _ _))); go_step)
  refine wpList_call (by rfl) rfl rfl (by rfl) ent58 (by rfl) (Hg.out _) 2 rfl ?_
  rintro e uw1 ⟨x1, y1, c1, b1, p1, rfl, hb⟩
  replace HB := Lib.hid (held_next HB.out hb)
  refine ⟨_, rfl, ?_⟩
  clear hb
  (try simp only [Act.put, sI, sS, sZ])
  refine wpList_call (by rfl) rfl rfl (by rfl) ent49 (by rfl) (Hk.out x1 y1 c1 b1 p1 _) 3 rfl ?_
  rintro e uw2 ⟨rfl, hb⟩
  replace HB := Lib.hid (held_next HB.out hb)
  refine ⟨_, rfl, ?_⟩
  clear hb
  (try simp only [Act.put, sI, sS, sZ])
  refine wpList_alloc (by rfl) 24 rfl _ al24 1 rfl ?_
  intro yw1 hw2
  have hsz := HB.out.size
  have M1 := Lib.hid (HasN.new uw2 z24 24 32 (by kernel_rfl))
  replace HB := Lib.hid (HB.out.alloc hsz (.cells z24 24))
  rw [← hw2] at M1 HB; clear hw2
  (try simp only [Act.put, sI, sS, sZ])
  first | (obtain ⟨Zq, hZ, mZ⟩ := M1.out) | (obtain ⟨Zq, hZ, mZ⟩ := M1.out.toN (k32_size ..))
  refine wpList_store2 (by rfl) 24 _ _ rfl rfl (uw2.heap.size) (k32 gy) rfl rfl 24 Zq mZ (by rw [k32_size]; kernel_rfl) (hZ.trans (k32_size ..).symm) (row_one _ _ _) ?_
  intro yw2 hw2
  replace M1 := Lib.hid (mZ.setRow (k32 gy))
  replace HB := Lib.hid (below_setRow HB.out (uw2.heap.size) (k32 gy) (by omega))
  rw [← hw2] at M1 HB; clear mZ hZ hw2
  refine wpList_nil ?_
  clear p1
  have h0 := M1.out.cell 0 (by omega)
  have h1 := M1.out.cell 1 (by omega)
  have h31 := M1.out.cell 31 (by omega)
  rw [Hc0.out] at h0
  rw [Hc1.out] at h1
  rw [Hc31.out] at h31
  repeat ((fail_if_success (with_reducible (show wpList _ _ _ _ _ _))); go_step)
  iterate 14 (refine wpList_step (fun K hK => ?_); go_simp; (try go_bits); refine hK _ _ ?_; clear hK K)
  
  clear h0 h1 h31
  refine wpList_call (by rfl) rfl rfl (by rfl) ent58 (by rfl) (Hg.out _) 18 rfl ?_
  rintro e uw3 ⟨x1, y1, c1, b1, p1, rfl, hb⟩
  replace M1 := Lib.hid (M1.out.call hb)
  replace HB := Lib.hid (held_next HB.out hb)
  refine ⟨_, rfl, ?_⟩
  clear hb
  (try simp only [Act.put, sI, sS, sZ])
  refine wpList_call (by rfl) rfl rfl (by rfl) ent58 (by rfl) (Hg.out _) 19 rfl ?_
  rintro e uw4 ⟨x2, y2, c2, b2, p2, rfl, hb⟩
  replace M1 := Lib.hid (M1.out.call hb)
  replace HB := Lib.hid (held_next HB.out hb)
  refine ⟨_, rfl, ?_⟩
  clear hb
  (try simp only [Act.put, sI, sS, sZ])
  refine wpList_call (by rfl) rfl rfl (by rfl) ent53 (by rfl) (Hmi.out x1 y1 c1 b1 p1 x2 y2 c2 b2 p2 _) 20 rfl ?_
  rintro e uw5 ⟨x3, y3, c3, b3, p3, rfl, hb⟩
  replace M1 := Lib.hid (M1.out.call hb)
  replace HB := Lib.hid (held_next HB.out hb)
  refine ⟨_, rfl, ?_⟩
  clear hb
  (try simp only [Act.put, sI, sS, sZ])
  refine wpList_built (by rfl) 53 _ rfl _ (by rfl) (pt 0 0 0 false) (bd53z) 21 rfl ?_
  (try simp only [Act.put, sI, sS, sZ])
  refine wpList_call (by rfl) rfl rfl (by rfl) ent55 (by rfl) (His.out x3 y3 c3 b3 p3 _) 22 rfl ?_
  rintro e uw6 ⟨rfl, hb⟩
  replace M1 := Lib.hid (M1.out.call hb)
  replace HB := Lib.hid (held_next HB.out hb)
  refine ⟨_, rfl, ?_⟩
  clear hb
  (try simp only [Act.put, sI, sS, sZ])
  iterate 2 (refine wpList_step (fun K hK => ?_); go_simp; (try go_bits); refine hK _ _ ?_; clear hK K)
  refine wpList_nil ?_
  go_wp2_with fail
  go_ret
  exact ⟨rfl, HB.out⟩
theorem bes_lt (C : Nat) (ev : Bool) (Y : Nat) (hY : Y < PP) : (bes C ev Y).2.1 < PP ∧ (bes C ev Y).2.2 < PP := by
  unfold bes
  by_cases h : rtok C = true ∧ ¬ (rt3 C = 0 ∧ ev = false)
  · rw [if_pos h]
    refine ⟨?_, hY⟩
    by_cases he : ev = true
    · rw [if_pos he]; exact rt3_lt C
    · rw [if_neg he]; exact Nat.mod_lt _ PP_pos
  · rw [if_neg h]
    have := PP_val
    refine ⟨?_, ?_⟩
    · show 0 < PP; omega
    · show 1 < PP; omega
theorem cof_lt (n : Nat) : (cof n).2.1 < PP ∧ (cof n).2.2 < PP := by
  by_cases h : n % 57896044618658097711785492504343953926634992332820282019728792003956564819968 < PP
  · rw [cof_yes n h]; exact bes_lt _ _ _ h
  · rw [cof_no n h]
    have := PP_val
    refine ⟨?_, ?_⟩
    · show 0 < PP; omega
    · show 1 < PP; omega
theorem cx_1 : cx 1 = 0 := cx_pm 1 0 (by decide +kernel)
end Go.Proofs.Ytjiagjonlcadiaa
end
section
namespace Go.Proofs.Ytjiagjonlcadiaa

theorem fi_to (a : Nat) (p : Fin PP) (h : fi a = p) : a % PP = p.val := congrArg Fin.val h
theorem finv_fi (Z : Nat) : finv (fi Z) = fi (pwm Z (PP - 2)) := by
  unfold finv
  show fi (pwm (Z % PP) (PP - 2)) = _
  rw [pwm_mod]
theorem quot_rep (X Z : Nat) (x : Fin PP) (h : fi X = x * fi Z) (hz : fi Z ≠ 0) : X * pwm Z (PP - 2) % PP = x.val := by
  apply fi_to
  rw [fi_mul, ← finv_fi, h]
  have := fld.inv _ hz
  grind
/-- the number of a point's text -/
def keyP (p : Fin PP × Fin PP) : Nat := p.2.val + p.1.val % 2 * 57896044618658097711785492504343953926634992332820282019728792003956564819968
theorem keyn_rep (X Y Z : Nat) (p : Fin PP × Fin PP) (h : Rep X Y Z p) : keyn X Y Z = keyP p := by
  obtain ⟨hx, hy, hz, _⟩ := h
  unfold keyn keyP
  rw [quot_rep X Z _ hx hz, quot_rep Y Z _ hy hz]
theorem Fld.y_ne {n : Nat} [NeZero n] {d i : Fin n} {inv : Fin n → Fin n} (F : Fld n d i inv) (y : Fin n) : d * (y * y) + 1 ≠ 0 := by
  intro h
  have hr := F.root
  have h1 : i * i = d * (y * y) := by grind
  have h2 := F.non _ _ h1
  have h3 : (0 : Fin n) = 1 := by grind
  exact F.one h3.symm
theorem cx_fi (Y : Nat) : fi (cx Y) * (fd * (fi Y * fi Y) + 1) = fi Y * fi Y - 1 := by
  have hn := fld.y_ne (fi Y)
  have hq : fi ((SL * (Y * Y % PP) % PP + 1) % PP) = fd * (fi Y * fi Y) + 1 := by
    simp only [fi_mod, fi_add, fi_mul, fi_one]; rfl
  have hm : fi ((Y * Y % PP + (PP - 1)) % PP) = fi Y * fi Y - 1 := by
    have e : PP - 1 = PP - 1 % PP := by rw [one_PP]
    rw [e]
    simp only [fi_mod, fi_add, fi_neg, fi_mul, fi_one]
    grind
  unfold cx
  rw [fi_mod, fi_mul, hm, ← finv_fi, hq]
  have := fld.inv _ hn
  grind
theorem cx_lt (Y : Nat) : cx Y < PP := Nat.mod_lt _ PP_pos
/-- a square x at y lies on the curve -/
theorem on_of (X Y : Nat) (h : X * X % PP = cx Y) : OnP fd (fi X, fi Y) := by
  have h1 := cx_fi Y
  rw [← h, fi_mod, fi_mul] at h1
  show fi Y * fi Y - fi X * fi X = 1 + fd * fi X * fi X * fi Y * fi Y
  grind
theorem sq_of (p : Fin PP × Fin PP) (h : OnP fd p) : p.1.val * p.1.val % PP = cx p.2.val := by
  have h1 := cx_fi p.2.val
  rw [fi_val] at h1
  have ho : p.2 * p.2 - p.1 * p.1 = 1 + fd * p.1 * p.1 * p.2 * p.2 := h
  have h2 : fi (p.1.val * p.1.val) = fi (cx p.2.val) := by
    rw [fi_mul, fi_val]
    refine fld.cancel _ _ _ (fld.y_ne p.2) ?_
    rw [h1]
    grind
  have h3 := (fi_eq _ _).1 h2
  rw [h3, Nat.mod_eq_of_lt (cx_lt _)]
/-- the text of a point is a point's: that point's -/
theorem cof_keyP (p : Fin PP × Fin PP) (h : OnP fd p) : cof (keyP p) = (true, p.1.val, p.2.val) := by
  have hs := sq_of p h
  have hx := p.1.isLt
  have hy := p.2.isLt
  obtain ⟨x, ex⟩ : ∃ x, x = p.1.val := ⟨_, rfl⟩
  obtain ⟨y, ey⟩ : ∃ y, y = p.2.val := ⟨_, rfl⟩
  unfold keyP
  rw [← ex, ← ey] at hs ⊢
  rw [← ex] at hx
  rw [← ey] at hy
  have hp := PP_255
  have hb : x % 2 < 2 := Nat.mod_lt _ (by omega)
  have e1 : (y + x % 2 * 57896044618658097711785492504343953926634992332820282019728792003956564819968) % 57896044618658097711785492504343953926634992332820282019728792003956564819968 = y := by omega
  have e2 : (y + x % 2 * 57896044618658097711785492504343953926634992332820282019728792003956564819968) / 57896044618658097711785492504343953926634992332820282019728792003956564819968 = x % 2 := by omega
  rw [cof_yes _ (by rw [e1]; exact hy), e1, e2]
  have hok : rtok (cx y) = true := by rw [← hs]; exact rtok_sq x
  have hr := rt3_root x
  rw [hs, Nat.mod_eq_of_lt hx] at hr
  have he := rt3_even (cx y)
  have hl := rt3_lt (cx y)
  have ho := PP_odd
  obtain ⟨r, er⟩ : ∃ r, r = rt3 (cx y) := ⟨_, rfl⟩
  rw [← er] at hr he hl
  have hr2 : r = x ∨ r + x = PP ∨ r + x = 0 := by
    rcases hr with hr | hr
    · exact .inl hr
    · by_cases hh : r + x < PP
      · rw [Nat.mod_eq_of_lt hh] at hr; exact .inr (.inr hr)
      · have e : r + x = PP + (r + x - PP) := by omega
        rw [e, Nat.add_mod_left, Nat.mod_eq_of_lt (by omega)] at hr
        exact .inr (.inl (by omega))
  rcases Nat.mod_two_eq_zero_or_one x with hx2 | hx2
  · rw [hx2, decide_eq_true rfl, bes_even _ _ hok, ← er]
    have : r = x := by omega
    rw [this]
  · rw [hx2, decide_eq_false (by decide), bes_odd _ _ hok (by rw [← er]; omega), ← er, Nat.zero_mod, Nat.zero_add]
    have : PP - r = x := by omega
    rw [this, Nat.mod_eq_of_lt hx]
theorem rep_of (X Y : Nat) (h : X * X % PP = cx Y) : Rep X Y 1 (fi X, fi Y) := by
  refine ⟨?_, ?_, ?_, on_of X Y h⟩
  · rw [fi_one]; show fi X = fi X * 1; grind
  · rw [fi_one]; show fi Y = fi Y * 1; grind
  · rw [fi_one]; exact fld.one
/-- whatever text: what it comes to is a point -/
theorem cof_rep (n : Nat) : Rep (cof n).2.1 (cof n).2.2 1 (fi (cof n).2.1, fi (cof n).2.2) := by
  apply rep_of
  have h0 : 0 * 0 % PP = cx 1 := by rw [cx_1, Nat.zero_mul, Nat.zero_mod]
  by_cases hp : n % 57896044618658097711785492504343953926634992332820282019728792003956564819968 < PP
  · rw [cof_yes n hp]
    cases hok : rtok (cx (n % 57896044618658097711785492504343953926634992332820282019728792003956564819968)) with
    | false => rw [bes_no1 _ _ _ hok]; exact h0
    | true =>
      have hsq := rt3_sq _ hok
      cases hev : decide (n / 57896044618658097711785492504343953926634992332820282019728792003956564819968 = 0) with
      | true => rw [bes_even _ _ hok]; exact hsq
      | false =>
        by_cases hz : rt3 (cx (n % 57896044618658097711785492504343953926634992332820282019728792003956564819968)) = 0
        · rw [bes_no2 _ _ hz]; exact h0
        · rw [bes_odd _ _ hok hz]
          show (0 % PP + (PP - rt3 _)) % PP * ((0 % PP + (PP - rt3 _)) % PP) % PP = cx _
          rw [Nat.zero_mod, Nat.zero_add, ← Nat.mul_mod, neg_sq _ (rt3_lt _)]
          exact hsq
  · rw [cof_no n hp]; exact h0
theorem is_rep (X1 Y1 Z1 X2 Y2 Z2 : Nat) (p q : Fin PP × Fin PP) (hp : Rep X1 Y1 Z1 p) (hq : Rep X2 Y2 Z2 q) :
    (decide (X1 * Z2 % PP = X2 * Z1 % PP) && decide (Y1 * Z2 % PP = Y2 * Z1 % PP)) = decide (p = q) := by
  obtain ⟨x1, y1, z1, _⟩ := hp
  obtain ⟨x2, y2, z2, _⟩ := hq
  have ex : (X1 * Z2 % PP = X2 * Z1 % PP) ↔ p.1 = q.1 := by
    rw [← fi_eq, fi_mul, fi_mul, x1, x2]
    constructor
    · intro h
      exact fld.cancel _ _ (fi Z1 * fi Z2) (fld.mul_ne z1 z2) (by grind)
    · intro h; rw [h]; grind
  have ey : (Y1 * Z2 % PP = Y2 * Z1 % PP) ↔ p.2 = q.2 := by
    rw [← fi_eq, fi_mul, fi_mul, y1, y2]
    constructor
    · intro h
      exact fld.cancel _ _ (fi Z1 * fi Z2) (fld.mul_ne z1 z2) (by grind)
    · intro h; rw [h]; grind
  by_cases h : p = q
  · rw [decide_eq_true h, decide_eq_true (ex.2 (by rw [h])), decide_eq_true (ey.2 (by rw [h]))]; rfl
  · rw [decide_eq_false h]
    by_cases hx : X1 * Z2 % PP = X2 * Z1 % PP
    · by_cases hy : Y1 * Z2 % PP = Y2 * Z1 % PP
      · exact absurd (Prod.ext (ex.1 hx) (ey.1 hy)) h
      · rw [decide_eq_false hy, Bool.and_false]
    · rw [decide_eq_false hx, Bool.false_and]
theorem neg_rep (X Y Z : Nat) (p : Fin PP × Fin PP) (hp : Rep X Y Z p) (hX : X < PP) : Rep (negP X) Y Z (-p.1, p.2) := by
  obtain ⟨x1, y1, z1, o1⟩ := hp
  refine ⟨?_, y1, z1, on_neg p o1⟩
  unfold negP
  rw [Nat.zero_mod, Nat.zero_add, fi_mod]
  have h := fi_neg X
  rw [Nat.mod_eq_of_lt hX] at h
  rw [h, x1]
  show -(p.1 * fi Z) = -p.1 * fi Z
  grind
theorem zero_rep : Rep 0 1 1 (0, 1) := by
  refine ⟨?_, ?_, ?_, on_zero⟩
  · rw [fi_zero, fi_one]; grind
  · rw [fi_one]; grind
  · rw [fi_one]; exact fld.one
/-- so many times a point, by doubling -/
def pmul (g : Nat × Nat × Nat) : Nat → Nat → Nat × Nat × Nat
  | 0, _ => (0, 1, 1)
  | f + 1, e =>
    let h := pmul g f (e / 2)
    let h2 := padd SL h.1 h.2.1 h.2.2 h.1 h.2.1 h.2.2
    if e % 2 = 1 then padd SL h2.1 h2.2.1 h2.2.2 g.1 g.2.1 g.2.2 else h2
theorem pmul_rep (g : Nat × Nat × Nat) (p : Fin PP × Fin PP) (hp : Rep g.1 g.2.1 g.2.2 p) : ∀ f e, e < 2 ^ f → Rep (pmul g f e).1 (pmul g f e).2.1 (pmul g f e).2.2 (mulA finv fd p e) := by
  have ho : OnP fd p := hp.2.2.2
  intro f
  induction f with
  | zero =>
    intro e he
    obtain rfl : e = 0 := by rw [Nat.pow_zero] at he; omega
    exact zero_rep
  | succ f ih =>
    intro e he
    have h1 := ih (e / 2) (by rw [Nat.pow_succ] at he; omega)
    have h2 := padd_rep _ _ _ _ _ _ _ _ h1 h1
    rw [← fld.mul_add p ho] at h2
    unfold pmul
    rcases Nat.mod_two_eq_zero_or_one e with hb | hb
    · rw [if_neg (by rw [hb]; decide)]
      rw [show e / 2 + e / 2 = e by omega] at h2
      exact h2
    · rw [if_pos hb]
      have h3 := padd_rep _ _ _ _ _ _ _ _ h2 hp
      have h4 : padA finv fd (mulA finv fd p (e / 2 + e / 2)) p = mulA finv fd p e := by
        have h5 : e = e / 2 + e / 2 + 1 := by omega
        calc padA finv fd (mulA finv fd p (e / 2 + e / 2)) p = mulA finv fd p (e / 2 + e / 2 + 1) := rfl
          _ = mulA finv fd p e := by rw [← h5]
      rw [h4] at h3
      exact h3
/-- the generator -/
def gG : Fin PP × Fin PP := (fi GX, fi GY)
theorem gen_sq : GX * GX % PP = cx GY := (cx_pm GY _ gx_pm).symm
theorem gen_rep : Rep GX GY 1 gG := rep_of GX GY gen_sq
/-- the order -/
def LL : Nat := 7237005577332262213973186563042994240857116359379907606001950938285454250989
theorem order_val : (pmul (GX, GY, 1) 253 LL).1 % PP = 0 ∧ (pmul (GX, GY, 1) 253 LL).2.1 % PP = (pmul (GX, GY, 1) 253 LL).2.2 % PP := by decide +kernel
end Go.Proofs.Ytjiagjonlcadiaa
end
section
namespace Go.Proofs.Ytjiagjonlcadiaa
open Go.RowKit Go.Lib

theorem bd24s : Try.prog.built 24 [(0, .int .u8 163), (1, .int .u8 120), (2, .int .u8 89), (3, .int .u8 19), (4, .int .u8 202), (5, .int .u8 77), (6, .int .u8 235), (7, .int .u8 117), (8, .int .u8 171), (9, .int .u8 216), (10, .int .u8 65), (11, .int .u8 65), (12, .int .u8 77), (13, .int .u8 10), (14, .int .u8 112), (15, .int .u8 0), (16, .int .u8 152), (17, .int .u8 232), (18, .int .u8 121), (19, .int .u8 119), (20, .int .u8 121), (21, .int .u8 64), (22, .int .u8 199), (23, .int .u8 140), (24, .int .u8 115), (25, .int .u8 254), (26, .int .u8 111), (27, .int .u8 43), (28, .int .u8 238), (29, .int .u8 108), (30, .int .u8 3), (31, .int .u8 82)] = some (k32 SL) := by kernel_rfl
theorem SL_255 : SL % 2 ^ 255 % PP = SL := by decide +kernel

set_option maxRecDepth 100000 in
set_option linter.unusedSimpArgs false in
set_option maxHeartbeats 8000000 in
theorem rslope_any (w : World) : Calls Try.prog 89 #[] w fun e w' => e = .returned (.agg (r22 SL)) ∧ Below w.heap.size w w' := by
  have hof := fun w => rof_any SL w
  rw [SL_255] at hof
  have Hof := Lib.hid hof; clear hof
  go_enter Try.func89, Try.ntmps89
  repeat ((fail_if_success (with_reducible (show wpList _ _ _ _ _ _))); go_step)
  (refine wpList_step (fun K hK => ?_); go_simp; (try go_bits); refine hK _ _ ?_; clear hK K)
  refine wpList_nil ?_
  have M0 := Lib.hid (HasN.new w  (#[.int .i64 0, .int .i64 0, .int .i64 0, .int .i64 0, .int .i64 0, .int .i64 0, .int .i64 0, .int .i64 0, .int .i64 0, .int .i64 0, .int .i64 0, .int .i64 0, .int .i64 0, .int .i64 0, .int .i64 0, .int .i64 0, .int .i64 0, .int .i64 0, .int .i64 0, .int .i64 0, .int .i64 0, .int .i64 0] : Array Value) 40 22 (by kernel_rfl))
  have HB := Lib.hid (below_1 w (.cells (#[.int .i64 0, .int .i64 0, .int .i64 0, .int .i64 0, .int .i64 0, .int .i64 0, .int .i64 0, .int .i64 0, .int .i64 0, .int .i64 0, .int .i64 0, .int .i64 0, .int .i64 0, .int .i64 0, .int .i64 0, .int .i64 0, .int .i64 0, .int .i64 0, .int .i64 0, .int .i64 0, .int .i64 0, .int .i64 0] : Array Value) 40))
  obtain ⟨yw1, hwyw1⟩ : ∃ ww, ww = (w.alloc (.cells (#[.int .i64 0, .int .i64 0, .int .i64 0, .int .i64 0, .int .i64 0, .int .i64 0, .int .i64 0, .int .i64 0, .int .i64 0, .int .i64 0, .int .i64 0, .int .i64 0, .int .i64 0, .int .i64 0, .int .i64 0, .int .i64 0, .int .i64 0, .int .i64 0, .int .i64 0, .int .i64 0, .int .i64 0, .int .i64 0] : Array Value) 40)) := ⟨_, rfl⟩
  rw [← hwyw1] at M0 HB ⊢
  clear hwyw1
  repeat ((fail_if_success (with_reducible (show wpList _ _ _ _ _ _))); go_step)
  refine wpList_built (by rfl) 24 _ rfl _ (by rfl) (k32 SL) (bd24s) 1 rfl ?_
  (try simp only [Act.put, sI, sS, sZ])
  refine wpList_call (by rfl) rfl rfl (by rfl) ent33 (by rfl) (Hof.out _) 2 rfl ?_
  rintro e uw1 ⟨rfl, hb⟩
  replace M0 := Lib.hid (M0.out.call hb)
  replace HB := Lib.hid (held_next HB.out hb)
  refine ⟨_, rfl, ?_⟩
  clear hb
  (try simp only [Act.put, sI, sS, sZ])
  first | (obtain ⟨Zq, hZ, mZ⟩ := M0.out) | (obtain ⟨Zq, hZ, mZ⟩ := M0.out.toN (r22_size ..))
  refine wpList_store2 (by rfl) 40 _ _ rfl rfl (w.heap.size) (r22 SL) rfl rfl 40 Zq mZ (by rw [r22_size]; kernel_rfl) (hZ.trans (r22_size ..).symm) (row_one _ _ _) ?_
  intro yw2 hw2
  replace M0 := Lib.hid (mZ.setRow (r22 SL))
  replace HB := Lib.hid (below_setRow HB.out (w.heap.size) (r22 SL) (by omega))
  rw [← hw2] at M0 HB; clear mZ hZ hw2
  refine wpList_nil ?_
  go_wp2_with fail
  exact bodyPost_ret (v := .agg (r22 SL)) (results_cell_row (t := 40) (by rfl) _ _ (w.heap.size) _ _ _ rfl M0.out Try.underlying40 rfl (by rw [r22_size]; kernel_rfl)) rfl ⟨rfl, HB.out⟩

set_option maxRecDepth 100000 in
set_option linter.unusedSimpArgs false in
set_option maxHeartbeats 8000000 in
theorem rorigin_any (w : World) : Calls Try.prog 88 #[] w fun e w' => e = .returned (.agg (rp 0 1 1 0)) ∧ Below w.heap.size w w' := by
  have hint := fun w => rint_nn 1 (by decide) w
  rw [one_PP] at hint
  have Hint := Lib.hid hint; clear hint
  go_enter Try.func88, Try.ntmps88
  repeat ((fail_if_success (with_reducible (show wpList _ _ _ _ _ _))); go_step)
  
  have HB := Lib.hid (Below.refl w.heap.size w)
  refine wpList_alloc (by rfl) 57 rfl _ al57 0 rfl ?_
  intro yw1 hw2
  have hsz := HB.out.size
  have M0 := Lib.hid (HasN.new w Try.zeroCells57 57 88 (by kernel_rfl))
  replace HB := Lib.hid (HB.out.alloc hsz (.cells Try.zeroCells57 57))
  rw [← hw2] at M0 HB; clear hw2
  (try simp only [Act.put, sI, sS, sZ])
  refine wpList_nil ?_
  repeat ((fail_if_success (with_reducible (show wpList _ _ _ _ _ _))); go_step)
  refine wpList_call (by rfl) rfl rfl (by rfl) ent35 (by rfl) (Hint.out _) 2 rfl ?_
  rintro e uw1 ⟨rfl, hb⟩
  replace M0 := Lib.hid (M0.out.call hb)
  replace HB := Lib.hid (held_next HB.out hb)
  refine ⟨_, rfl, ?_⟩
  clear hb
  (try simp only [Act.put, sI, sS, sZ])
  refine wpList_alloc (by rfl) 40 rfl _ al40 1 rfl ?_
  intro yw2 hw2
  have hlt3 := M0.out.lt
  have hsz := HB.out.size
  replace M0 := Lib.hid (M0.out.alloc (.cells z40 40))
  have M1 := Lib.hid (HasN.new uw1 z40 40 22 (by kernel_rfl))
  replace HB := Lib.hid (HB.out.alloc hsz (.cells z40 40))
  rw [← hw2] at M0 M1 HB; clear hw2
  (try simp only [Act.put, sI, sS, sZ])
  first | (obtain ⟨Zq, hZ, mZ⟩ := M1.out) | (obtain ⟨Zq, hZ, mZ⟩ := M1.out.toN (r22_size ..))
  refine wpList_store2 (by rfl) 40 _ _ rfl rfl (uw1.heap.size) (r22 1) rfl rfl 40 Zq mZ (by rw [r22_size]; kernel_rfl) (hZ.trans (r22_size ..).symm) (row_one _ _ _) ?_
  intro yw4 hw2
  replace M0 := Lib.hid (M0.out.setRow_other (uw1.heap.size) (r22 1) (by omega))
  replace M1 := Lib.hid (mZ.setRow (r22 1))
  replace HB := Lib.hid (below_setRow HB.out (uw1.heap.size) (r22 1) (by omega))
  rw [← hw2] at M0 M1 HB; clear mZ hZ hw2
  refine wpList_nil ?_
  repeat ((fail_if_success (with_reducible (show wpList _ _ _ _ _ _))); go_step)
  refine wpList_load (by rfl) 40 _ rfl (uw1.heap.size) rfl 40 (r22 1) M1.out Try.underlying40 rfl (by rw [r22_size]; kernel_rfl) 3 rfl ?_
  (try simp only [Act.put, sI, sS, sZ])
  refine wpList_load (by rfl) 40 _ rfl (uw1.heap.size) rfl 40 (r22 1) M1.out Try.underlying40 rfl (by rw [r22_size]; kernel_rfl) 4 rfl ?_
  (try simp only [Act.put, sI, sS, sZ])
  refine wpList_built (by rfl) 57 _ rfl _ (by rfl) (rp 0 1 1 0) (bd57o 1 1) 5 rfl ?_
  (try simp only [Act.put, sI, sS, sZ])
  first | (obtain ⟨Zq, hZ, mZ⟩ := M0.out) | (obtain ⟨Zq, hZ, mZ⟩ := M0.out.toN (rp_size ..))
  refine wpList_store2 (by rfl) 57 _ _ rfl rfl (w.heap.size) (rp 0 1 1 0) rfl rfl 57 Zq mZ (by rw [rp_size]; kernel_rfl) (hZ.trans (rp_size ..).symm) (rp_one _ _ _ _) ?_
  intro yw5 hw2
  replace M1 := Lib.hid (M1.out.setRow_other (w.heap.size) (rp 0 1 1 0) (by omega))
  replace M0 := Lib.hid (mZ.setRow (rp 0 1 1 0))
  replace HB := Lib.hid (below_setRow HB.out (w.heap.size) (rp 0 1 1 0) (by omega))
  rw [← hw2] at M1 M0 HB; clear mZ hZ hw2
  refine wpList_nil ?_
  go_wp2_with fail
  exact bodyPost_ret (v := .agg (rp 0 1 1 0)) (results_cell_row (t := 57) (by rfl) _ _ (w.heap.size) _ _ _ rfl M0.out Try.underlying57 rfl (by rw [rp_size]; kernel_rfl)) rfl ⟨rfl, HB.out⟩

theorem td_128 (c : Nat) : (c : Int).tdiv 128 = ((c / 128 : Nat) : Int) := by
  rw [Int.tdiv_eq_ediv_of_nonneg (by omega)]; rfl
theorem tm_128 (c : Nat) : (c : Int).tmod 128 = ((c % 128 : Nat) : Int) := by
  rw [Int.tmod_eq_emod_of_nonneg (by omega)]; rfl

end Go.Proofs.Ytjiagjonlcadiaa
end
section
namespace Go.Proofs.Ytjiagjonlcadiaa
open Go.RowKit Go.Lib

/-- the reference's sum of two points -/
def radd (X1 Y1 Z1 T1 X2 Y2 Z2 T2 : Nat) : Nat × Nat × Nat × Nat :=
  let A := X1 * X2 % PP
  let B := Y1 * Y2 % PP
  let C0 := T1 * T2 % PP
  let C := SL * C0 % PP
  let D := Z1 * Z2 % PP
  let E1 := X1 * Y2 % PP
  let E2 := Y1 * X2 % PP
  let E := (E1 + E2) % PP
  let F := (D + (PP - C)) % PP
  let G := (D + C) % PP
  let H := (B + A) % PP
  (E * F % PP, G * H % PP, F * G % PP, E * H % PP)
theorem radd_def (X1 Y1 Z1 T1 X2 Y2 Z2 T2 A Bq C0 Cq Dq E1 E2 E F G Hq X3 Y3 Z3 T3 : Nat) (hA : A = X1 * X2 % PP) (hBq : Bq = Y1 * Y2 % PP) (hC0 : C0 = T1 * T2 % PP) (hCq : Cq = SL * C0 % PP) (hDq : Dq = Z1 * Z2 % PP) (hE1 : E1 = X1 * Y2 % PP) (hE2 : E2 = Y1 * X2 % PP) (hE : E = (E1 + E2) % PP) (hF : F = (Dq + (PP - Cq)) % PP) (hG : G = (Dq + Cq) % PP) (hHq : Hq = (Bq + A) % PP) (hX3 : X3 = E * F % PP) (hY3 : Y3 = G * Hq % PP) (hZ3 : Z3 = F * G % PP) (hT3 : T3 = E * Hq % PP) : radd X1 Y1 Z1 T1 X2 Y2 Z2 T2 = (X3, Y3, Z3, T3) := by
  unfold radd
  rw [hX3, hY3, hZ3, hT3, hF, hG, hE, hE1, hE2, hHq, hCq, hC0, hDq, hA, hBq]

set_option maxRecDepth 100000 in
set_option linter.unusedSimpArgs false in
set_option maxHeartbeats 8000000 in
theorem rpplus_any (X1 Y1 Z1 T1 X2 Y2 Z2 T2 : Nat) (x1 : X1 < PP) (y1 : Y1 < PP) (z1 : Z1 < PP) (t1 : T1 < PP) (x2 : X2 < PP) (y2 : Y2 < PP) (z2 : Z2 < PP) (t2 : T2 < PP) (w : World) :
    Calls Try.prog 52 #[.agg (rp X1 Y1 Z1 T1), .agg (rp X2 Y2 Z2 T2)] w fun e w' => e = .returned (.agg (rp (radd X1 Y1 Z1 T1 X2 Y2 Z2 T2).1 (radd X1 Y1 Z1 T1 X2 Y2 Z2 T2).2.1 (radd X1 Y1 Z1 T1 X2 Y2 Z2 T2).2.2.1 (radd X1 Y1 Z1 T1 X2 Y2 Z2 T2).2.2.2)) ∧ Below w.heap.size w w' := by
  obtain ⟨A, hA⟩ : ∃ v, v = X1 * X2 % PP := ⟨_, rfl⟩
  have lA : A < PP := by rw [hA]; exact Nat.mod_lt _ PP_pos
  obtain ⟨Bq, hBq⟩ : ∃ v, v = Y1 * Y2 % PP := ⟨_, rfl⟩
  have lBq : Bq < PP := by rw [hBq]; exact Nat.mod_lt _ PP_pos
  obtain ⟨C0, hC0⟩ : ∃ v, v = T1 * T2 % PP := ⟨_, rfl⟩
  have lC0 : C0 < PP := by rw [hC0]; exact Nat.mod_lt _ PP_pos
  obtain ⟨Cq, hCq⟩ : ∃ v, v = SL * C0 % PP := ⟨_, rfl⟩
  have lCq : Cq < PP := by rw [hCq]; exact Nat.mod_lt _ PP_pos
  obtain ⟨Dq, hDq⟩ : ∃ v, v = Z1 * Z2 % PP := ⟨_, rfl⟩
  have lDq : Dq < PP := by rw [hDq]; exact Nat.mod_lt _ PP_pos
  obtain ⟨E1, hE1⟩ : ∃ v, v = X1 * Y2 % PP := ⟨_, rfl⟩
  have lE1 : E1 < PP := by rw [hE1]; exact Nat.mod_lt _ PP_pos
  obtain ⟨E2, hE2⟩ : ∃ v, v = Y1 * X2 % PP := ⟨_, rfl⟩
  have lE2 : E2 < PP := by rw [hE2]; exact Nat.mod_lt _ PP_pos
  obtain ⟨E, hE⟩ : ∃ v, v = (E1 + E2) % PP := ⟨_, rfl⟩
  have lE : E < PP := by rw [hE]; exact Nat.mod_lt _ PP_pos
  obtain ⟨F, hF⟩ : ∃ v, v = (Dq + (PP - Cq)) % PP := ⟨_, rfl⟩
  have lF : F < PP := by rw [hF]; exact Nat.mod_lt _ PP_pos
  obtain ⟨G, hG⟩ : ∃ v, v = (Dq + Cq) % PP := ⟨_, rfl⟩
  have lG : G < PP := by rw [hG]; exact Nat.mod_lt _ PP_pos
  obtain ⟨Hq, hHq⟩ : ∃ v, v = (Bq + A) % PP := ⟨_, rfl⟩
  have lHq : Hq < PP := by rw [hHq]; exact Nat.mod_lt _ PP_pos
  obtain ⟨X3, hX3⟩ : ∃ v, v = E * F % PP := ⟨_, rfl⟩
  have lX3 : X3 < PP := by rw [hX3]; exact Nat.mod_lt _ PP_pos
  obtain ⟨Y3, hY3⟩ : ∃ v, v = G * Hq % PP := ⟨_, rfl⟩
  have lY3 : Y3 < PP := by rw [hY3]; exact Nat.mod_lt _ PP_pos
  obtain ⟨Z3, hZ3⟩ : ∃ v, v = F * G % PP := ⟨_, rfl⟩
  have lZ3 : Z3 < PP := by rw [hZ3]; exact Nat.mod_lt _ PP_pos
  obtain ⟨T3, hT3⟩ : ∃ v, v = E * Hq % PP := ⟨_, rfl⟩
  have lT3 : T3 < PP := by rw [hT3]; exact Nat.mod_lt _ PP_pos
  have hpd := radd_def X1 Y1 Z1 T1 X2 Y2 Z2 T2 A Bq C0 Cq Dq E1 E2 E F G Hq X3 Y3 Z3 T3 hA hBq hC0 hCq hDq hE1 hE2 hE hF hG hHq hX3 hY3 hZ3 hT3
  rw [hpd]
  have kA := fun w => rtimes_any X1 X2 x1 x2 w
  rw [← hA] at kA
  have kB := fun w => rtimes_any Y1 Y2 y1 y2 w
  rw [← hBq] at kB
  have kC0 := fun w => rtimes_any T1 T2 t1 t2 w
  rw [← hC0] at kC0
  have kC := fun w => rtimes_any SL C0 SL_lt lC0 w
  rw [← hCq] at kC
  have kD := fun w => rtimes_any Z1 Z2 z1 z2 w
  rw [← hDq] at kD
  have kE1 := fun w => rtimes_any X1 Y2 x1 y2 w
  rw [← hE1] at kE1
  have kE2 := fun w => rtimes_any Y1 X2 y1 x2 w
  rw [← hE2] at kE2
  have kE := fun w => rplus_any E1 E2 (PPr_22 _ lE1) (PPr_22 _ lE2) w
  rw [← hE] at kE
  have kF := fun w => rminus_any Dq Cq lDq lCq w
  rw [← hF] at kF
  have kG := fun w => rplus_any Dq Cq (PPr_22 _ lDq) (PPr_22 _ lCq) w
  rw [← hG] at kG
  have kH := fun w => rplus_any Bq A (PPr_22 _ lBq) (PPr_22 _ lA) w
  rw [← hHq] at kH
  have kX := fun w => rtimes_any E F lE lF w
  rw [← hX3] at kX
  have kY := fun w => rtimes_any G Hq lG lHq w
  rw [← hY3] at kY
  have kZ := fun w => rtimes_any F G lF lG w
  rw [← hZ3] at kZ
  have kT := fun w => rtimes_any E Hq lE lHq w
  rw [← hT3] at kT
  clear hpd hA lA hBq lBq hC0 lC0 hCq lCq hDq lDq hE1 lE1 hE2 lE2 hE lE hF lF hG lG hHq lHq hX3 lX3 hY3 lY3 hZ3 lZ3 hT3 lT3 x1 y1 z1 t1 x2 y2 z2 t2
  have KA := Lib.hid kA; clear kA
  have KB := Lib.hid kB; clear kB
  have KC0 := Lib.hid kC0; clear kC0
  have KC := Lib.hid kC; clear kC
  have KD := Lib.hid kD; clear kD
  have KE1 := Lib.hid kE1; clear kE1
  have KE2 := Lib.hid kE2; clear kE2
  have KE := Lib.hid kE; clear kE
  have KF := Lib.hid kF; clear kF
  have KG := Lib.hid kG; clear kG
  have KH := Lib.hid kH; clear kH
  have KX := Lib.hid kX; clear kX
  have KY := Lib.hid kY; clear kY
  have KZ := Lib.hid kZ; clear kZ
  have KT := Lib.hid kT; clear kT
  go_enter Try.func52, Try.ntmps52
  repeat ((fail_if_success (with_reducible (show wpList _ _ _ _ _ _))); go_step)
  iterate 3 (refine wpList_step (fun K hK => ?_); go_simp; (try go_bits); refine hK _ _ ?_; clear hK K)
  refine wpList_nil ?_
  have M2 := Lib.hid (((Has.new w  (rp X1 Y1 Z1 T1) 57).alloc (.cells (rp X2 Y2 Z2 T2) 57)).alloc (.cells Try.zeroCells57 57))
  have M3 := Lib.hid ((Has.new1 w (.cells (rp X1 Y1 Z1 T1) 57) (rp X2 Y2 Z2 T2) 57).alloc (.cells Try.zeroCells57 57))
  have M4 := Lib.hid (HasN.new2 w (.cells (rp X1 Y1 Z1 T1) 57) (.cells (rp X2 Y2 Z2 T2) 57) Try.zeroCells57 57 88 (by kernel_rfl))
  have HB := Lib.hid (below_3 w (.cells (rp X1 Y1 Z1 T1) 57) (.cells (rp X2 Y2 Z2 T2) 57) (.cells Try.zeroCells57 57))
  obtain ⟨yw1, hwyw1⟩ : ∃ ww, ww = (((w.alloc (.cells (rp X1 Y1 Z1 T1) 57)).alloc (.cells (rp X2 Y2 Z2 T2) 57)).alloc (.cells Try.zeroCells57 57)) := ⟨_, rfl⟩
  rw [← hwyw1] at M2 M3 M4 HB ⊢
  clear hwyw1
  repeat ((fail_if_success (with_reducible (show wpList _ _ _ _ _ _))); go_step)
  (refine wpList_step (fun K hK => ?_); go_simp; (try go_bits); refine hK _ _ ?_; clear hK K)
  refine wpList_loadm (by rfl) 40 _ rfl (w.heap.size) 0 rfl (r22l X1) (r22 X1) rfl (rp_x M2.out) _ Try.underlying40 rfl (by rw [r22l_len]; kernel_rfl) 14 rfl ?_
  (try simp only [Act.put, sI, sS, sZ])
  (refine wpList_step (fun K hK => ?_); go_simp; (try go_bits); refine hK _ _ ?_; clear hK K)
  refine wpList_loadm (by rfl) 40 _ rfl (w.heap.size + 1) 0 rfl (r22l X2) (r22 X2) rfl (rp_x M3.out) _ Try.underlying40 rfl (by rw [r22l_len]; kernel_rfl) 16 rfl ?_
  (try simp only [Act.put, sI, sS, sZ])
  refine wpList_call (by rfl) rfl rfl (by rfl) ent32 (by rfl) (KA.out _) 17 rfl ?_
  rintro e uw1 ⟨rfl, hb⟩
  replace M2 := Lib.hid (M2.out.call hb)
  replace M3 := Lib.hid (M3.out.call hb)
  replace M4 := Lib.hid (M4.out.call hb)
  replace HB := Lib.hid (held_next HB.out hb)
  refine ⟨_, rfl, ?_⟩
  clear hb
  (try simp only [Act.put, sI, sS, sZ])
  refine wpList_alloc (by rfl) 40 rfl _ al40 5 rfl ?_
  intro yw2 hw2
  have hlt3 := M2.out.lt
  have hlt4 := M3.out.lt
  have hlt5 := M4.out.lt
  have hsz := HB.out.size
  replace M2 := Lib.hid (M2.out.alloc (.cells z40 40))
  replace M3 := Lib.hid (M3.out.alloc (.cells z40 40))
  replace M4 := Lib.hid (M4.out.alloc (.cells z40 40))
  have M5 := Lib.hid (HasN.new uw1 z40 40 22 (by kernel_rfl))
  replace HB := Lib.hid (HB.out.alloc hsz (.cells z40 40))
  rw [← hw2] at M2 M3 M4 M5 HB; clear hw2
  (try simp only [Act.put, sI, sS, sZ])
  first | (obtain ⟨Zq, hZ, mZ⟩ := M5.out) | (obtain ⟨Zq, hZ, mZ⟩ := M5.out.toN (r22_size ..))
  refine wpList_store2 (by rfl) 40 _ _ rfl rfl (uw1.heap.size) (r22 A) rfl rfl 40 Zq mZ (by rw [r22_size]; kernel_rfl) (hZ.trans (r22_size ..).symm) (row_one _ _ _) ?_
  intro yw6 hw2
  replace M2 := Lib.hid (M2.out.setRow_other (uw1.heap.size) (r22 A) (by omega))
  replace M3 := Lib.hid (M3.out.setRow_other (uw1.heap.size) (r22 A) (by omega))
  replace M4 := Lib.hid (M4.out.setRow_other (uw1.heap.size) (r22 A) (by omega))
  replace M5 := Lib.hid (mZ.setRow (r22 A))
  replace HB := Lib.hid (below_setRow HB.out (uw1.heap.size) (r22 A) (by omega))
  rw [← hw2] at M2 M3 M4 M5 HB; clear mZ hZ hw2
  refine wpList_nil ?_
  repeat ((fail_if_success (with_reducible (show wpList _ _ _ _ _ _))); go_step)
  (refine wpList_step (fun K hK => ?_); go_simp; (try go_bits); refine hK _ _ ?_; clear hK K)
  refine wpList_loadm (by rfl) 40 _ rfl (w.heap.size) 22 rfl (r22l Y1) (r22 Y1) rfl (rp_y M2.out) _ Try.underlying40 rfl (by rw [r22l_len]; kernel_rfl) 19 rfl ?_
  (try simp only [Act.put, sI, sS, sZ])
  (refine wpList_step (fun K hK => ?_); go_simp; (try go_bits); refine hK _ _ ?_; clear hK K)
  refine wpList_loadm (by rfl) 40 _ rfl (w.heap.size + 1) 22 rfl (r22l Y2) (r22 Y2) rfl (rp_y M3.out) _ Try.underlying40 rfl (by rw [r22l_len]; kernel_rfl) 21 rfl ?_
  (try simp only [Act.put, sI, sS, sZ])
  refine wpList_call (by rfl) rfl rfl (by rfl) ent32 (by rfl) (KB.out _) 22 rfl ?_
  rintro e uw2 ⟨rfl, hb⟩
  replace M2 := Lib.hid (M2.out.call hb)
  replace M3 := Lib.hid (M3.out.call hb)
  replace M4 := Lib.hid (M4.out.call hb)
  replace M5 := Lib.hid (M5.out.call hb)
  replace HB := Lib.hid (held_next HB.out hb)
  refine ⟨_, rfl, ?_⟩
  clear hb
  (try simp only [Act.put, sI, sS, sZ])
  refine wpList_alloc (by rfl) 40 rfl _ al40 6 rfl ?_
  intro yw7 hw2
  have hlt8 := M2.out.lt
  have hlt9 := M3.out.lt
  have hlt10 := M4.out.lt
  have hlt11 := M5.out.lt
  have hsz := HB.out.size
  replace M2 := Lib.hid (M2.out.alloc (.cells z40 40))
  replace M3 := Lib.hid (M3.out.alloc (.cells z40 40))
  replace M4 := Lib.hid (M4.out.alloc (.cells z40 40))
  replace M5 := Lib.hid (M5.out.alloc (.cells z40 40))
  have M6 := Lib.hid (HasN.new uw2 z40 40 22 (by kernel_rfl))
  replace HB := Lib.hid (HB.out.alloc hsz (.cells z40 40))
  rw [← hw2] at M2 M3 M4 M5 M6 HB; clear hw2
  (try simp only [Act.put, sI, sS, sZ])
  first | (obtain ⟨Zq, hZ, mZ⟩ := M6.out) | (obtain ⟨Zq, hZ, mZ⟩ := M6.out.toN (r22_size ..))
  refine wpList_store2 (by rfl) 40 _ _ rfl rfl (uw2.heap.size) (r22 Bq) rfl rfl 40 Zq mZ (by rw [r22_size]; kernel_rfl) (hZ.trans (r22_size ..).symm) (row_one _ _ _) ?_
  intro yw12 hw2
  replace M2 := Lib.hid (M2.out.setRow_other (uw2.heap.size) (r22 Bq) (by omega))
  replace M3 := Lib.hid (M3.out.setRow_other (uw2.heap.size) (r22 Bq) (by omega))
  replace M4 := Lib.hid (M4.out.setRow_other (uw2.heap.size) (r22 Bq) (by omega))
  replace M5 := Lib.hid (M5.out.setRow_other (uw2.heap.size) (r22 Bq) (by omega))
  replace M6 := Lib.hid (mZ.setRow (r22 Bq))
  replace HB := Lib.hid (below_setRow HB.out (uw2.heap.size) (r22 Bq) (by omega))
  rw [← hw2] at M2 M3 M4 M5 M6 HB; clear mZ hZ hw2
  refine wpList_nil ?_
  repeat ((fail_if_success (with_reducible (show wpList _ _ _ _ _ _))); go_step)
  refine wp_region_meet (α := Nat) (fun W0 x w' => W0.heap.size ≤ x ∧ Has w' x (r22 Cq) 40 ∧ Below W0.heap.size W0 w') (fun ac x => ((((((((ac.put (some 23) (.agg (r22 SL))).put (some 24) (.pointer (some ⟨w.heap.size, 66, none⟩))).put (some 25) (.agg (r22 T1))).put (some 26) (.pointer (some ⟨w.heap.size + 1, 66, none⟩))).put (some 27) (.agg (r22 T2))).put (some 28) (.agg (r22 C0))).put (some 29) (.agg (r22 Cq))).put (some 7) (.pointer (some ⟨x, 0, none⟩)))) ?_ ?_
  · intro Q' hQ'
    refine wp_region_noPanic ?_
    refine wp_region_go 99 9 #[ff,ff,ff,ff,ff,ff,ff,ff,ff] (by kernel_rfl) rfl rfl ?_
    intro W13 hW13
    rw [← hW13] at hQ'
    simp only [Act.put, List.setIfInBounds_toArray, List.set_cons_succ, List.set_cons_zero] at hQ'
    have HQ := Lib.hid hQ'; clear hQ'
    rw [← hW13] at M2 M3 M4 M5 M6 HB
    clear hW13
    refine go_take2 1 24 #[ff,tt,ff,ff,ff,ff,ff,ff,ff] (v := ?uv1) rfl rfl rfl (by kernel_rfl) (Or.inl ⟨by rfl, ?uy1⟩) ((below_dr W13)) ?urest1
    case uy1 => (intro _ _; go_simp; try with_reducible rfl)
    (try simp only [sI, sS, sZ])
    refine go_take2 2 25 #[ff,tt,tt,ff,ff,ff,ff,ff,ff] rfl rfl rfl (by kernel_rfl) (yieldsIf_loadm (by rfl) 40 _ rfl (w.heap.size) 66 rfl (r22l T1) (r22 T1) rfl (fun _ h => range_below (rp_t M2.out) h M2.out.lt) _ Try.underlying40 rfl (by rw [r22l_len]; kernel_rfl)) ((below_dr W13)) ?_
    (try simp only [sI, sS, sZ])
    refine go_take2 3 26 #[ff,tt,tt,tt,ff,ff,ff,ff,ff] (v := ?uv2) rfl rfl rfl (by kernel_rfl) (Or.inl ⟨by rfl, ?uy2⟩) ((below_dr W13)) ?urest2
    case uy2 => (intro _ _; go_simp; try with_reducible rfl)
    (try simp only [sI, sS, sZ])
    refine go_take2 4 27 #[ff,tt,tt,tt,tt,ff,ff,ff,ff] rfl rfl rfl (by kernel_rfl) (yieldsIf_loadm (by rfl) 40 _ rfl (w.heap.size + 1) 66 rfl (r22l T2) (r22 T2) rfl (fun _ h => range_below (rp_t M3.out) h M3.out.lt) _ Try.underlying40 rfl (by rw [r22l_len]; kernel_rfl)) ((below_dr W13)) ?_
    (try simp only [sI, sS, sZ])
    refine wpBut_r2 (i := 0) (j := 7) (by kernel_rfl) ?_ ?_
    refine go_call 0 23 #[tt,tt,tt,tt,tt,ff,ff,ff,ff] rfl rfl rfl (by rfl) rfl rfl (by rfl) ent89 (by rfl) (rslope_any _) ?_
    rintro e wW131 ⟨rfl, hb⟩
    have hkW131 := held_next (below_dr W13) hb
    refine ⟨_, rfl, fun _ => hkW131, ?_⟩
    clear hb
    (try simp only [sI, sS, sZ])
    refine wpBut_r2 (i := 5) (j := 7) (by kernel_rfl) ?_ ?_
    refine go_call 5 28 #[tt,tt,tt,tt,tt,tt,ff,ff,ff] rfl rfl rfl (by rfl) rfl rfl (by rfl) ent32 (by rfl) (KC0.out _) ?_
    rintro e wW132 ⟨rfl, hb⟩
    have hkW132 := held_next hkW131 hb
    refine ⟨_, rfl, fun _ => hkW132, ?_⟩
    clear hb
    (try simp only [sI, sS, sZ])
    refine wpBut_r2 (i := 6) (j := 7) (by kernel_rfl) ?_ ?_
    refine go_call 6 29 #[tt,tt,tt,tt,tt,tt,tt,ff,ff] rfl rfl rfl (by rfl) rfl rfl (by rfl) ent32 (by rfl) (KC.out _) ?_
    rintro e wW133 ⟨rfl, hb⟩
    have hkW133 := held_next hkW132 hb
    refine ⟨_, rfl, fun _ => hkW133, ?_⟩
    clear hb
    (try simp only [sI, sS, sZ])
    refine wpBut_r1 (i := 7) (by kernel_rfl) ?_
    refine go_alloc 7 7 #[tt,tt,tt,tt,tt,tt,tt,tt,ff] rfl rfl rfl (by rfl) 40 rfl _ al40 ?_
    intro wW134 hw2
    have hkW134 := (hkW133).alloc (hkW133).size (.cells z40 40)
    rw [← hw2] at hkW134
    have MA7 := Lib.hid (HasN.new (wW133) z40 40 22 (by kernel_rfl))
    rw [← hw2] at MA7
    have HA7 := Lib.hid (show W13.heap.size ≤ _ from (hkW133).size)
    clear hw2
    refine ⟨fun _ => hkW134, ?_⟩
    (try simp only [sI, sS, sZ])
    refine wpBut_r1 (i := 8) (by kernel_rfl) ?_
    obtain ⟨Zq, hZ, mZ⟩ := MA7.out
    refine go_store2 8 #[tt,tt,tt,tt,tt,tt,tt,tt,tt] rfl rfl rfl (by rfl) 40 _ _ rfl _ _ rfl rfl 40 Zq mZ (by rw [r22_size]; kernel_rfl) (hZ.trans (r22_size ..).symm) (row_one _ _ _) ?_
    intro wW135 hw2
    have hkW135 := below_setRow (hkW134) _ (r22 Cq) HA7.out
    rw [← hw2] at hkW135
    clear MA7
    have MA7 := Lib.hid (mZ.setRow (r22 Cq))
    rw [← hw2] at MA7; clear mZ hZ hw2
    refine ⟨fun _ => hkW135, ?_⟩
    (try simp only [sI, sS, sZ])
    exact wpBut_done (by kernel_rfl) (NoPanic.normal (HQ.out (_) _ ⟨HA7.out, MA7.out, (hkW135)⟩))
    refine go_alloc 7 7 #[tt,tt,tt,tt,tt,tt,ff,tt,ff] rfl rfl rfl (by rfl) 40 rfl _ al40 ?_
    intro wW133 hw2
    have hkW133 := (hkW132).alloc (hkW132).size (.cells z40 40)
    rw [← hw2] at hkW133
    have MA7 := Lib.hid (HasN.new (wW132) z40 40 22 (by kernel_rfl))
    rw [← hw2] at MA7
    have HA7 := Lib.hid (show W13.heap.size ≤ _ from (hkW132).size)
    clear hw2
    refine ⟨fun _ => hkW133, ?_⟩
    (try simp only [sI, sS, sZ])
    refine wpBut_r1 (i := 6) (by kernel_rfl) ?_
    refine go_call 6 29 #[tt,tt,tt,tt,tt,tt,tt,tt,ff] rfl rfl rfl (by rfl) rfl rfl (by rfl) ent32 (by rfl) (KC.out _) ?_
    rintro e wW134 ⟨rfl, hb⟩
    have hkW134 := held_next hkW133 hb
    replace MA7 := Lib.hid (MA7.out.call hb)
    refine ⟨_, rfl, fun _ => hkW134, ?_⟩
    clear hb
    (try simp only [sI, sS, sZ])
    refine wpBut_r1 (i := 8) (by kernel_rfl) ?_
    obtain ⟨Zq, hZ, mZ⟩ := MA7.out
    refine go_store2 8 #[tt,tt,tt,tt,tt,tt,tt,tt,tt] rfl rfl rfl (by rfl) 40 _ _ rfl _ _ rfl rfl 40 Zq mZ (by rw [r22_size]; kernel_rfl) (hZ.trans (r22_size ..).symm) (row_one _ _ _) ?_
    intro wW135 hw2
    have hkW135 := below_setRow (hkW134) _ (r22 Cq) HA7.out
    rw [← hw2] at hkW135
    clear MA7
    have MA7 := Lib.hid (mZ.setRow (r22 Cq))
    rw [← hw2] at MA7; clear mZ hZ hw2
    refine ⟨fun _ => hkW135, ?_⟩
    (try simp only [sI, sS, sZ])
    exact wpBut_done (by kernel_rfl) (NoPanic.normal (HQ.out (_) _ ⟨HA7.out, MA7.out, (hkW135)⟩))
    refine go_alloc 7 7 #[tt,tt,tt,tt,tt,ff,ff,tt,ff] rfl rfl rfl (by rfl) 40 rfl _ al40 ?_
    intro wW132 hw2
    have hkW132 := (hkW131).alloc (hkW131).size (.cells z40 40)
    rw [← hw2] at hkW132
    have MA7 := Lib.hid (HasN.new (wW131) z40 40 22 (by kernel_rfl))
    rw [← hw2] at MA7
    have HA7 := Lib.hid (show W13.heap.size ≤ _ from (hkW131).size)
    clear hw2
    refine ⟨fun _ => hkW132, ?_⟩
    (try simp only [sI, sS, sZ])
    refine wpBut_r1 (i := 5) (by kernel_rfl) ?_
    refine go_call 5 28 #[tt,tt,tt,tt,tt,tt,ff,tt,ff] rfl rfl rfl (by rfl) rfl rfl (by rfl) ent32 (by rfl) (KC0.out _) ?_
    rintro e wW133 ⟨rfl, hb⟩
    have hkW133 := held_next hkW132 hb
    replace MA7 := Lib.hid (MA7.out.call hb)
    refine ⟨_, rfl, fun _ => hkW133, ?_⟩
    clear hb
    (try simp only [sI, sS, sZ])
    refine wpBut_r1 (i := 6) (by kernel_rfl) ?_
    refine go_call 6 29 #[tt,tt,tt,tt,tt,tt,tt,tt,ff] rfl rfl rfl (by rfl) rfl rfl (by rfl) ent32 (by rfl) (KC.out _) ?_
    rintro e wW134 ⟨rfl, hb⟩
    have hkW134 := held_next hkW133 hb
    replace MA7 := Lib.hid (MA7.out.call hb)
    refine ⟨_, rfl, fun _ => hkW134, ?_⟩
    clear hb
    (try simp only [sI, sS, sZ])
    refine wpBut_r1 (i := 8) (by kernel_rfl) ?_
    obtain ⟨Zq, hZ, mZ⟩ := MA7.out
    refine go_store2 8 #[tt,tt,tt,tt,tt,tt,tt,tt,tt] rfl rfl rfl (by rfl) 40 _ _ rfl _ _ rfl rfl 40 Zq mZ (by rw [r22_size]; kernel_rfl) (hZ.trans (r22_size ..).symm) (row_one _ _ _) ?_
    intro wW135 hw2
    have hkW135 := below_setRow (hkW134) _ (r22 Cq) HA7.out
    rw [← hw2] at hkW135
    clear MA7
    have MA7 := Lib.hid (mZ.setRow (r22 Cq))
    rw [← hw2] at MA7; clear mZ hZ hw2
    refine ⟨fun _ => hkW135, ?_⟩
    (try simp only [sI, sS, sZ])
    exact wpBut_done (by kernel_rfl) (NoPanic.normal (HQ.out (_) _ ⟨HA7.out, MA7.out, (hkW135)⟩))
    refine go_alloc 7 7 #[ff,tt,tt,tt,tt,ff,ff,tt,ff] rfl rfl rfl (by rfl) 40 rfl _ al40 ?_
    intro wW131 hw2
    have hkW131 := ((below_dr W13)).alloc ((below_dr W13)).size (.cells z40 40)
    rw [← hw2] at hkW131
    have MA7 := Lib.hid (HasN.new (W13.drew) z40 40 22 (by kernel_rfl))
    rw [← hw2] at MA7
    have HA7 := Lib.hid (show W13.heap.size ≤ _ from ((below_dr W13)).size)
    clear hw2
    refine ⟨fun _ => hkW131, ?_⟩
    (try simp only [sI, sS, sZ])
    refine wpBut_r1 (i := 0) (by kernel_rfl) ?_
    refine go_call 0 23 #[tt,tt,tt,tt,tt,ff,ff,tt,ff] rfl rfl rfl (by rfl) rfl rfl (by rfl) ent89 (by rfl) (rslope_any _) ?_
    rintro e wW132 ⟨rfl, hb⟩
    have hkW132 := held_next hkW131 hb
    replace MA7 := Lib.hid (MA7.out.call hb)
    refine ⟨_, rfl, fun _ => hkW132, ?_⟩
    clear hb
    (try simp only [sI, sS, sZ])
    refine wpBut_r1 (i := 5) (by kernel_rfl) ?_
    refine go_call 5 28 #[tt,tt,tt,tt,tt,tt,ff,tt,ff] rfl rfl rfl (by rfl) rfl rfl (by rfl) ent32 (by rfl) (KC0.out _) ?_
    rintro e wW133 ⟨rfl, hb⟩
    have hkW133 := held_next hkW132 hb
    replace MA7 := Lib.hid (MA7.out.call hb)
    refine ⟨_, rfl, fun _ => hkW133, ?_⟩
    clear hb
    (try simp only [sI, sS, sZ])
    refine wpBut_r1 (i := 6) (by kernel_rfl) ?_
    refine go_call 6 29 #[tt,tt,tt,tt,tt,tt,tt,tt,ff] rfl rfl rfl (by rfl) rfl rfl (by rfl) ent32 (by rfl) (KC.out _) ?_
    rintro e wW134 ⟨rfl, hb⟩
    have hkW134 := held_next hkW133 hb
    replace MA7 := Lib.hid (MA7.out.call hb)
    refine ⟨_, rfl, fun _ => hkW134, ?_⟩
    clear hb
    (try simp only [sI, sS, sZ])
    refine wpBut_r1 (i := 8) (by kernel_rfl) ?_
    obtain ⟨Zq, hZ, mZ⟩ := MA7.out
    refine go_store2 8 #[tt,tt,tt,tt,tt,tt,tt,tt,tt] rfl rfl rfl (by rfl) 40 _ _ rfl _ _ rfl rfl 40 Zq mZ (by rw [r22_size]; kernel_rfl) (hZ.trans (r22_size ..).symm) (row_one _ _ _) ?_
    intro wW135 hw2
    have hkW135 := below_setRow (hkW134) _ (r22 Cq) HA7.out
    rw [← hw2] at hkW135
    clear MA7
    have MA7 := Lib.hid (mZ.setRow (r22 Cq))
    rw [← hw2] at MA7; clear mZ hZ hw2
    refine ⟨fun _ => hkW135, ?_⟩
    (try simp only [sI, sS, sZ])
    exact wpBut_done (by kernel_rfl) (NoPanic.normal (HQ.out (_) _ ⟨HA7.out, MA7.out, (hkW135)⟩))
  · rintro W13 B7 vw13 hW13 ⟨hBq0, mBq0, hbw⟩
    simp only [Act.put, List.setIfInBounds_toArray, List.set_cons_succ, List.set_cons_zero] at  hBq0  mBq0 ⊢
    rw [← hW13] at M2 M3 M4 M5 M6 HB
    clear hW13
    have hltM2_13 := M2.out.lt
    have hltM3_13 := M3.out.lt
    have hltM4_13 := M4.out.lt
    have hltM5_13 := M5.out.lt
    have hltM6_13 := M6.out.lt
    replace M2 := Lib.hid (M2.out.call hbw)
    replace M3 := Lib.hid (M3.out.call hbw)
    replace M4 := Lib.hid (M4.out.call hbw)
    replace M5 := Lib.hid (M5.out.call hbw)
    replace M6 := Lib.hid (M6.out.call hbw)
    replace HB := Lib.hid (held_next HB.out hbw)
    have M7 := Lib.hid mBq0; clear mBq0
    clear hbw
    repeat ((fail_if_success (with_reducible (show wpList _ _ _ _ _ _))); go_step)
    (refine wpList_step (fun K hK => ?_); go_simp; (try go_bits); refine hK _ _ ?_; clear hK K)
    refine wpList_loadm (by rfl) 40 _ rfl (w.heap.size) 44 rfl (r22l Z1) (r22 Z1) rfl (rp_z M2.out) _ Try.underlying40 rfl (by rw [r22l_len]; kernel_rfl) 31 rfl ?_
    (try simp only [Act.put, sI, sS, sZ])
    (refine wpList_step (fun K hK => ?_); go_simp; (try go_bits); refine hK _ _ ?_; clear hK K)
    refine wpList_loadm (by rfl) 40 _ rfl (w.heap.size + 1) 44 rfl (r22l Z2) (r22 Z2) rfl (rp_z M3.out) _ Try.underlying40 rfl (by rw [r22l_len]; kernel_rfl) 33 rfl ?_
    (try simp only [Act.put, sI, sS, sZ])
    refine wpList_call (by rfl) rfl rfl (by rfl) ent32 (by rfl) (KD.out _) 34 rfl ?_
    rintro e uw3 ⟨rfl, hb⟩
    replace M2 := Lib.hid (M2.out.call hb)
    replace M3 := Lib.hid (M3.out.call hb)
    replace M4 := Lib.hid (M4.out.call hb)
    replace M5 := Lib.hid (M5.out.call hb)
    replace M6 := Lib.hid (M6.out.call hb)
    replace M7 := Lib.hid (M7.out.call hb)
    replace HB := Lib.hid (held_next HB.out hb)
    refine ⟨_, rfl, ?_⟩
    clear hb
    (try simp only [Act.put, sI, sS, sZ])
    refine wpList_alloc (by rfl) 40 rfl _ al40 8 rfl ?_
    intro yw14 hw2
    have hlt15 := M2.out.lt
    have hlt16 := M3.out.lt
    have hlt17 := M4.out.lt
    have hlt18 := M5.out.lt
    have hlt19 := M6.out.lt
    have hlt20 := M7.out.lt
    have hsz := HB.out.size
    replace M2 := Lib.hid (M2.out.alloc (.cells z40 40))
    replace M3 := Lib.hid (M3.out.alloc (.cells z40 40))
    replace M4 := Lib.hid (M4.out.alloc (.cells z40 40))
    replace M5 := Lib.hid (M5.out.alloc (.cells z40 40))
    replace M6 := Lib.hid (M6.out.alloc (.cells z40 40))
    replace M7 := Lib.hid (M7.out.alloc (.cells z40 40))
    have M8 := Lib.hid (HasN.new uw3 z40 40 22 (by kernel_rfl))
    replace HB := Lib.hid (HB.out.alloc hsz (.cells z40 40))
    rw [← hw2] at M2 M3 M4 M5 M6 M7 M8 HB; clear hw2
    (try simp only [Act.put, sI, sS, sZ])
    first | (obtain ⟨Zq, hZ, mZ⟩ := M8.out) | (obtain ⟨Zq, hZ, mZ⟩ := M8.out.toN (r22_size ..))
    refine wpList_store2 (by rfl) 40 _ _ rfl rfl (uw3.heap.size) (r22 Dq) rfl rfl 40 Zq mZ (by rw [r22_size]; kernel_rfl) (hZ.trans (r22_size ..).symm) (row_one _ _ _) ?_
    intro yw21 hw2
    replace M2 := Lib.hid (M2.out.setRow_other (uw3.heap.size) (r22 Dq) (by omega))
    replace M3 := Lib.hid (M3.out.setRow_other (uw3.heap.size) (r22 Dq) (by omega))
    replace M4 := Lib.hid (M4.out.setRow_other (uw3.heap.size) (r22 Dq) (by omega))
    replace M5 := Lib.hid (M5.out.setRow_other (uw3.heap.size) (r22 Dq) (by omega))
    replace M6 := Lib.hid (M6.out.setRow_other (uw3.heap.size) (r22 Dq) (by omega))
    replace M7 := Lib.hid (M7.out.setRow_other (uw3.heap.size) (r22 Dq) (by omega))
    replace M8 := Lib.hid (mZ.setRow (r22 Dq))
    replace HB := Lib.hid (below_setRow HB.out (uw3.heap.size) (r22 Dq) (by omega))
    rw [← hw2] at M2 M3 M4 M5 M6 M7 M8 HB; clear mZ hZ hw2
    refine wpList_nil ?_
    repeat ((fail_if_success (with_reducible (show wpList _ _ _ _ _ _))); go_step)
    refine wp_region_meet (α := Nat) (fun W0 x w' => W0.heap.size ≤ x ∧ Has w' x (r22 E) 40 ∧ Below W0.heap.size W0 w') (fun ac x => ((((((((((((ac.put (some 35) (.pointer (some ⟨w.heap.size, 0, none⟩))).put (some 36) (.agg (r22 X1))).put (some 37) (.pointer (some ⟨w.heap.size + 1, 22, none⟩))).put (some 38) (.agg (r22 Y2))).put (some 39) (.agg (r22 E1))).put (some 40) (.pointer (some ⟨w.heap.size, 22, none⟩))).put (some 41) (.agg (r22 Y1))).put (some 42) (.pointer (some ⟨w.heap.size + 1, 0, none⟩))).put (some 43) (.agg (r22 X2))).put (some 44) (.agg (r22 E2))).put (some 45) (.agg (r22 E))).put (some 9) (.pointer (some ⟨x, 0, none⟩)))) ?_ ?_
    · intro Q' hQ'
      refine wp_region_noPanic ?_
      refine wp_region_go 99 13 #[ff,ff,ff,ff,ff,ff,ff,ff,ff,ff,ff,ff,ff] (by kernel_rfl) rfl rfl ?_
      intro W22 hW22
      rw [← hW22] at hQ'
      simp only [Act.put, List.setIfInBounds_toArray, List.set_cons_succ, List.set_cons_zero] at hQ'
      have HQ := Lib.hid hQ'; clear hQ'
      rw [← hW22] at M2 M3 M4 M5 M6 M7 M8 HB
      clear hW22
      refine go_take2 0 35 #[tt,ff,ff,ff,ff,ff,ff,ff,ff,ff,ff,ff,ff] (v := ?uv3) rfl rfl rfl (by kernel_rfl) (Or.inl ⟨by rfl, ?uy3⟩) ((below_dr W22)) ?urest3
      case uy3 => (intro _ _; go_simp; try with_reducible rfl)
      (try simp only [sI, sS, sZ])
      refine go_take2 1 36 #[tt,tt,ff,ff,ff,ff,ff,ff,ff,ff,ff,ff,ff] rfl rfl rfl (by kernel_rfl) (yieldsIf_loadm (by rfl) 40 _ rfl (w.heap.size) 0 rfl (r22l X1) (r22 X1) rfl (fun _ h => range_below (rp_x M2.out) h M2.out.lt) _ Try.underlying40 rfl (by rw [r22l_len]; kernel_rfl)) ((below_dr W22)) ?_
      (try simp only [sI, sS, sZ])
      refine go_take2 2 37 #[tt,tt,tt,ff,ff,ff,ff,ff,ff,ff,ff,ff,ff] (v := ?uv4) rfl rfl rfl (by kernel_rfl) (Or.inl ⟨by rfl, ?uy4⟩) ((below_dr W22)) ?urest4
      case uy4 => (intro _ _; go_simp; try with_reducible rfl)
      (try simp only [sI, sS, sZ])
      refine go_take2 3 38 #[tt,tt,tt,tt,ff,ff,ff,ff,ff,ff,ff,ff,ff] rfl rfl rfl (by kernel_rfl) (yieldsIf_loadm (by rfl) 40 _ rfl (w.heap.size + 1) 22 rfl (r22l Y2) (r22 Y2) rfl (fun _ h => range_below (rp_y M3.out) h M3.out.lt) _ Try.underlying40 rfl (by rw [r22l_len]; kernel_rfl)) ((below_dr W22)) ?_
      (try simp only [sI, sS, sZ])
      refine go_take2 5 40 #[tt,tt,tt,tt,ff,tt,ff,ff,ff,ff,ff,ff,ff] (v := ?uv5) rfl rfl rfl (by kernel_rfl) (Or.inl ⟨by rfl, ?uy5⟩) ((below_dr W22)) ?urest5
      case uy5 => (intro _ _; go_simp; try with_reducible rfl)
      (try simp only [sI, sS, sZ])
      refine go_take2 6 41 #[tt,tt,tt,tt,ff,tt,tt,ff,ff,ff,ff,ff,ff] rfl rfl rfl (by kernel_rfl) (yieldsIf_loadm (by rfl) 40 _ rfl (w.heap.size) 22 rfl (r22l Y1) (r22 Y1) rfl (fun _ h => range_below (rp_y M2.out) h M2.out.lt) _ Try.underlying40 rfl (by rw [r22l_len]; kernel_rfl)) ((below_dr W22)) ?_
      (try simp only [sI, sS, sZ])
      refine go_take2 7 42 #[tt,tt,tt,tt,ff,tt,tt,tt,ff,ff,ff,ff,ff] (v := ?uv6) rfl rfl rfl (by kernel_rfl) (Or.inl ⟨by rfl, ?uy6⟩) ((below_dr W22)) ?urest6
      case uy6 => (intro _ _; go_simp; try with_reducible rfl)
      (try simp only [sI, sS, sZ])
      refine go_take2 8 43 #[tt,tt,tt,tt,ff,tt,tt,tt,tt,ff,ff,ff,ff] rfl rfl rfl (by kernel_rfl) (yieldsIf_loadm (by rfl) 40 _ rfl (w.heap.size + 1) 0 rfl (r22l X2) (r22 X2) rfl (fun _ h => range_below (rp_x M3.out) h M3.out.lt) _ Try.underlying40 rfl (by rw [r22l_len]; kernel_rfl)) ((below_dr W22)) ?_
      (try simp only [sI, sS, sZ])
      refine wpBut_r2 (i := 4) (j := 11) (by kernel_rfl) ?_ ?_
      refine go_call 4 39 #[tt,tt,tt,tt,tt,tt,tt,tt,tt,ff,ff,ff,ff] rfl rfl rfl (by rfl) rfl rfl (by rfl) ent32 (by rfl) (KE1.out _) ?_
      rintro e wW221 ⟨rfl, hb⟩
      have hkW221 := held_next (below_dr W22) hb
      refine ⟨_, rfl, fun _ => hkW221, ?_⟩
      clear hb
      (try simp only [sI, sS, sZ])
      refine wpBut_r2 (i := 9) (j := 11) (by kernel_rfl) ?_ ?_
      refine go_call 9 44 #[tt,tt,tt,tt,tt,tt,tt,tt,tt,tt,ff,ff,ff] rfl rfl rfl (by rfl) rfl rfl (by rfl) ent32 (by rfl) (KE2.out _) ?_
      rintro e wW222 ⟨rfl, hb⟩
      have hkW222 := held_next hkW221 hb
      refine ⟨_, rfl, fun _ => hkW222, ?_⟩
      clear hb
      (try simp only [sI, sS, sZ])
      refine wpBut_r2 (i := 10) (j := 11) (by kernel_rfl) ?_ ?_
      refine go_call 10 45 #[tt,tt,tt,tt,tt,tt,tt,tt,tt,tt,tt,ff,ff] rfl rfl rfl (by rfl) rfl rfl (by rfl) ent38 (by rfl) (KE.out _) ?_
      rintro e wW223 ⟨rfl, hb⟩
      have hkW223 := held_next hkW222 hb
      refine ⟨_, rfl, fun _ => hkW223, ?_⟩
      clear hb
      (try simp only [sI, sS, sZ])
      refine wpBut_r1 (i := 11) (by kernel_rfl) ?_
      refine go_alloc 11 9 #[tt,tt,tt,tt,tt,tt,tt,tt,tt,tt,tt,tt,ff] rfl rfl rfl (by rfl) 40 rfl _ al40 ?_
      intro wW224 hw2
      have hkW224 := (hkW223).alloc (hkW223).size (.cells z40 40)
      rw [← hw2] at hkW224
      have MA11 := Lib.hid (HasN.new (wW223) z40 40 22 (by kernel_rfl))
      rw [← hw2] at MA11
      have HA11 := Lib.hid (show W22.heap.size ≤ _ from (hkW223).size)
      clear hw2
      refine ⟨fun _ => hkW224, ?_⟩
      (try simp only [sI, sS, sZ])
      refine wpBut_r1 (i := 12) (by kernel_rfl) ?_
      obtain ⟨Zq, hZ, mZ⟩ := MA11.out
      refine go_store2 12 #[tt,tt,tt,tt,tt,tt,tt,tt,tt,tt,tt,tt,tt] rfl rfl rfl (by rfl) 40 _ _ rfl _ _ rfl rfl 40 Zq mZ (by rw [r22_size]; kernel_rfl) (hZ.trans (r22_size ..).symm) (row_one _ _ _) ?_
      intro wW225 hw2
      have hkW225 := below_setRow (hkW224) _ (r22 E) HA11.out
      rw [← hw2] at hkW225
      clear MA11
      have MA11 := Lib.hid (mZ.setRow (r22 E))
      rw [← hw2] at MA11; clear mZ hZ hw2
      refine ⟨fun _ => hkW225, ?_⟩
      (try simp only [sI, sS, sZ])
      exact wpBut_done (by kernel_rfl) (NoPanic.normal (HQ.out (_) _ ⟨HA11.out, MA11.out, (hkW225)⟩))
      refine go_alloc 11 9 #[tt,tt,tt,tt,tt,tt,tt,tt,tt,tt,ff,tt,ff] rfl rfl rfl (by rfl) 40 rfl _ al40 ?_
      intro wW223 hw2
      have hkW223 := (hkW222).alloc (hkW222).size (.cells z40 40)
      rw [← hw2] at hkW223
      have MA11 := Lib.hid (HasN.new (wW222) z40 40 22 (by kernel_rfl))
      rw [← hw2] at MA11
      have HA11 := Lib.hid (show W22.heap.size ≤ _ from (hkW222).size)
      clear hw2
      refine ⟨fun _ => hkW223, ?_⟩
      (try simp only [sI, sS, sZ])
      refine wpBut_r1 (i := 10) (by kernel_rfl) ?_
      refine go_call 10 45 #[tt,tt,tt,tt,tt,tt,tt,tt,tt,tt,tt,tt,ff] rfl rfl rfl (by rfl) rfl rfl (by rfl) ent38 (by rfl) (KE.out _) ?_
      rintro e wW224 ⟨rfl, hb⟩
      have hkW224 := held_next hkW223 hb
      replace MA11 := Lib.hid (MA11.out.call hb)
      refine ⟨_, rfl, fun _ => hkW224, ?_⟩
      clear hb
      (try simp only [sI, sS, sZ])
      refine wpBut_r1 (i := 12) (by kernel_rfl) ?_
      obtain ⟨Zq, hZ, mZ⟩ := MA11.out
      refine go_store2 12 #[tt,tt,tt,tt,tt,tt,tt,tt,tt,tt,tt,tt,tt] rfl rfl rfl (by rfl) 40 _ _ rfl _ _ rfl rfl 40 Zq mZ (by rw [r22_size]; kernel_rfl) (hZ.trans (r22_size ..).symm) (row_one _ _ _) ?_
      intro wW225 hw2
      have hkW225 := below_setRow (hkW224) _ (r22 E) HA11.out
      rw [← hw2] at hkW225
      clear MA11
      have MA11 := Lib.hid (mZ.setRow (r22 E))
      rw [← hw2] at MA11; clear mZ hZ hw2
      refine ⟨fun _ => hkW225, ?_⟩
      (try simp only [sI, sS, sZ])
      exact wpBut_done (by kernel_rfl) (NoPanic.normal (HQ.out (_) _ ⟨HA11.out, MA11.out, (hkW225)⟩))
      refine go_alloc 11 9 #[tt,tt,tt,tt,tt,tt,tt,tt,tt,ff,ff,tt,ff] rfl rfl rfl (by rfl) 40 rfl _ al40 ?_
      intro wW222 hw2
      have hkW222 := (hkW221).alloc (hkW221).size (.cells z40 40)
      rw [← hw2] at hkW222
      have MA11 := Lib.hid (HasN.new (wW221) z40 40 22 (by kernel_rfl))
      rw [← hw2] at MA11
      have HA11 := Lib.hid (show W22.heap.size ≤ _ from (hkW221).size)
      clear hw2
      refine ⟨fun _ => hkW222, ?_⟩
      (try simp only [sI, sS, sZ])
      refine wpBut_r1 (i := 9) (by kernel_rfl) ?_
      refine go_call 9 44 #[tt,tt,tt,tt,tt,tt,tt,tt,tt,tt,ff,tt,ff] rfl rfl rfl (by rfl) rfl rfl (by rfl) ent32 (by rfl) (KE2.out _) ?_
      rintro e wW223 ⟨rfl, hb⟩
      have hkW223 := held_next hkW222 hb
      replace MA11 := Lib.hid (MA11.out.call hb)
      refine ⟨_, rfl, fun _ => hkW223, ?_⟩
      clear hb
      (try simp only [sI, sS, sZ])
      refine wpBut_r1 (i := 10) (by kernel_rfl) ?_
      refine go_call 10 45 #[tt,tt,tt,tt,tt,tt,tt,tt,tt,tt,tt,tt,ff] rfl rfl rfl (by rfl) rfl rfl (by rfl) ent38 (by rfl) (KE.out _) ?_
      rintro e wW224 ⟨rfl, hb⟩
      have hkW224 := held_next hkW223 hb
      replace MA11 := Lib.hid (MA11.out.call hb)
      refine ⟨_, rfl, fun _ => hkW224, ?_⟩
      clear hb
      (try simp only [sI, sS, sZ])
      refine wpBut_r1 (i := 12) (by kernel_rfl) ?_
      obtain ⟨Zq, hZ, mZ⟩ := MA11.out
      refine go_store2 12 #[tt,tt,tt,tt,tt,tt,tt,tt,tt,tt,tt,tt,tt] rfl rfl rfl (by rfl) 40 _ _ rfl _ _ rfl rfl 40 Zq mZ (by rw [r22_size]; kernel_rfl) (hZ.trans (r22_size ..).symm) (row_one _ _ _) ?_
      intro wW225 hw2
      have hkW225 := below_setRow (hkW224) _ (r22 E) HA11.out
      rw [← hw2] at hkW225
      clear MA11
      have MA11 := Lib.hid (mZ.setRow (r22 E))
      rw [← hw2] at MA11; clear mZ hZ hw2
      refine ⟨fun _ => hkW225, ?_⟩
      (try simp only [sI, sS, sZ])
      exact wpBut_done (by kernel_rfl) (NoPanic.normal (HQ.out (_) _ ⟨HA11.out, MA11.out, (hkW225)⟩))
      refine go_alloc 11 9 #[tt,tt,tt,tt,ff,tt,tt,tt,tt,ff,ff,tt,ff] rfl rfl rfl (by rfl) 40 rfl _ al40 ?_
      intro wW221 hw2
      have hkW221 := ((below_dr W22)).alloc ((below_dr W22)).size (.cells z40 40)
      rw [← hw2] at hkW221
      have MA11 := Lib.hid (HasN.new (W22.drew) z40 40 22 (by kernel_rfl))
      rw [← hw2] at MA11
      have HA11 := Lib.hid (show W22.heap.size ≤ _ from ((below_dr W22)).size)
      clear hw2
      refine ⟨fun _ => hkW221, ?_⟩
      (try simp only [sI, sS, sZ])
      refine wpBut_r1 (i := 4) (by kernel_rfl) ?_
      refine go_call 4 39 #[tt,tt,tt,tt,tt,tt,tt,tt,tt,ff,ff,tt,ff] rfl rfl rfl (by rfl) rfl rfl (by rfl) ent32 (by rfl) (KE1.out _) ?_
      rintro e wW222 ⟨rfl, hb⟩
      have hkW222 := held_next hkW221 hb
      replace MA11 := Lib.hid (MA11.out.call hb)
      refine ⟨_, rfl, fun _ => hkW222, ?_⟩
      clear hb
      (try simp only [sI, sS, sZ])
      refine wpBut_r1 (i := 9) (by kernel_rfl) ?_
      refine go_call 9 44 #[tt,tt,tt,tt,tt,tt,tt,tt,tt,tt,ff,tt,ff] rfl rfl rfl (by rfl) rfl rfl (by rfl) ent32 (by rfl) (KE2.out _) ?_
      rintro e wW223 ⟨rfl, hb⟩
      have hkW223 := held_next hkW222 hb
      replace MA11 := Lib.hid (MA11.out.call hb)
      refine ⟨_, rfl, fun _ => hkW223, ?_⟩
      clear hb
      (try simp only [sI, sS, sZ])
      refine wpBut_r1 (i := 10) (by kernel_rfl) ?_
      refine go_call 10 45 #[tt,tt,tt,tt,tt,tt,tt,tt,tt,tt,tt,tt,ff] rfl rfl rfl (by rfl) rfl rfl (by rfl) ent38 (by rfl) (KE.out _) ?_
      rintro e wW224 ⟨rfl, hb⟩
      have hkW224 := held_next hkW223 hb
      replace MA11 := Lib.hid (MA11.out.call hb)
      refine ⟨_, rfl, fun _ => hkW224, ?_⟩
      clear hb
      (try simp only [sI, sS, sZ])
      refine wpBut_r1 (i := 12) (by kernel_rfl) ?_
      obtain ⟨Zq, hZ, mZ⟩ := MA11.out
      refine go_store2 12 #[tt,tt,tt,tt,tt,tt,tt,tt,tt,tt,tt,tt,tt] rfl rfl rfl (by rfl) 40 _ _ rfl _ _ rfl rfl 40 Zq mZ (by rw [r22_size]; kernel_rfl) (hZ.trans (r22_size ..).symm) (row_one _ _ _) ?_
      intro wW225 hw2
      have hkW225 := below_setRow (hkW224) _ (r22 E) HA11.out
      rw [← hw2] at hkW225
      clear MA11
      have MA11 := Lib.hid (mZ.setRow (r22 E))
      rw [← hw2] at MA11; clear mZ hZ hw2
      refine ⟨fun _ => hkW225, ?_⟩
      (try simp only [sI, sS, sZ])
      exact wpBut_done (by kernel_rfl) (NoPanic.normal (HQ.out (_) _ ⟨HA11.out, MA11.out, (hkW225)⟩))
    · rintro W22 B9 vw22 hW22 ⟨hBq0, mBq0, hbw⟩
      simp only [Act.put, List.setIfInBounds_toArray, List.set_cons_succ, List.set_cons_zero] at  hBq0  mBq0 ⊢
      rw [← hW22] at M2 M3 M4 M5 M6 M7 M8 HB
      clear hW22
      have hltM2_22 := M2.out.lt
      have hltM3_22 := M3.out.lt
      have hltM4_22 := M4.out.lt
      have hltM5_22 := M5.out.lt
      have hltM6_22 := M6.out.lt
      have hltM7_22 := M7.out.lt
      have hltM8_22 := M8.out.lt
      replace M2 := Lib.hid (M2.out.call hbw)
      replace M3 := Lib.hid (M3.out.call hbw)
      replace M4 := Lib.hid (M4.out.call hbw)
      replace M5 := Lib.hid (M5.out.call hbw)
      replace M6 := Lib.hid (M6.out.call hbw)
      replace M7 := Lib.hid (M7.out.call hbw)
      replace M8 := Lib.hid (M8.out.call hbw)
      replace HB := Lib.hid (held_next HB.out hbw)
      have M9 := Lib.hid mBq0; clear mBq0
      clear hbw
      clear M2 M3
      repeat ((fail_if_success (with_reducible (show wpList _ _ _ _ _ _))); go_step)
      refine wpList_load (by rfl) 40 _ rfl (uw3.heap.size) rfl 40 (r22 Dq) M8.out Try.underlying40 rfl (by rw [r22_size]; kernel_rfl) 46 rfl ?_
      (try simp only [Act.put, sI, sS, sZ])
      refine wpList_load (by rfl) 40 _ rfl (B7) rfl 40 (r22 Cq) M7.out Try.underlying40 rfl (by rw [r22_size]; kernel_rfl) 47 rfl ?_
      (try simp only [Act.put, sI, sS, sZ])
      refine wpList_call (by rfl) rfl rfl (by rfl) ent40 (by rfl) (KF.out _) 48 rfl ?_
      rintro e uw4 ⟨rfl, hb⟩
      replace M4 := Lib.hid (M4.out.call hb)
      replace M5 := Lib.hid (M5.out.call hb)
      replace M6 := Lib.hid (M6.out.call hb)
      replace M7 := Lib.hid (M7.out.call hb)
      replace M8 := Lib.hid (M8.out.call hb)
      replace M9 := Lib.hid (M9.out.call hb)
      replace HB := Lib.hid (held_next HB.out hb)
      refine ⟨_, rfl, ?_⟩
      clear hb
      (try simp only [Act.put, sI, sS, sZ])
      refine wpList_alloc (by rfl) 40 rfl _ al40 10 rfl ?_
      intro yw23 hw2
      have hlt24 := M4.out.lt
      have hlt25 := M5.out.lt
      have hlt26 := M6.out.lt
      have hlt27 := M7.out.lt
      have hlt28 := M8.out.lt
      have hlt29 := M9.out.lt
      have hsz := HB.out.size
      replace M4 := Lib.hid (M4.out.alloc (.cells z40 40))
      replace M5 := Lib.hid (M5.out.alloc (.cells z40 40))
      replace M6 := Lib.hid (M6.out.alloc (.cells z40 40))
      replace M7 := Lib.hid (M7.out.alloc (.cells z40 40))
      replace M8 := Lib.hid (M8.out.alloc (.cells z40 40))
      replace M9 := Lib.hid (M9.out.alloc (.cells z40 40))
      have M10 := Lib.hid (HasN.new uw4 z40 40 22 (by kernel_rfl))
      replace HB := Lib.hid (HB.out.alloc hsz (.cells z40 40))
      rw [← hw2] at M4 M5 M6 M7 M8 M9 M10 HB; clear hw2
      (try simp only [Act.put, sI, sS, sZ])
      first | (obtain ⟨Zq, hZ, mZ⟩ := M10.out) | (obtain ⟨Zq, hZ, mZ⟩ := M10.out.toN (r22_size ..))
      refine wpList_store2 (by rfl) 40 _ _ rfl rfl (uw4.heap.size) (r22 F) rfl rfl 40 Zq mZ (by rw [r22_size]; kernel_rfl) (hZ.trans (r22_size ..).symm) (row_one _ _ _) ?_
      intro yw30 hw2
      replace M4 := Lib.hid (M4.out.setRow_other (uw4.heap.size) (r22 F) (by omega))
      replace M5 := Lib.hid (M5.out.setRow_other (uw4.heap.size) (r22 F) (by omega))
      replace M6 := Lib.hid (M6.out.setRow_other (uw4.heap.size) (r22 F) (by omega))
      replace M7 := Lib.hid (M7.out.setRow_other (uw4.heap.size) (r22 F) (by omega))
      replace M8 := Lib.hid (M8.out.setRow_other (uw4.heap.size) (r22 F) (by omega))
      replace M9 := Lib.hid (M9.out.setRow_other (uw4.heap.size) (r22 F) (by omega))
      replace M10 := Lib.hid (mZ.setRow (r22 F))
      replace HB := Lib.hid (below_setRow HB.out (uw4.heap.size) (r22 F) (by omega))
      rw [← hw2] at M4 M5 M6 M7 M8 M9 M10 HB; clear mZ hZ hw2
      refine wpList_nil ?_
      repeat ((fail_if_success (with_reducible (show wpList _ _ _ _ _ _))); go_step)
      refine wpList_load (by rfl) 40 _ rfl (uw3.heap.size) rfl 40 (r22 Dq) M8.out Try.underlying40 rfl (by rw [r22_size]; kernel_rfl) 49 rfl ?_
      (try simp only [Act.put, sI, sS, sZ])
      refine wpList_load (by rfl) 40 _ rfl (B7) rfl 40 (r22 Cq) M7.out Try.underlying40 rfl (by rw [r22_size]; kernel_rfl) 50 rfl ?_
      (try simp only [Act.put, sI, sS, sZ])
      refine wpList_call (by rfl) rfl rfl (by rfl) ent38 (by rfl) (KG.out _) 51 rfl ?_
      rintro e uw5 ⟨rfl, hb⟩
      replace M4 := Lib.hid (M4.out.call hb)
      replace M5 := Lib.hid (M5.out.call hb)
      replace M6 := Lib.hid (M6.out.call hb)
      replace M7 := Lib.hid (M7.out.call hb)
      replace M8 := Lib.hid (M8.out.call hb)
      replace M9 := Lib.hid (M9.out.call hb)
      replace M10 := Lib.hid (M10.out.call hb)
      replace HB := Lib.hid (held_next HB.out hb)
      refine ⟨_, rfl, ?_⟩
      clear hb
      (try simp only [Act.put, sI, sS, sZ])
      refine wpList_alloc (by rfl) 40 rfl _ al40 11 rfl ?_
      intro yw31 hw2
      have hlt32 := M4.out.lt
      have hlt33 := M5.out.lt
      have hlt34 := M6.out.lt
      have hlt35 := M7.out.lt
      have hlt36 := M8.out.lt
      have hlt37 := M9.out.lt
      have hlt38 := M10.out.lt
      have hsz := HB.out.size
      replace M4 := Lib.hid (M4.out.alloc (.cells z40 40))
      replace M5 := Lib.hid (M5.out.alloc (.cells z40 40))
      replace M6 := Lib.hid (M6.out.alloc (.cells z40 40))
      replace M7 := Lib.hid (M7.out.alloc (.cells z40 40))
      replace M8 := Lib.hid (M8.out.alloc (.cells z40 40))
      replace M9 := Lib.hid (M9.out.alloc (.cells z40 40))
      replace M10 := Lib.hid (M10.out.alloc (.cells z40 40))
      have M11 := Lib.hid (HasN.new uw5 z40 40 22 (by kernel_rfl))
      replace HB := Lib.hid (HB.out.alloc hsz (.cells z40 40))
      rw [← hw2] at M4 M5 M6 M7 M8 M9 M10 M11 HB; clear hw2
      (try simp only [Act.put, sI, sS, sZ])
      first | (obtain ⟨Zq, hZ, mZ⟩ := M11.out) | (obtain ⟨Zq, hZ, mZ⟩ := M11.out.toN (r22_size ..))
      refine wpList_store2 (by rfl) 40 _ _ rfl rfl (uw5.heap.size) (r22 G) rfl rfl 40 Zq mZ (by rw [r22_size]; kernel_rfl) (hZ.trans (r22_size ..).symm) (row_one _ _ _) ?_
      intro yw39 hw2
      replace M4 := Lib.hid (M4.out.setRow_other (uw5.heap.size) (r22 G) (by omega))
      replace M5 := Lib.hid (M5.out.setRow_other (uw5.heap.size) (r22 G) (by omega))
      replace M6 := Lib.hid (M6.out.setRow_other (uw5.heap.size) (r22 G) (by omega))
      replace M7 := Lib.hid (M7.out.setRow_other (uw5.heap.size) (r22 G) (by omega))
      replace M8 := Lib.hid (M8.out.setRow_other (uw5.heap.size) (r22 G) (by omega))
      replace M9 := Lib.hid (M9.out.setRow_other (uw5.heap.size) (r22 G) (by omega))
      replace M10 := Lib.hid (M10.out.setRow_other (uw5.heap.size) (r22 G) (by omega))
      replace M11 := Lib.hid (mZ.setRow (r22 G))
      replace HB := Lib.hid (below_setRow HB.out (uw5.heap.size) (r22 G) (by omega))
      rw [← hw2] at M4 M5 M6 M7 M8 M9 M10 M11 HB; clear mZ hZ hw2
      refine wpList_nil ?_
      repeat ((fail_if_success (with_reducible (show wpList _ _ _ _ _ _))); go_step)
      refine wpList_load (by rfl) 40 _ rfl (uw2.heap.size) rfl 40 (r22 Bq) M6.out Try.underlying40 rfl (by rw [r22_size]; kernel_rfl) 52 rfl ?_
      (try simp only [Act.put, sI, sS, sZ])
      refine wpList_load (by rfl) 40 _ rfl (uw1.heap.size) rfl 40 (r22 A) M5.out Try.underlying40 rfl (by rw [r22_size]; kernel_rfl) 53 rfl ?_
      (try simp only [Act.put, sI, sS, sZ])
      refine wpList_call (by rfl) rfl rfl (by rfl) ent38 (by rfl) (KH.out _) 54 rfl ?_
      rintro e uw6 ⟨rfl, hb⟩
      replace M4 := Lib.hid (M4.out.call hb)
      replace M5 := Lib.hid (M5.out.call hb)
      replace M6 := Lib.hid (M6.out.call hb)
      replace M7 := Lib.hid (M7.out.call hb)
      replace M8 := Lib.hid (M8.out.call hb)
      replace M9 := Lib.hid (M9.out.call hb)
      replace M10 := Lib.hid (M10.out.call hb)
      replace M11 := Lib.hid (M11.out.call hb)
      replace HB := Lib.hid (held_next HB.out hb)
      refine ⟨_, rfl, ?_⟩
      clear hb
      (try simp only [Act.put, sI, sS, sZ])
      refine wpList_alloc (by rfl) 40 rfl _ al40 12 rfl ?_
      intro yw40 hw2
      have hlt41 := M4.out.lt
      have hlt42 := M5.out.lt
      have hlt43 := M6.out.lt
      have hlt44 := M7.out.lt
      have hlt45 := M8.out.lt
      have hlt46 := M9.out.lt
      have hlt47 := M10.out.lt
      have hlt48 := M11.out.lt
      have hsz := HB.out.size
      replace M4 := Lib.hid (M4.out.alloc (.cells z40 40))
      replace M5 := Lib.hid (M5.out.alloc (.cells z40 40))
      replace M6 := Lib.hid (M6.out.alloc (.cells z40 40))
      replace M7 := Lib.hid (M7.out.alloc (.cells z40 40))
      replace M8 := Lib.hid (M8.out.alloc (.cells z40 40))
      replace M9 := Lib.hid (M9.out.alloc (.cells z40 40))
      replace M10 := Lib.hid (M10.out.alloc (.cells z40 40))
      replace M11 := Lib.hid (M11.out.alloc (.cells z40 40))
      have M12 := Lib.hid (HasN.new uw6 z40 40 22 (by kernel_rfl))
      replace HB := Lib.hid (HB.out.alloc hsz (.cells z40 40))
      rw [← hw2] at M4 M5 M6 M7 M8 M9 M10 M11 M12 HB; clear hw2
      (try simp only [Act.put, sI, sS, sZ])
      first | (obtain ⟨Zq, hZ, mZ⟩ := M12.out) | (obtain ⟨Zq, hZ, mZ⟩ := M12.out.toN (r22_size ..))
      refine wpList_store2 (by rfl) 40 _ _ rfl rfl (uw6.heap.size) (r22 Hq) rfl rfl 40 Zq mZ (by rw [r22_size]; kernel_rfl) (hZ.trans (r22_size ..).symm) (row_one _ _ _) ?_
      intro yw49 hw2
      replace M4 := Lib.hid (M4.out.setRow_other (uw6.heap.size) (r22 Hq) (by omega))
      replace M5 := Lib.hid (M5.out.setRow_other (uw6.heap.size) (r22 Hq) (by omega))
      replace M6 := Lib.hid (M6.out.setRow_other (uw6.heap.size) (r22 Hq) (by omega))
      replace M7 := Lib.hid (M7.out.setRow_other (uw6.heap.size) (r22 Hq) (by omega))
      replace M8 := Lib.hid (M8.out.setRow_other (uw6.heap.size) (r22 Hq) (by omega))
      replace M9 := Lib.hid (M9.out.setRow_other (uw6.heap.size) (r22 Hq) (by omega))
      replace M10 := Lib.hid (M10.out.setRow_other (uw6.heap.size) (r22 Hq) (by omega))
      replace M11 := Lib.hid (M11.out.setRow_other (uw6.heap.size) (r22 Hq) (by omega))
      replace M12 := Lib.hid (mZ.setRow (r22 Hq))
      replace HB := Lib.hid (below_setRow HB.out (uw6.heap.size) (r22 Hq) (by omega))
      rw [← hw2] at M4 M5 M6 M7 M8 M9 M10 M11 M12 HB; clear mZ hZ hw2
      refine wpList_nil ?_
      clear M5 M6 M7 M8
      repeat ((fail_if_success (with_reducible (show wpList _ _ _ _ _ _))); go_step)
      refine wp_region_noPanic ?_
      refine wp_region_go 13 14 #[ff,ff,ff,ff,ff,ff,ff,ff,ff,ff,ff,ff,ff,ff] (by kernel_rfl) rfl rfl ?_
      intro W50 hW50
      rw [← hW50] at M4 M9 M10 M11 M12 HB
      clear hW50
      have M4N := Lib.hid (by first | exact M4.out | exact M4.out.toN (by first | exact e4_size _ | exact r22_size _ | exact k32_size _ | exact pt_size .. | exact rp_size ..) : HasN W50 (w.heap.size + 1 + 1) _ _)
      refine go_take2 0 55 #[tt,ff,ff,ff,ff,ff,ff,ff,ff,ff,ff,ff,ff,ff] rfl rfl rfl (by kernel_rfl) (yieldsIf_load_row (by rfl) 40 _ rfl (B9) rfl 40 (r22 E) (fun _ h => M9.out.below h M9.out.lt) Try.underlying40 rfl (by rw [r22_size]; kernel_rfl)) ((below_dr W50)) ?_
      (try simp only [sI, sS, sZ])
      refine go_take2 1 56 #[tt,tt,ff,ff,ff,ff,ff,ff,ff,ff,ff,ff,ff,ff] rfl rfl rfl (by kernel_rfl) (yieldsIf_load_row (by rfl) 40 _ rfl (uw4.heap.size) rfl 40 (r22 F) (fun _ h => M10.out.below h M10.out.lt) Try.underlying40 rfl (by rw [r22_size]; kernel_rfl)) ((below_dr W50)) ?_
      (try simp only [sI, sS, sZ])
      refine go_take2 3 58 #[tt,tt,ff,tt,ff,ff,ff,ff,ff,ff,ff,ff,ff,ff] rfl rfl rfl (by kernel_rfl) (yieldsIf_load_row (by rfl) 40 _ rfl (uw5.heap.size) rfl 40 (r22 G) (fun _ h => M11.out.below h M11.out.lt) Try.underlying40 rfl (by rw [r22_size]; kernel_rfl)) ((below_dr W50)) ?_
      (try simp only [sI, sS, sZ])
      refine go_take2 4 59 #[tt,tt,ff,tt,tt,ff,ff,ff,ff,ff,ff,ff,ff,ff] rfl rfl rfl (by kernel_rfl) (yieldsIf_load_row (by rfl) 40 _ rfl (uw6.heap.size) rfl 40 (r22 Hq) (fun _ h => M12.out.below h M12.out.lt) Try.underlying40 rfl (by rw [r22_size]; kernel_rfl)) ((below_dr W50)) ?_
      (try simp only [sI, sS, sZ])
      refine go_take2 6 61 #[tt,tt,ff,tt,tt,ff,tt,ff,ff,ff,ff,ff,ff,ff] rfl rfl rfl (by kernel_rfl) (yieldsIf_load_row (by rfl) 40 _ rfl (uw4.heap.size) rfl 40 (r22 F) (fun _ h => M10.out.below h M10.out.lt) Try.underlying40 rfl (by rw [r22_size]; kernel_rfl)) ((below_dr W50)) ?_
      (try simp only [sI, sS, sZ])
      refine go_take2 7 62 #[tt,tt,ff,tt,tt,ff,tt,tt,ff,ff,ff,ff,ff,ff] rfl rfl rfl (by kernel_rfl) (yieldsIf_load_row (by rfl) 40 _ rfl (uw5.heap.size) rfl 40 (r22 G) (fun _ h => M11.out.below h M11.out.lt) Try.underlying40 rfl (by rw [r22_size]; kernel_rfl)) ((below_dr W50)) ?_
      (try simp only [sI, sS, sZ])
      refine go_take2 9 64 #[tt,tt,ff,tt,tt,ff,tt,tt,ff,tt,ff,ff,ff,ff] rfl rfl rfl (by kernel_rfl) (yieldsIf_load_row (by rfl) 40 _ rfl (B9) rfl 40 (r22 E) (fun _ h => M9.out.below h M9.out.lt) Try.underlying40 rfl (by rw [r22_size]; kernel_rfl)) ((below_dr W50)) ?_
      (try simp only [sI, sS, sZ])
      refine go_take2 10 65 #[tt,tt,ff,tt,tt,ff,tt,tt,ff,tt,tt,ff,ff,ff] rfl rfl rfl (by kernel_rfl) (yieldsIf_load_row (by rfl) 40 _ rfl (uw6.heap.size) rfl 40 (r22 Hq) (fun _ h => M12.out.below h M12.out.lt) Try.underlying40 rfl (by rw [r22_size]; kernel_rfl)) ((below_dr W50)) ?_
      (try simp only [sI, sS, sZ])
      refine wpBut_r1 (i := 2) (by kernel_rfl) ?_
      refine go_call 2 57 #[tt,tt,tt,tt,tt,ff,tt,tt,ff,tt,tt,ff,ff,ff] rfl rfl rfl (by rfl) rfl rfl (by rfl) ent32 (by rfl) (KX.out _) ?_
      rintro e wW501 ⟨rfl, hb⟩
      have hkW501 := held_next (below_dr W50) hb
      refine ⟨_, rfl, fun _ => hkW501, ?_⟩
      clear hb
      (try simp only [sI, sS, sZ])
      refine wpBut_r1 (i := 5) (by kernel_rfl) ?_
      refine go_call 5 60 #[tt,tt,tt,tt,tt,tt,tt,tt,ff,tt,tt,ff,ff,ff] rfl rfl rfl (by rfl) rfl rfl (by rfl) ent32 (by rfl) (KY.out _) ?_
      rintro e wW502 ⟨rfl, hb⟩
      have hkW502 := held_next hkW501 hb
      refine ⟨_, rfl, fun _ => hkW502, ?_⟩
      clear hb
      (try simp only [sI, sS, sZ])
      refine wpBut_r1 (i := 8) (by kernel_rfl) ?_
      refine go_call 8 63 #[tt,tt,tt,tt,tt,tt,tt,tt,tt,tt,tt,ff,ff,ff] rfl rfl rfl (by rfl) rfl rfl (by rfl) ent32 (by rfl) (KZ.out _) ?_
      rintro e wW503 ⟨rfl, hb⟩
      have hkW503 := held_next hkW502 hb
      refine ⟨_, rfl, fun _ => hkW503, ?_⟩
      clear hb
      (try simp only [sI, sS, sZ])
      refine wpBut_r1 (i := 11) (by kernel_rfl) ?_
      refine go_call 11 66 #[tt,tt,tt,tt,tt,tt,tt,tt,tt,tt,tt,tt,ff,ff] rfl rfl rfl (by rfl) rfl rfl (by rfl) ent32 (by rfl) (KT.out _) ?_
      rintro e wW504 ⟨rfl, hb⟩
      have hkW504 := held_next hkW503 hb
      refine ⟨_, rfl, fun _ => hkW504, ?_⟩
      clear hb
      (try simp only [sI, sS, sZ])
      refine go_take2 12 67 #[tt,tt,tt,tt,tt,tt,tt,tt,tt,tt,tt,tt,tt,ff] rfl rfl rfl (by kernel_rfl) (yieldsIf_build (by rfl) 57 _ rfl _ (by rfl) (rp X3 Y3 Z3 T3) (bd57 X3 Y3 Z3 T3)) (hkW504) ?_
      (try simp only [sI, sS, sZ])
      refine wpBut_r1 (i := 13) (by kernel_rfl) ?_
      obtain ⟨Zq, hZ, mZ⟩ := M4N.out.below hkW504 M4N.out.lt
      have MZ := Lib.hid mZ; clear mZ
      have HZ := Lib.hid hZ; clear hZ
      refine go_store 13 #[tt,tt,tt,tt,tt,tt,tt,tt,tt,tt,tt,tt,tt,tt] rfl rfl rfl (by rfl) 57 _ _ rfl (w.heap.size + 1 + 1) _ rfl rfl 57 Zq MZ.out (by rw [rp_size]; kernel_rfl) (HZ.out.trans (rp_size ..).symm) (rp_one _ _ _ _) ⟨fun h => (h rfl).elim, ?_⟩
      (try simp only [sI, sS, sZ])
      refine wpBut_done (by kernel_rfl) (NoPanic.normal ?_)
      replace M9 := Lib.hid ((M9.out.call hkW504).setRow_other (w.heap.size + 1 + 1) (rp X3 Y3 Z3 T3) (by omega))
      replace M10 := Lib.hid ((M10.out.call hkW504).setRow_other (w.heap.size + 1 + 1) (rp X3 Y3 Z3 T3) (by omega))
      replace M11 := Lib.hid ((M11.out.call hkW504).setRow_other (w.heap.size + 1 + 1) (rp X3 Y3 Z3 T3) (by omega))
      replace M12 := Lib.hid ((M12.out.call hkW504).setRow_other (w.heap.size + 1 + 1) (rp X3 Y3 Z3 T3) (by omega))
      clear M4 M4N
      have M4 := Lib.hid (MZ.out.setRow (rp X3 Y3 Z3 T3)); clear MZ HZ
      replace HB := Lib.hid (below_setRow (held_next HB.out hkW504) (w.heap.size + 1 + 1) (rp X3 Y3 Z3 T3) (by omega))
      obtain ⟨yw51, hwyw51⟩ : ∃ ww, ww = wW504.setRow (w.heap.size + 1 + 1) (rp X3 Y3 Z3 T3) := ⟨_, rfl⟩
      rw [← hwyw51] at M4 M9 M10 M11 M12 HB ⊢
      clear hwyw51
      go_wp2_with fail
      exact bodyPost_ret (v := .agg (rp X3 Y3 Z3 T3)) (results_cell_row (t := 57) (by rfl) _ _ (w.heap.size + 1 + 1) _ _ _ rfl M4.out Try.underlying57 rfl (by rw [rp_size]; kernel_rfl)) rfl ⟨rfl, HB.out⟩
end Go.Proofs.Ytjiagjonlcadiaa
end
section
namespace Go.Proofs.Ytjiagjonlcadiaa

/-- these four residues are this point -/
def Rep4 (X Y Z T : Nat) (p : Fin PP × Fin PP) : Prop := Rep X Y Z p ∧ fi T = p.1 * p.2 * fi Z
theorem radd_rep (X1 Y1 Z1 T1 X2 Y2 Z2 T2 : Nat) (p q : Fin PP × Fin PP) (hp : Rep4 X1 Y1 Z1 T1 p) (hq : Rep4 X2 Y2 Z2 T2 q) :
    Rep4 (radd X1 Y1 Z1 T1 X2 Y2 Z2 T2).1 (radd X1 Y1 Z1 T1 X2 Y2 Z2 T2).2.1 (radd X1 Y1 Z1 T1 X2 Y2 Z2 T2).2.2.1 (radd X1 Y1 Z1 T1 X2 Y2 Z2 T2).2.2.2 (padA finv fd p q) := by
  obtain ⟨⟨x1, y1, z1, o1⟩, t1⟩ := hp
  obtain ⟨⟨x2, y2, z2, o2⟩, t2⟩ := hq
  have ex := fld.sx_eq p.1 p.2 q.1 q.2 o1 o2
  have ey := fld.sy_eq p.1 p.2 q.1 q.2 o1 o2
  have np := fld.plus_ne p.1 p.2 q.1 q.2 o1 o2
  have nm := fld.minus_ne p.1 p.2 q.1 q.2 o1 o2
  have hA : fi Z1 * fi Z2 ≠ 0 := fld.mul_ne z1 z2
  have ho := fld.on_add p q o1 o2
  have eF : fi ((Z1 * Z2 % PP + (PP - SL * (T1 * T2 % PP) % PP)) % PP) = fi Z1 * fi Z2 * (1 - fd * p.1 * q.1 * p.2 * q.2) := by
    simp only [fi_mod, fi_neg, fi_mul, fi_add]
    rw [t1, t2]
    show _ + -(fd * _) = _
    grind
  have eG : fi ((Z1 * Z2 % PP + SL * (T1 * T2 % PP) % PP) % PP) = fi Z1 * fi Z2 * (1 + fd * p.1 * q.1 * p.2 * q.2) := by
    simp only [fi_mod, fi_mul, fi_add]
    rw [t1, t2]
    show _ + fd * _ = _
    grind
  have eE : fi ((X1 * Y2 % PP + Y1 * X2 % PP) % PP) = fi Z1 * fi Z2 * (p.1 * q.2 + q.1 * p.2) := by
    simp only [fi_mod, fi_mul, fi_add]
    rw [x1, x2, y1, y2]
    grind
  have eH : fi ((Y1 * Y2 % PP + X1 * X2 % PP) % PP) = fi Z1 * fi Z2 * (p.2 * q.2 + p.1 * q.1) := by
    simp only [fi_mod, fi_mul, fi_add]
    rw [x1, x2, y1, y2]
    grind
  unfold Rep4 Rep padA
  unfold radd
  refine ⟨⟨?_, ?_, ?_, ho⟩, ?_⟩
  · show fi (_ * _ % PP) = sx finv fd p.1 p.2 q.1 q.2 * fi (_ * _ % PP)
    simp only [fi_mod, fi_mul] at eF eG eE eH ⊢
    rw [eF, eG, eE, ← ex]
    grind
  · show fi (_ * _ % PP) = sy finv fd p.1 p.2 q.1 q.2 * fi (_ * _ % PP)
    simp only [fi_mod, fi_mul] at eF eG eE eH ⊢
    rw [eF, eG, eH, ← ey]
    grind
  · show fi (_ * _ % PP) ≠ 0
    rw [fi_mod, fi_mul, eF, eG]
    exact fld.mul_ne (fld.mul_ne hA nm) (fld.mul_ne hA np)
  · show fi (_ * _ % PP) = sx finv fd p.1 p.2 q.1 q.2 * sy finv fd p.1 p.2 q.1 q.2 * fi (_ * _ % PP)
    simp only [fi_mod, fi_mul] at eF eG eE eH ⊢
    rw [eF, eG, eE, eH, ← ex, ← ey]
    grind
end Go.Proofs.Ytjiagjonlcadiaa
end
section
namespace Go.Proofs.Ytjiagjonlcadiaa
open Go.RowKit Go.Lib

/-- four residues below the prime that are this point -/
def Rq (X Y Z T : Nat) (p : Fin PP × Fin PP) : Prop := Rep4 X Y Z T p ∧ X < PP ∧ Y < PP ∧ Z < PP ∧ T < PP
theorem radd_rq (X1 Y1 Z1 T1 X2 Y2 Z2 T2 : Nat) (p q : Fin PP × Fin PP) (hp : Rq X1 Y1 Z1 T1 p) (hq : Rq X2 Y2 Z2 T2 q) (w : World) :
    Calls Try.prog 52 #[.agg (rp X1 Y1 Z1 T1), .agg (rp X2 Y2 Z2 T2)] w fun e w' => ∃ X Y Z T : Nat, Rq X Y Z T (padA finv fd p q) ∧ e = .returned (.agg (rp X Y Z T)) ∧ Below w.heap.size w w' := by
  obtain ⟨r1, x1, y1, z1, t1⟩ := hp
  obtain ⟨r2, x2, y2, z2, t2⟩ := hq
  refine (rpplus_any X1 Y1 Z1 T1 X2 Y2 Z2 T2 x1 y1 z1 t1 x2 y2 z2 t2 w).mono ?_
  rintro e w' ⟨rfl, hb⟩
  exact ⟨_, _, _, _, ⟨radd_rep _ _ _ _ _ _ _ _ p q r1 r2, Nat.mod_lt _ PP_pos, Nat.mod_lt _ PP_pos, Nat.mod_lt _ PP_pos, Nat.mod_lt _ PP_pos⟩, rfl, hb⟩
theorem zero_rq : Rq 0 1 1 0 (0, 1) := by
  have h1 : 1 < PP := by have := PP_val; omega
  refine ⟨⟨zero_rep, ?_⟩, PP_pos, h1, h1, PP_pos⟩
  rw [fi_zero, fi_one]
  show (0 : Fin PP) = 0 * 1 * 1
  grind
theorem bit_val (n j : Nat) : n / 256 ^ (j / 8) % 256 / 2 ^ (j % 8) % 2 = n / 2 ^ j % 2 := by
  have e : 2 ^ j = 256 ^ (j / 8) * 2 ^ (j % 8) := by
    rw [show (256 : Nat) = 2 ^ 8 by decide, ← Nat.pow_mul, ← Nat.pow_add, Nat.div_add_mod]
  rw [e, ← Nat.div_div_eq_div_mul]
  generalize n / 256 ^ (j / 8) = q
  have hr : j % 8 < 8 := Nat.mod_lt _ (by decide)
  generalize j % 8 = r at *
  rcases (show r = 0 ∨ r = 1 ∨ r = 2 ∨ r = 3 ∨ r = 4 ∨ r = 5 ∨ r = 6 ∨ r = 7 by omega) with rfl | rfl | rfl | rfl | rfl | rfl | rfl | rfl <;> simp <;> omega
theorem half_step (n j b : Nat) (h : n / 2 ^ j % 2 = b) : n / 2 ^ j = n / 2 ^ (j + 1) + n / 2 ^ (j + 1) + b := by
  rw [Nat.pow_succ, ← Nat.div_div_eq_div_mul]
  omega
theorem td8 (j : Nat) : (j : Int).tdiv 8 = (j : Int) / 8 := Int.tdiv_eq_ediv_of_nonneg (by omega)
theorem tm8 (j : Nat) : (j : Int).tmod 8 = (j : Int) % 8 := Int.tmod_eq_emod_of_nonneg (by omega)

theorem bit_int (n j b : Nat) (x : Int) (hx : x = dg 256 n (j / 8)) (hb : n / 2 ^ j % 2 = b) : (x / 2 ^ (j % 8)).tmod 2 = (b : Int) := by
  have h := bit_val n j
  rw [hb] at h
  rw [hx]
  unfold dg
  have e : (((n / 256 ^ (j / 8) % 256 : Nat) : Int) / 2 ^ (j % 8)) = ((n / 256 ^ (j / 8) % 256 / 2 ^ (j % 8) : Nat) : Int) := by
    rw [Int.natCast_ediv, Int.natCast_pow]; rfl
  rw [e, ← h, Int.tmod_eq_emod_of_nonneg (Int.natCast_nonneg _)]
  rfl
theorem step_even (n j : Nat) (p : Fin PP × Fin PP) (h : n / 2 ^ j % 2 = 0) : mulA finv fd p (n / 2 ^ (j + 1) + n / 2 ^ (j + 1)) = mulA finv fd p (n / 2 ^ j) := by
  have e := half_step n j 0 h
  rw [Nat.add_zero] at e
  rw [← e]
theorem step_odd (n j : Nat) (p : Fin PP × Fin PP) (h : n / 2 ^ j % 2 = 1) : padA finv fd (mulA finv fd p (n / 2 ^ (j + 1) + n / 2 ^ (j + 1))) p = mulA finv fd p (n / 2 ^ j) := by
  have e := half_step n j 1 h
  rw [e]; rfl

set_option maxRecDepth 100000 in
set_option linter.unusedSimpArgs false in
set_option maxHeartbeats 8000000 in
theorem rmany_any (X Y Z T n : Nat) (p : Fin PP × Fin PP) (hp : Rq X Y Z T p) (hn : n < 115792089237316195423570985008687907853269984665640564039457584007913129639936) (w : World) :
    Calls Try.prog 57 #[.agg (rp X Y Z T), .agg (k32 n)] w fun e w' => ∃ X2 Y2 Z2 T2 : Nat, Rq X2 Y2 Z2 T2 (mulA finv fd p n) ∧ e = .returned (.agg (rp X2 Y2 Z2 T2)) ∧ Below w.heap.size w w' := by
  have hop : OnP fd p := hp.1.1.2.2.2
  have hadd := radd_rq
  have Hadd := Lib.hid hadd; clear hadd
  have Hp := Lib.hid hp; clear hp
  have Hop := Lib.hid hop; clear hop
  have Hn := Lib.hid hn; clear hn
  go_enter Try.func57, Try.ntmps57
  repeat ((fail_if_success (with_reducible (show wpList _ _ _ _ _ _))); go_step)
  iterate 3 (refine wpList_step (fun K hK => ?_); go_simp; (try go_bits); refine hK _ _ ?_; clear hK K)
  refine wpList_nil ?_
  have M2 := Lib.hid (((Has.new w  (rp X Y Z T) 57).alloc (.cells (k32 n) 24)).alloc (.cells Try.zeroCells57 57))
  have M3 := Lib.hid ((Has.new1 w (.cells (rp X Y Z T) 57) (k32 n) 24).alloc (.cells Try.zeroCells57 57))
  have M4 := Lib.hid (HasN.new2 w (.cells (rp X Y Z T) 57) (.cells (k32 n) 24) Try.zeroCells57 57 88 (by kernel_rfl))
  have HB := Lib.hid (below_3 w (.cells (rp X Y Z T) 57) (.cells (k32 n) 24) (.cells Try.zeroCells57 57))
  obtain ⟨yw1, hwyw1⟩ : ∃ ww, ww = (((w.alloc (.cells (rp X Y Z T) 57)).alloc (.cells (k32 n) 24)).alloc (.cells Try.zeroCells57 57)) := ⟨_, rfl⟩
  rw [← hwyw1] at M2 M3 M4 HB ⊢
  clear hwyw1
  repeat ((fail_if_success (with_reducible (show wpList _ _ _ _ _ _))); go_step)
  refine wpList_call (by rfl) rfl rfl (by rfl) ent88 (by rfl) (rorigin_any _) 7 rfl ?_
  rintro e uw1 ⟨rfl, hb⟩
  replace M2 := Lib.hid (M2.out.call hb)
  replace M3 := Lib.hid (M3.out.call hb)
  replace M4 := Lib.hid (M4.out.call hb)
  replace HB := Lib.hid (held_next HB.out hb)
  refine ⟨_, rfl, ?_⟩
  clear hb
  (try simp only [Act.put, sI, sS, sZ])
  refine wpList_alloc (by rfl) 57 rfl _ al57 5 rfl ?_
  intro yw2 hw2
  have hlt3 := M2.out.lt
  have hlt4 := M3.out.lt
  have hlt5 := M4.out.lt
  have hsz := HB.out.size
  replace M2 := Lib.hid (M2.out.alloc (.cells Try.zeroCells57 57))
  replace M3 := Lib.hid (M3.out.alloc (.cells Try.zeroCells57 57))
  replace M4 := Lib.hid (M4.out.alloc (.cells Try.zeroCells57 57))
  have M5 := Lib.hid (HasN.new uw1 Try.zeroCells57 57 88 (by kernel_rfl))
  replace HB := Lib.hid (HB.out.alloc hsz (.cells Try.zeroCells57 57))
  rw [← hw2] at M2 M3 M4 M5 HB; clear hw2
  (try simp only [Act.put, sI, sS, sZ])
  first | (obtain ⟨Zq, hZ, mZ⟩ := M5.out) | (obtain ⟨Zq, hZ, mZ⟩ := M5.out.toN (rp_size ..))
  refine wpList_store2 (by rfl) 57 _ _ rfl rfl (uw1.heap.size) (rp 0 1 1 0) rfl rfl 57 Zq mZ (by rw [rp_size]; kernel_rfl) (hZ.trans (rp_size ..).symm) (rp_one _ _ _ _) ?_
  intro yw6 hw2
  replace M2 := Lib.hid (M2.out.setRow_other (uw1.heap.size) (rp 0 1 1 0) (by omega))
  replace M3 := Lib.hid (M3.out.setRow_other (uw1.heap.size) (rp 0 1 1 0) (by omega))
  replace M4 := Lib.hid (M4.out.setRow_other (uw1.heap.size) (rp 0 1 1 0) (by omega))
  replace M5 := Lib.hid (mZ.setRow (rp 0 1 1 0))
  replace HB := Lib.hid (below_setRow HB.out (uw1.heap.size) (rp 0 1 1 0) (by omega))
  rw [← hw2] at M2 M3 M4 M5 HB; clear mZ hZ hw2
  refine wpList_nil ?_
  repeat ((fail_if_success (with_reducible (show wpList _ _ _ _ _ _))); go_step)
  (refine wpList_step (fun K hK => ?_); go_simp; (try go_bits); refine hK _ _ ?_; clear hK K)
  refine wpList_nil ?_
  repeat ((fail_if_success (with_reducible (show wpList _ _ _ _ _ _))); go_step)
  obtain ⟨B, hB5⟩ : ∃ B, B = uw1.heap.size := ⟨_, rfl⟩
  rw [← hB5] at M5 ⊢
  have hBl : w.heap.size + 1 + 1 < B := by omega
  clear hB5
  have H0 := Lib.hid (show n / 2 ^ 256 = 0 by rw [show (2 : Nat) ^ 256 = 115792089237316195423570985008687907853269984665640564039457584007913129639936 by decide +kernel]; have := Hn.out; omega)
  go_loopw [6] (fun i wr => ∃ k X5 Y5 Z5 T5 : Nat, k ≤ 256 ∧ i = .int .i64 ((k : Int) - 1) ∧ Rq X5 Y5 Z5 T5 (mulA finv fd p (n / 2 ^ k)) ∧ Has wr w.heap.size (rp X Y Z T) 57 ∧ Has wr (w.heap.size + 1) (k32 n) 24 ∧ HasN wr (w.heap.size + 1 + 1) 88 57 ∧ Has wr B (rp X5 Y5 Z5 T5) 57 ∧ Below w.heap.size w wr) (fun i _ => (intOf i + 1).toNat)
  case atStart => exact ⟨256, 0, 1, 1, 0, by omega, rfl, by rw [H0.out]; exact zero_rq, M2.out, M3.out, M4.out, M5.out, HB.out⟩
  case round =>
    clear M2 M3 M4 M5 HB
    obtain ⟨k, X5, Y5, Z5, T5, hk, rfl, hq, m2, m3, m4, m5, hB⟩ := hrel
    have M2 := Lib.hid m2; clear m2
    have M3 := Lib.hid m3; clear m3
    have M4 := Lib.hid m4; clear m4
    have M5 := Lib.hid m5; clear m5
    have HB := Lib.hid hB; clear hB
    have Hq := Lib.hid hq; clear hq
    rcases Nat.eq_zero_or_pos k with hk0 | hk0
    · subst hk0
      repeat ((fail_if_success (with_reducible (show wpList _ _ _ _ _ _))); go_step)
      iterate 2 (refine wpList_step (fun K hK => ?_); go_simp; (try go_bits); refine hK _ _ ?_; clear hK K)
      refine wpList_nil ?_
      repeat ((fail_if_success (with_reducible (show wpList _ _ _ _ _ _))); go_step)
      refine wpList_load (by rfl) 57 _ rfl (B) rfl 57 (rp X5 Y5 Z5 T5) M5.out Try.underlying57 rfl (by rw [rp_size]; kernel_rfl) 28 rfl ?_
      (try simp only [Act.put, sI, sS, sZ])
      first | (obtain ⟨Zq, hZ, mZ⟩ := M4.out) | (obtain ⟨Zq, hZ, mZ⟩ := M4.out.toN (rp_size ..))
      refine wpList_store2 (by rfl) 57 _ _ rfl rfl (w.heap.size + 1 + 1) (rp X5 Y5 Z5 T5) rfl rfl 57 Zq mZ (by rw [rp_size]; kernel_rfl) (hZ.trans (rp_size ..).symm) (rp_one _ _ _ _) ?_
      intro yw101 hw2
      replace M2 := Lib.hid (M2.out.setRow_other (w.heap.size + 1 + 1) (rp X5 Y5 Z5 T5) (by omega))
      replace M3 := Lib.hid (M3.out.setRow_other (w.heap.size + 1 + 1) (rp X5 Y5 Z5 T5) (by omega))
      replace M5 := Lib.hid (M5.out.setRow_other (w.heap.size + 1 + 1) (rp X5 Y5 Z5 T5) (by omega))
      replace M4 := Lib.hid (mZ.setRow (rp X5 Y5 Z5 T5))
      replace HB := Lib.hid (below_setRow HB.out (w.heap.size + 1 + 1) (rp X5 Y5 Z5 T5) (by omega))
      rw [← hw2] at M2 M3 M5 M4 HB; clear mZ hZ hw2
      refine wpList_nil ?_
      have hfin := Hq.out
      rw [Nat.pow_zero, Nat.div_one] at hfin
      go_wp2_with fail
      exact bodyPost_ret (v := .agg (rp X5 Y5 Z5 T5)) (results_cell_row (t := 57) (by rfl) _ _ (w.heap.size + 1 + 1) _ _ _ rfl M4.out Try.underlying57 rfl (by rw [rp_size]; kernel_rfl)) rfl ⟨X5, Y5, Z5, T5, hfin, rfl, HB.out⟩
    · obtain ⟨j, rfl⟩ : ∃ j, k = j + 1 := ⟨k - 1, by omega⟩
      rw [show ((j + 1 : Nat) : Int) - 1 = (j : Int) by omega]
      have hj : j < 256 := by omega
      clear hk0 hk
      repeat ((fail_if_success (with_reducible (show wpList _ _ _ _ _ _))); go_step)
      iterate 2 (refine wpList_step (fun K hK => ?_); go_simp; (try go_bits); refine hK _ _ ?_; clear hK K)
      refine wpList_nil ?_
      repeat ((fail_if_success (with_reducible (show wpList _ _ _ _ _ _))); go_step)
      refine wpList_load (by rfl) 57 _ rfl (B) rfl 57 (rp X5 Y5 Z5 T5) M5.out Try.underlying57 rfl (by rw [rp_size]; kernel_rfl) 12 rfl ?_
      (try simp only [Act.put, sI, sS, sZ])
      refine wpList_load (by rfl) 57 _ rfl (B) rfl 57 (rp X5 Y5 Z5 T5) M5.out Try.underlying57 rfl (by rw [rp_size]; kernel_rfl) 13 rfl ?_
      (try simp only [Act.put, sI, sS, sZ])
      refine wpList_call (by rfl) rfl rfl (by rfl) ent52 (by rfl) (Hadd.out X5 Y5 Z5 T5 X5 Y5 Z5 T5 _ _ Hq.out Hq.out _) 14 rfl ?_
      rintro e uw101 ⟨X6, Y6, Z6, T6, hq6, rfl, hb⟩
      replace M2 := Lib.hid (M2.out.call hb)
      replace M3 := Lib.hid (M3.out.call hb)
      replace M4 := Lib.hid (M4.out.call hb)
      replace M5 := Lib.hid (M5.out.call hb)
      replace HB := Lib.hid (held_next HB.out hb)
      refine ⟨_, rfl, ?_⟩
      clear hb
      (try simp only [Act.put, sI, sS, sZ])
      first | (obtain ⟨Zq, hZ, mZ⟩ := M5.out) | (obtain ⟨Zq, hZ, mZ⟩ := M5.out.toN (rp_size ..))
      refine wpList_store2 (by rfl) 57 _ _ rfl rfl (B) (rp X6 Y6 Z6 T6) rfl rfl 57 Zq mZ (by rw [rp_size]; kernel_rfl) (hZ.trans (rp_size ..).symm) (rp_one _ _ _ _) ?_
      intro yw101 hw2
      replace M2 := Lib.hid (M2.out.setRow_other (B) (rp X6 Y6 Z6 T6) (by omega))
      replace M3 := Lib.hid (M3.out.setRow_other (B) (rp X6 Y6 Z6 T6) (by omega))
      replace M4 := Lib.hid (M4.out.setRow_other (B) (rp X6 Y6 Z6 T6) (by omega))
      replace M5 := Lib.hid (mZ.setRow (rp X6 Y6 Z6 T6))
      replace HB := Lib.hid (below_setRow HB.out (B) (rp X6 Y6 Z6 T6) (by omega))
      rw [← hw2] at M2 M3 M4 M5 HB; clear mZ hZ hw2
      refine wpList_nil ?_
      rw [← fld.mul_add p Hop.out] at hq6
      have Hq6 := Lib.hid hq6; clear hq6
      repeat ((fail_if_success (with_reducible (show wpList _ _ _ _ _ _))); go_step)
      have h1 := M3.out.cell (j / 8) (by omega)
      have x0 := (dg_bd 256 n (j / 8) (by decide)).1
      have x1 := (dg_bd 256 n (j / 8) (by decide)).2
      have htd := td8 j
      have htm := tm8 j
      have hb2 := bit_int n j
      obtain ⟨x, hx⟩ : ∃ x, x = dg 256 n (j / 8) := ⟨_, rfl⟩
      rw [← hx] at h1 x0 x1
      have k2 : (0 : Int) ≤ (j : Int) / 8 := by omega
      have k3 : (j : Int) / 8 < 32 := by omega
      have k4 : (0 : Int) ≤ (j : Int) % 8 := by omega
      have k5 : (j : Int) % 8 < 8 := by omega
      rcases Nat.mod_two_eq_zero_or_one (n / 2 ^ j) with hb | hb
      · have hbit : (x / 2 ^ (j % 8)).tmod 2 = 0 := hb2 0 x hx hb
        have hs := step_even n j p hb
        clear hb2
        have Hx := Lib.hid hx; clear hx
        have Hs := Lib.hid hs; clear hs
        have Hb := Lib.hid hb; clear hb
        iterate 10 (refine wpList_step (fun K hK => ?_); go_simp; (try go_bits); refine hK _ _ ?_; clear hK K)
        refine wpList_nil ?_
        clear h1 x0 x1 htd htm k2 k3 k4 k5 hbit
        repeat ((fail_if_success (with_reducible (show wpList _ _ _ _ _ _))); go_step)
        iterate 3 (refine wpList_step (fun K hK => ?_); go_simp; (try go_bits); refine hK _ _ ?_; clear hK K)
        refine wpList_nil ?_
        go_roundw
        case measure => simp [intOf]
        case rel => exact ⟨_, _, _, _, _, _, _, _, _, _, _, _, _, _, _, _, _, _, _, _, _, ⟨j, X6, Y6, Z6, T6, by omega, rfl, by rw [← Hs.out]; exact Hq6.out, M2.out, M3.out, M4.out, M5.out, HB.out⟩, rfl⟩
      · have hbit : (x / 2 ^ (j % 8)).tmod 2 = 1 := hb2 1 x hx hb
        have hs := step_odd n j p hb
        clear hb2
        have Hx := Lib.hid hx; clear hx
        have Hs := Lib.hid hs; clear hs
        have Hb := Lib.hid hb; clear hb
        iterate 10 (refine wpList_step (fun K hK => ?_); go_simp; (try go_bits); refine hK _ _ ?_; clear hK K)
        refine wpList_nil ?_
        clear h1 x0 x1 htd htm k2 k3 k4 k5 hbit
        repeat ((fail_if_success (with_reducible (show wpList _ _ _ _ _ _))); go_step)
        refine wpList_load (by rfl) 57 _ rfl (B) rfl 57 (rp X6 Y6 Z6 T6) M5.out Try.underlying57 rfl (by rw [rp_size]; kernel_rfl) 25 rfl ?_
        (try simp only [Act.put, sI, sS, sZ])
        refine wpList_load (by rfl) 57 _ rfl (w.heap.size) rfl 57 (rp X Y Z T) M2.out Try.underlying57 rfl (by rw [rp_size]; kernel_rfl) 26 rfl ?_
        (try simp only [Act.put, sI, sS, sZ])
        refine wpList_call (by rfl) rfl rfl (by rfl) ent52 (by rfl) (Hadd.out X6 Y6 Z6 T6 X Y Z T _ _ Hq6.out Hp.out _) 27 rfl ?_
        rintro e uw102 ⟨X7, Y7, Z7, T7, hq7, rfl, hb⟩
        replace M2 := Lib.hid (M2.out.call hb)
        replace M3 := Lib.hid (M3.out.call hb)
        replace M4 := Lib.hid (M4.out.call hb)
        replace M5 := Lib.hid (M5.out.call hb)
        replace HB := Lib.hid (held_next HB.out hb)
        refine ⟨_, rfl, ?_⟩
        clear hb
        (try simp only [Act.put, sI, sS, sZ])
        first | (obtain ⟨Zq, hZ, mZ⟩ := M5.out) | (obtain ⟨Zq, hZ, mZ⟩ := M5.out.toN (rp_size ..))
        refine wpList_store2 (by rfl) 57 _ _ rfl rfl (B) (rp X7 Y7 Z7 T7) rfl rfl 57 Zq mZ (by rw [rp_size]; kernel_rfl) (hZ.trans (rp_size ..).symm) (rp_one _ _ _ _) ?_
        intro yw102 hw2
        replace M2 := Lib.hid (M2.out.setRow_other (B) (rp X7 Y7 Z7 T7) (by omega))
        replace M3 := Lib.hid (M3.out.setRow_other (B) (rp X7 Y7 Z7 T7) (by omega))
        replace M4 := Lib.hid (M4.out.setRow_other (B) (rp X7 Y7 Z7 T7) (by omega))
        replace M5 := Lib.hid (mZ.setRow (rp X7 Y7 Z7 T7))
        replace HB := Lib.hid (below_setRow HB.out (B) (rp X7 Y7 Z7 T7) (by omega))
        rw [← hw2] at M2 M3 M4 M5 HB; clear mZ hZ hw2
        refine wpList_nil ?_
        rw [Hs.out] at hq7
        have Hq7 := Lib.hid hq7; clear hq7
        repeat ((fail_if_success (with_reducible (show wpList _ _ _ _ _ _))); go_step)
        iterate 3 (refine wpList_step (fun K hK => ?_); go_simp; (try go_bits); refine hK _ _ ?_; clear hK K)
        refine wpList_nil ?_
        go_roundw
        case measure => simp [intOf]
        case rel => exact ⟨_, _, _, _, _, _, _, _, _, _, _, _, _, _, _, _, _, _, _, _, _, ⟨j, X7, Y7, Z7, T7, by omega, rfl, Hq7.out, M2.out, M3.out, M4.out, M5.out, HB.out⟩, rfl⟩
end Go.Proofs.Ytjiagjonlcadiaa
end
section
namespace Go
open Go.RowKit
variable {P : Program} {ops : Array Oper} {Q : Exit → Act → World → Prop} {l n : Nat} {a : Act} {w : World}

/-- no operation puts a call off -/
def noDefer (ops : Array Oper) : Bool := ops.all fun o => match o.op with | .defer _ => false | _ => true
theorem noDefer_at (h : noDefer ops = true) (i : Nat) (o : Oper) (hi : ops[i]? = some o) : ∀ c, o.op ≠ .defer c := fun c hc => by
  have h1 := Array.all_eq_true_iff_forall_mem.1 h o (Array.mem_of_getElem? hi)
  rw [hc] at h1
  cases h1

theorem oper_in_round {o : Oper} (hd : ∀ c, o.op ≠ .defer c) {K : Act → World → Prop} (h : o.wp P a w K Q) : o.wpIn (Fence.wide.inRound l) n P a w K Q := by
  refine ⟨fun _ _ => trivial, ?_⟩
  show o.uponIn _ n P a K Q ((o.semAt (some l) a.eval).run P w)
  rw [Oper.semAt_some l _ o hd]
  unfold Oper.wp at h
  generalize (execOp a.eval o).run P w = r at *
  cases r with
  | ok x w' =>
    cases x with
    | value v => exact h
    | skip => exact h
    | defer d => exact h
    | enter f args => exact ⟨fun e => (by cases e), CallsIn.inRound l (callsIn_wide.2 h)⟩
    | row row args => exact ⟨fun e => (by cases e), fun c cs _ => let ⟨v, w2, hr, hs⟩ := h c cs; ⟨v, w2, hr, stepsIn_wide.2 hs⟩⟩
    | _ => exact h.elim
  | halt x w' => cases x <;> exact h

theorem op_in_round (hd : noDefer ops = true) (hQ : ¬ LetsOut Q) {i : Nat} {K : Act → World → Prop} (h : wpOp P ops Q i K a w) : wpOpIn (Fence.wide.inRound l) n P ops Q i K a w := by
  unfold wpOp at h
  unfold wpOpIn
  cases hi : ops[i]? with
  | none => simp only [hi] at h ⊢; exact h
  | some o =>
    simp only [hi] at h ⊢
    split
    · rename_i hw
      rw [if_pos hw] at h
      rcases h with h | ⟨_, h⟩
      · exact oper_in_round (noDefer_at hd i o hi) h
      · exact (hQ h).elim
    · rename_i hw
      rw [if_neg hw] at h
      exact ⟨fun _ _ => trivial, h⟩

theorem any_in_round (hd : noDefer ops = true) (hQ : ¬ LetsOut Q) {md : Region.Mode} : ∀ (f : Nat) (listed : Array Bool) (a : Act) (w : World), wpAny P md ops Q f listed a w → wpAnyIn (Fence.wide.inRound l) n P md ops Q f listed a w := by
  intro f
  induction f with
  | zero => intro _ _ _ h; exact h
  | succ f ih => intro listed a w h; exact ⟨h.1, fun j hj => op_in_round hd hQ (wpOp_mono (fun a' w' h' => ih _ a' w' h') (h.2 j hj))⟩

theorem list_in_round (hd : noDefer ops = true) (hQ : ¬ LetsOut Q) : ∀ (rest : List Oper) (_ : ∀ o ∈ rest, o ∈ ops) (a : Act) (w : World), wpList P ops Q rest a w → wpListIn (Fence.wide.inRound l) n P ops Q rest a w := by
  intro rest
  induction rest with
  | nil => intro _ _ _ h; exact h
  | cons o rest ih =>
    intro hr a w h
    unfold wpList at h
    unfold wpListIn
    split
    · rename_i hw
      rw [if_pos hw] at h
      rcases h with h | ⟨_, h⟩
      · obtain ⟨i, hi⟩ := Array.getElem?_of_mem (hr o (by simp))
        exact oper_in_round (noDefer_at hd i o hi) (Oper.wp_mono (fun a' w' h' => ih (fun o' ho' => hr o' (by simp [ho'])) a' w' h') h)
      · exact (hQ h).elim
    · rename_i hw
      rw [if_neg hw] at h
      exact ⟨fun _ _ => trivial, ih (fun o' ho' => hr o' (by simp [ho'])) _ _ h⟩

/-- a region that does not draw, in a round -/
theorem wpr_lit {l0 : List Oper} (hd : noDefer l0.toArray = true) (h : wpList P l0.toArray Q l0 a w) (hQ : ¬ LetsOut Q := by exact fun ⟨_, _, h⟩ => h) : wpListIn (Fence.wide.inRound l) n P l0.toArray Q l0 a w :=
  list_in_round hd hQ l0 (fun o ho => by simpa using ho) a w h
theorem wpr_noPanic {F : Fence} {id : Nat} {b : Bool} (h : (Code.region id ops b).wpIn F n P (NoPanic Q) a w) : (Code.region id ops b).wpIn F n P Q a w := wpIn_mono h NoPanic.imp
theorem wpr_goS {id : Nat} (S : World → Prop) (f N : Nat) (l0 : Array Bool) (hm : (P.follows .mixedOrders && noDefer ops) = true) (hN : ops.size = N) (hl : Array.replicate N false = l0)
    (h : wpBut P .any ops Q f S N l0 a w.drew) (hQ : ¬ LetsOut Q := by exact fun ⟨_, _, h⟩ => h) : (Code.region id ops true).wpIn (Fence.wide.inRound l) n P Q a w := by
  obtain ⟨h1, h2⟩ := (Bool.and_eq_true _ _).mp hm
  refine wpIn_region_any h1 (any_in_round h2 hQ _ _ _ _ (wpAny_of_but (f := f) (S := S) _ _ _ _ ?_))
  subst hl; subst hN; exact h

/-- nothing but block B has turned -/
structure But (B : Nat) (A W : World) : Prop where
  os : W.os = A.os
  tape : W.tape = A.tape
  output : W.output = A.output
  size : A.heap.size ≤ W.heap.size
  block : ∀ k, k < A.heap.size → k ≠ B → W.heap[k]? = A.heap[k]?
theorem But.refl (B : Nat) (W : World) : But B W W := ⟨rfl, rfl, rfl, Nat.le_refl _, fun _ _ _ => rfl⟩
theorem But.call {B : Nat} {A W W' : World} (h : But B A W) (hb : Below W.heap.size W W') : But B A W' :=
  ⟨hb.os.trans h.os, hb.tape.trans h.tape, hb.output.trans h.output, Nat.le_trans h.size hb.size, fun k hk hn => (hb.block k (Nat.lt_of_lt_of_le hk h.size)).trans (h.block k hk hn)⟩
theorem But.drew {B : Nat} {A W : World} (h : But B A W) : But B A W.drew := ⟨h.os, h.tape, h.output, h.size, h.block⟩
theorem But.setRow_other {B : Nat} {A W : World} (h : But B A W) (g : Nat) (c : Array Value) (hg : g = B) : But B A (W.setRow g c) := by
  have h2 := Go.Proofs.Ytjiagjonlcadiaa.below_setRow (Below.refl 0 W) g c (Nat.zero_le _)
  exact ⟨h2.os.trans h.os, h2.tape.trans h.tape, h2.output.trans h.output, Nat.le_trans h.size h2.size, fun k hk hn => (Go.setRow_other W g k c (by omega)).trans (h.block k hk hn)⟩
theorem But.others {B : Nat} {A W : World} (h : But B A W) {c : Array Value} {t : TypeId} (hB : Go.Proofs.Ytjiagjonlcadiaa.Has A B c t) : KeepsOthers A W :=
  ⟨h.size, fun k o hk ho => (h.block k (Array.getElem?_eq_some_iff.1 hk).1 (fun e => by
    subst e
    have e2 : some o = some (.cells c t (0, 0)) := hk.symm.trans hB
    obtain rfl := Option.some.inj e2
    cases ho)).trans hk⟩

/-- two blocks lie as they lay -/
def Keep2 (b1 b2 : Nat) (A W : World) : Prop := W.heap[b1]? = A.heap[b1]? ∧ W.heap[b2]? = A.heap[b2]?
theorem keep2_t {b1 b2 : Nat} {A B C : World} (h : Keep2 b1 b2 A B) (k : Keep2 b1 b2 B C) : Keep2 b1 b2 A C := ⟨k.1.trans h.1, k.2.trans h.2⟩
theorem keep2_b {b1 b2 : Nat} {w : World} (h1 : b1 < w.heap.size) (h2 : b2 < w.heap.size) (W : World) (l : Nat) (o o' : Obj) (hl : w.heap.size ≤ l) (_ : W.heap[l]? = some o) (_ : o.isCells = false) (_ : o.isWalk = false) : Keep2 b1 b2 W (W.putObj l o') := by
  have h (k : Nat) (hk : k ≠ l) : (W.putObj l o').heap[k]? = W.heap[k]? := by
    show (W.heap.setIfInBounds l o')[k]? = _
    rw [Array.getElem?_setIfInBounds_ne (fun e => hk e.symm)]
  exact ⟨h b1 (by omega), h b2 (by omega)⟩
theorem But.keep2 {B b1 b2 : Nat} {A W : World} (h : But B A W) (n1 : b1 ≠ B) (n2 : b2 ≠ B) (l1 : b1 < A.heap.size) (l2 : b2 < A.heap.size) : Keep2 b1 b2 A W := ⟨h.block b1 l1 n1, h.block b2 l2 n2⟩

/-- calls of a function value with bound arguments -/
theorem run_call_bound {o : Oper} {c : Call} {x : Operand} {g : FuncId} {bs : Array Value} {vl : List Value} (ho : o.op = .call c) (hc : c.callee = .value x) (hx : a.eval x = .func (.func g) bs #[]) (he : Enters P g)
    (hv : c.args.toList.map a.eval = vl) (w : World) : (execOp a.eval o).run P w = .ok (.enter g (bs ++ vl.toArray)) w := by
  obtain ⟨fn, h1, h2, h3⟩ := he
  have h4 : fn.name ≠ "runtime.NumGoroutine" := by simpa using h2
  have h5 : c.args.map a.eval = vl.toArray := by apply Array.ext'; rw [← hv]; simp
  unfold execOp
  simp only [ho, resolve, hc, hx, h5]
  cases hb : fn.body with
  | none => rw [hb] at h3; cases h3
  | some code => simp [Deferred.ofValue, invoke, callFunc, h1, h4, hb]
theorem wp_call_bound {o : Oper} {c : Call} {x : Operand} {g : FuncId} {bs : Array Value} {vl : List Value} {K : Act → World → Prop} {R : Ending → World → Prop} (ho : o.op = .call c) (hc : c.callee = .value x) (hx : a.eval x = .func (.func g) bs #[]) (he : Enters P g)
    (hv : c.args.toList.map a.eval = vl) (h : Calls P g (bs ++ vl.toArray) w R) (hR : ∀ e w', R e w' → ∃ v, e = .returned v ∧ K (a.put o.dst v) w') : o.wp P a w K Q := by
  unfold Oper.wp
  rw [run_call_bound ho hc hx he hv w, Oper.upon_enter]
  refine h.mono fun e w' hr => ?_
  obtain ⟨v, rfl, hK⟩ := hR e w' hr
  exact hK
theorem go_callB {md : Region.Mode} {f N : Nat} {S : World → Prop} {listed : Array Bool} (i : Nat) (d : Tmp) (l' : Array Bool) {oi : Oper} {c : Call} {x : Operand} {g : FuncId} {bs : Array Value} {vl : List Value} {R : Ending → World → Prop} (hi : ops[i]? = some oi) (hd : oi.dst = some d) (hl : listed.setIfInBounds i true = l') (hw : Region.wanted oi (yielded ops a.tmps) = true) (ho : oi.op = .call c) (hc : c.callee = .value x)
    (hx : a.eval x = .func (.func g) bs #[]) (he : Enters P g) (hv : c.args.toList.map a.eval = vl) (h : Calls P g (bs ++ vl.toArray) w R)
    (hR : ∀ e w', R e w' → ∃ v, e = .returned v ∧ (i ≠ f → S w') ∧ wpBut P md ops Q f S N l' { a with tmps := a.tmps.setIfInBounds d v } w') : BStep P md ops Q f S N listed a w i :=
  bstep_wp hi hw (wp_call_bound ho hc hx he hv h fun e w' hr => let ⟨v, h1, h2, h3⟩ := hR e w' hr; ⟨v, h1, h2, by rw [put_some hd, hl]; exact h3⟩)
theorem wpList_callB {rest : List Oper} {o : Oper} {c : Call} {x : Operand} {g : FuncId} {bs : Array Value} {vl : List Value} {R : Ending → World → Prop} (hw : Region.wanted o (yielded ops a.tmps) = true) (ho : o.op = .call c) (hc : c.callee = .value x)
    (hx : a.eval x = .func (.func g) bs #[]) (he : Enters P g) (hv : c.args.toList.map a.eval = vl) (h : Calls P g (bs ++ vl.toArray) w R)
    (d : Tmp) (hd : o.dst = some d) (hR : ∀ e w', R e w' → ∃ v, e = .returned v ∧ wpList P ops Q rest { a with tmps := a.tmps.setIfInBounds d v } w') : wpList P ops Q (o :: rest) a w :=
  wpList_step fun K hK => by
    rw [if_pos hw]
    exact Oper.wp_mono hK (wp_call_bound ho hc hx he hv h fun e w' hr => let ⟨v, h1, h2⟩ := hR e w' hr; ⟨v, h1, by rw [put_some hd]; exact h2⟩)

/-- stores into the middle of a block -/
theorem go_storem {md : Region.Mode} {f N : Nat} {S : World → Prop} {listed : Array Bool} (i : Nat) (l' : Array Bool) {oi : Oper} (hi : ops[i]? = some oi) (hd : oi.dst = none) (hl : listed.setIfInBounds i true = l') (hw : Region.wanted oi (yielded ops a.tmps) = true) (ty : TypeId) (x y : Operand) (ho : oi.op = .store ty x y)
    (b o : Nat) (cells : Array Value) (hx : a.eval x = .pointer (some ⟨b, o, none⟩)) (hy : a.eval y = .agg cells) (ht : w.there b o cells.size) (hs : (P.info? ty).map (·.size) = some cells.size) (h1 : cells.all (·.oneCell') = true)
    (h : ∀ w2, w2 = w.setCells b o cells.toList → (i ≠ f → S w2) ∧ wpBut P md ops Q f S N l' a w2) : BStep P md ops Q f S N listed a w i :=
  bstep_wp hi hw (wp_store_mid ty x y ho b o cells hx hy ht hs h1 (by have := h _ rfl; rw [put_none hd, hl]; exact this))

/-- a range over a function, walked with the wide fence; x's own slots are set by asg -/
theorem range_wide {α : Type} {g : Operand} {ps : Array Tmp} {assign body : Code} {n : Nat} (h1 : 1 ≤ n) {gf : Nat} {lb : Array Value} (hg : a.eval g = .func (.func gf) #[] lb) (eg : ∀ args w, (callFunc gf args).run P w = .ok (.enter gf args) w)
    {encs : α → Array Value} {Kp : World → World → Prop} {S Sp : List α → Prop} {N : Nat} {w0 : World} (hseq : SeqStopsK Fence.wide (n - 1) P gf lb encs Kp S Sp N w0)
    (hKt : ∀ {A B C : World}, Kp A B → Kp B C → Kp A C) (hKb : ∀ (W : World) (l : Nat) (o o' : Obj), w.heap.size ≤ l → W.heap[l]? = some o → o.isCells = false → o.isWalk = false → Kp W (W.putObj l o')) (hb0 : Below w0.heap.size w0 w) (hps : ∀ x, (encs x).size = ps.size)
    (I : List α → World → Prop) (hI : OwnFrom w.heap.size I) (h0 : I [] w) (asg : α → Array Value → Array Value)
    (hassign : ∀ (l : Nat) (x : α) (W : World) (K : Act → World → Prop), K { tmps := asg x ((ps.zip (encs x)).foldl (fun t (p, v) => t.setIfInBounds p v) a.tmps), defers := [] } W →
      assign.wpIn (Fence.wide.inRound l) (n - 1 - 1) P (Exit.then K (fun _ _ _ => False)) { tmps := (ps.zip (encs x)).foldl (fun t (p, v) => t.setIfInBounds p v) a.tmps, defers := [] } W)
    (hbody : ∀ (l : Nat) (pre : List α) (x : α) (W : World), I pre W → pre.length < N → body.wpIn (Fence.wide.inRound l) (n - 1 - 1) P (ownPostK Kp I (fun _ _ _ => False) (pre ++ [x]) W) { tmps := asg x ((ps.zip (encs x)).foldl (fun t (p, v) => t.setIfInBounds p v) a.tmps), defers := [] } W)
    (hdone : ∀ (D : Nat) (xs : List α) (W : World), w.heap.size ≤ D → S xs → I xs W → W.heap[D]? = some (.deferred (some [])) → Q .normal { a with defers := { target := .collected D, args := #[] } :: a.defers } W) :
    (Code.rangeFunc g ps assign body).wp P Q a w := by
  refine (wpIn_wide (n := n)).1 (wpIn_rangeFunc_ownF rfl h1 hg trivial eg hseq hKt hKb hb0 hps I (fun _ _ _ => False) hI (fun c s W W' row hs => hs.elim) h0 (fun x => { tmps := asg x ((ps.zip (encs x)).foldl (fun t (p, v) => t.setIfInBounds p v) a.tmps), defers := [] }) hassign hbody hdone (fun D c pre W _ _ h => h.elim))
end Go
namespace Go.Proofs.Ytjiagjonlcadiaa
open Go.RowKit
theorem But.grown {B : Nat} {A W W' : World} {r : Option Nat} (h : But B A W) (hg : W.grownBy W' r) (hr : ∀ k, r = some k → A.heap.size ≤ k) : But B A W' :=
  ⟨hg.os.trans h.os, hg.tape.trans h.tape, hg.output.trans h.output, Nat.le_trans h.size hg.size, fun k hk hn => (hg.block k (Nat.lt_of_lt_of_le hk h.size) (fun e => by have := hr k e.symm; omega)).trans (h.block k hk hn)⟩
theorem But.trans {B : Nat} {A W W' : World} (h : But B A W) (h2 : But B W W') : But B A W' :=
  ⟨h2.os.trans h.os, h2.tape.trans h.tape, h2.output.trans h.output, Nat.le_trans h.size h2.size, fun k hk hn => (h2.block k (Nat.lt_of_lt_of_le hk h.size) hn).trans (h.block k hk hn)⟩
/-- what the caller of a range knows: its own block, and that all others lie as they lay -/
def OwnI {β : Type} (A : World) (B : Nat) (t : TypeId) (C : β → Array Value → Prop) (s : β) (W : World) : Prop := ∃ c, C s c ∧ Has W B c t ∧ But B A W
theorem ownI_from {β : Type} {A : World} {B : Nat} {t : TypeId} {C : β → Array Value → Prop} (hB : B < A.heap.size) : OwnFrom A.heap.size (OwnI A B t C) :=
  fun _ W W' _ ⟨c, hc, hh, hb⟩ hg hr => ⟨c, hc, (hg.block B (Nat.lt_of_lt_of_le hB hb.size) (fun e => by have := (hr B e.symm).1; omega)).trans hh, But.grown hb hg (fun k e => (hr k e).1)⟩
theorem Has.but {A W : World} {B b : Nat} {c : Array Value} {t : TypeId} (h : Has A b c t) (hb : But B A W) (hn : b ≠ B) : Has W b c t := (hb.block b h.lt hn).trans h
theorem HasN.but {A W : World} {B b n : Nat} {t : TypeId} (h : HasN A b n t) (hb : But B A W) (hn : b ≠ B) : HasN W b n t := let ⟨c, hc, h⟩ := h; ⟨c, hc, h.but hb hn⟩
theorem below_but {A W w : World} {B n0 : Nat} (h : Below n0 w A) (hb : But B A W) (h0 : n0 ≤ B) (h1 : n0 ≤ A.heap.size) : Below n0 w W :=
  h.trans ⟨hb.os, hb.tape, hb.output, hb.size, fun k hk => hb.block k (by omega) (by omega)⟩
end Go.Proofs.Ytjiagjonlcadiaa
namespace Go.Proofs.Ytjiagjonlcadiaa
open Go.RowKit Go.Shelf

attribute [local go_sem] Oper.semAt_some

/-- what has come when k rounds are over -/
def upto {α : Type} (f : Nat → α) (k : Nat) : List α := (List.range k).map f
theorem upto_succ {α : Type} (f : Nat → α) (k : Nat) : upto f (k + 1) = upto f k ++ [f k] := by simp [upto, List.range_succ]
theorem upto_length {α : Type} (f : Nat → α) (k : Nat) : (upto f k).length = k := by simp [upto]
/-- from the last on -/
def bkf (len : Nat) (k : Nat) : Nat := len - 1 - k

set_option maxRecDepth 100000 in
set_option maxHeartbeats 2000000 in
theorem bkw1_in (F : Fence) (n : Nat) (h7 : F.fn 111) (hro : F.round = none) (hn : 1 ≤ n) (l Bs b len cap : Nat) (g : Nat → Int) (hreach : len ≤ 1000000) (J Jx : List Nat → World → Prop)
    (hY : ∀ (pre : List Nat) (x : Nat) (W : World), J pre W → pre.length < len → YieldAt F (n - 1) Try.prog l #[.int .i64 (x : Int), .int .u8 (g x)] W fun e W' =>
      (e = .returned (.bool true) ∧ J (pre ++ [x]) W' ∧ Keep2 Bs b W W') ∨ (e = .returned (.bool false) ∧ Jx (pre ++ [x]) W'))
    (W : World) (hBs : W.cell? ⟨Bs, 0, none⟩ = some (.slice (some ⟨b, 0, none⟩) len cap)) (hc : ∀ j, j < len → W.cell? ⟨b, j, none⟩ = some (.int .u8 (g j))) (h0 : J [] W) :
    CallsIn F n Try.prog 111 #[.func (.yield l) #[] #[], .pointer (some ⟨Bs, 0, none⟩)] W fun e W' => (∃ v, e = .returned v) ∧
      ((∃ ys, ys = upto (bkf len) len ∧ J ys W') ∨ (∃ pre, (∃ k, k ≤ len ∧ pre = upto (bkf len) k) ∧ Jx pre W')) := by
  refine callsIn_of_wp Try.func111 rfl h7 ?_ hro
  simp only [Try.ntmps111, List.size_toArray, List.length_cons, List.length_nil, Nat.reduceAdd, Nat.reduceSub, Array.replicate_succ, Array.replicate_zero, List.push_toArray, List.append_toArray, List.nil_append, List.cons_append]
  gi_wp2
  gi_loopw [3] (fun i wr => ∃ m : Nat, m ≤ len ∧ i = .int .i64 ((m : Int) - 1) ∧ J (upto (bkf len) (len - m)) wr ∧ Keep2 Bs b W wr)
    (fun i _ => (intOf i + 1).toNat)
  case atStart => exact ⟨len, Nat.le_refl _, rfl, by rw [Nat.sub_self]; exact h0, rfl, rfl⟩
  case round =>
    obtain ⟨m, hm, rfl, hJs, hnx⟩ := hrel
    have hBs' := (World.cell?_of_block (w := W) (w' := wr) (a := ⟨Bs, 0, none⟩) hnx.1).trans hBs
    rcases Nat.eq_zero_or_pos m with h0m | h0m
    · subst h0m
      gi_wp2
      go_end0
      exact ⟨⟨_, rfl⟩, .inl ⟨_, rfl, hJs⟩⟩
    · obtain ⟨j, rfl⟩ : ∃ j, m = j + 1 := ⟨m - 1, by omega⟩
      rw [show ((j + 1 : Nat) : Int) - 1 = (j : Int) by omega]
      have hj : j < len := by omega
      have hcx : wr.cell? ⟨b, j, none⟩ = some (.int .u8 (g j)) := (World.cell?_of_block (w := W) (w' := wr) (a := ⟨b, j, none⟩) hnx.2).trans (hc j hj)
      obtain ⟨fn, tmps, assign, body, hy, hR⟩ := hY _ j wr hJs (by rw [upto_length]; omega)
      have hlast : upto (bkf len) (len - (j + 1)) ++ [j] = upto (bkf len) (len - j) := by
        rw [show len - j = len - (j + 1) + 1 by omega, upto_succ]
        unfold bkf
        rw [show len - 1 - (len - (j + 1)) = j by omega]
      rw [hlast] at hR
      gi_wp2
      refine hR.mono ?_
      rintro e W3 (⟨rfl, hJ3, hk3⟩ | ⟨rfl, hJx3⟩)
      · gi_wp2
        go_roundw
        case rel => exact ⟨j, by omega, rfl, hJ3, keep2_t hnx hk3⟩
        case measure => simp [intOf]
      · gi_wp2
        refine bodyPost_ret (results_none rfl _ _ _) rfl ?_
        exact ⟨⟨_, rfl⟩, .inr ⟨_, ⟨len - j, by omega, rfl⟩, hJx3⟩⟩

set_option maxRecDepth 100000 in
set_option maxHeartbeats 1000000 in
theorem bkw_any (a : Option Addr) (len cap : Nat) (w : World) :
    Calls Try.prog 94 #[.slice a len cap] w fun e w' => e = .returned (.func (.func 111) #[] #[.pointer (some ⟨w.heap.size, 0, none⟩)]) ∧ w' = w.alloc (.cells #[.slice a len cap] 22) := by
  refine (callsIn_wide (n := 0)).1 (callsIn_of_wp Try.func94 rfl trivial ?_ rfl)
  simp only [Try.ntmps94, List.size_toArray, List.length_cons, List.length_nil, Nat.reduceAdd, Nat.reduceSub, Array.replicate_succ, Array.replicate_zero, List.push_toArray, List.append_toArray, List.nil_append, List.cons_append]
  gi_wp2
  go_ret
  exact ⟨rfl, rfl⟩

theorem bkw_stops (n : Nat) (hn : 1 ≤ n) (Bs b len cap : Nat) (g : Nat → Int) (hreach : len ≤ 1000000) (w : World) (hbs : Bs < w.heap.size) (hb : b < w.heap.size)
    (hBs : w.cell? ⟨Bs, 0, none⟩ = some (.slice (some ⟨b, 0, none⟩) len cap)) (hc : ∀ j, j < len → w.cell? ⟨b, j, none⟩ = some (.int .u8 (g j))) :
    SeqStopsK Fence.wide n Try.prog 111 #[.pointer (some ⟨Bs, 0, none⟩)] (fun x : Nat => #[Value.int .i64 (x : Int), Value.int .u8 (g x)]) (Keep2 Bs b) (fun ys => ys = upto (bkf len) len) (fun pre => ∃ k, k ≤ len ∧ pre = upto (bkf len) k) len w := fun l J Jx W hW _ _ hY h0 =>
  bkw1_in Fence.wide n trivial rfl hn l Bs b len cap g hreach J Jx hY W ((hW.cell (p := ⟨Bs, 0, none⟩) hbs).trans hBs) (fun j hj => (hW.cell (p := ⟨b, j, none⟩) hb).trans (hc j hj)) h0
end Go.Proofs.Ytjiagjonlcadiaa
end
section
namespace Go
open Go.RowKit
variable {P : Program} {ops : Array Oper} {Q : Exit → Act → World → Prop} {S : World → Prop} {a : Act} {w : World}

theorem run_loadAt_one (w : World) (b : Nat) (ty : TypeId) (v : Value) (d : TypeDesc) (hc : w.cell? ⟨b, 0, none⟩ = some v) (hu : P.underlying ty = some d) (hd : d.isRow = false) : (Instr.loadAt ty (.pointer (some ⟨b, 0, none⟩))).run P w = .ok v w := by
  have hag : (isAgg ty).run P w = .ok false w := by
    cases d <;> first | (simp [isAgg, run_underlying hu]; done) | (simp [TypeDesc.isRow] at hd)
  simp [Instr.loadAt, Instr.sureAddr, loadVar, hag, hc]
theorem yieldsIf_load1 {o : Oper} (hw : Region.wanted o (yielded ops a.tmps) = true) (ty : TypeId) (x : Operand) (ho : o.op = .load ty x) (b : Nat) (hx : a.eval x = .pointer (some ⟨b, 0, none⟩)) (v : Value) (d : TypeDesc)
    (hS : ∀ w, S w → w.cell? ⟨b, 0, none⟩ = some v) (hu : P.underlying ty = some d) (hd : d.isRow = false) : YieldsIf P ops S o v a := by
  refine Or.inl ⟨hw, fun w hSw => ?_⟩
  unfold execOp
  simp only [ho, hx, Sem.run_bind, run_loadAt_one w b ty v d (hS w hSw) hu hd, Result.andThen_ok]
  rfl
theorem wpList_load1 {rest : List Oper} {o : Oper} (hw : Region.wanted o (yielded ops a.tmps) = true) (ty : TypeId) (x : Operand) (ho : o.op = .load ty x) (b : Nat) (hx : a.eval x = .pointer (some ⟨b, 0, none⟩)) (v : Value) (d : TypeDesc)
    (hS : w.cell? ⟨b, 0, none⟩ = some v) (hu : P.underlying ty = some d) (hd : d.isRow = false) (e : Tmp) (he : o.dst = some e) (h : wpList P ops Q rest { a with tmps := a.tmps.setIfInBounds e v } w) : wpList P ops Q (o :: rest) a w := by
  rcases yieldsIf_load1 (ops := ops) (S := fun w' => w' = w) hw ty x ho b hx v d (fun w' h' => by rw [h']; exact hS) hu hd with ⟨_, h1⟩ | ⟨h1, _⟩
  · refine wpList_step fun K hK => ?_
    rw [if_pos hw]
    unfold Oper.wp
    rw [h1 w rfl, Oper.upon_value]
    refine hK _ _ ?_
    rw [put_some he]; exact h
  · rw [hw] at h1; cases h1
/-- an index into a slice of rows -/
theorem yieldsIf_index {o : Oper} (hw : Region.wanted o (yielded ops a.tmps) = true) (t : TypeId) (x y : Operand) (ho : o.op = .indexAddr t x y) (b len cap : Nat) (hx : a.eval x = .slice (some ⟨b, 0, none⟩) len cap) (kd : IntKind) (i : Int) (hy : a.eval y = .int kd i) (j : Nat) (hj : i = (j : Int)) (hlt : j < len)
    (e : TypeId) (hu : P.underlying t = some (.slice e)) (inf : TypeInfo) (hi : P.info? e = some inf) (n : Nat) (hn : inf.size = n) (off : Nat) (hoff : off = j * n) : YieldsIf P ops S o (.pointer (some ⟨b, off, none⟩)) a := by
  refine Or.inl ⟨hw, fun w _ => ?_⟩
  subst hj; subst hn; subst hoff
  have hlt' : (j : Int) < (len : Int) := by omega
  unfold execOp
  simp [ho, hx, hy, Instr.indexAt, asIntOf, run_underlying hu, sizeOf, typeInfo, hi, hlt, Addr.add_mid]
theorem wpList_index {rest : List Oper} {o : Oper} (hw : Region.wanted o (yielded ops a.tmps) = true) (t : TypeId) (x y : Operand) (ho : o.op = .indexAddr t x y) (b len cap : Nat) (hx : a.eval x = .slice (some ⟨b, 0, none⟩) len cap) (kd : IntKind) (i : Int) (hy : a.eval y = .int kd i) (j : Nat) (hj : i = (j : Int)) (hlt : j < len)
    (e : TypeId) (hu : P.underlying t = some (.slice e)) (inf : TypeInfo) (hi : P.info? e = some inf) (n : Nat) (hn : inf.size = n) (off : Nat) (hoff : off = j * n) (d : Tmp) (hd : o.dst = some d) (h : wpList P ops Q rest { a with tmps := a.tmps.setIfInBounds d (.pointer (some ⟨b, off, none⟩)) } w) : wpList P ops Q (o :: rest) a w := by
  rcases yieldsIf_index (ops := ops) (S := fun w' => w' = w) hw t x y ho b len cap hx kd i hy j hj hlt e hu inf hi n hn off hoff with ⟨_, h1⟩ | ⟨h1, _⟩
  · refine wpList_step fun K hK => ?_
    rw [if_pos hw]
    unfold Oper.wp
    rw [h1 w rfl, Oper.upon_value]
    refine hK _ _ ?_
    rw [put_some hd]; exact h
  · rw [hw] at h1; cases h1
theorem wpList_make {rest : List Oper} {o : Oper} (hw : Region.wanted o (yielded ops a.tmps) = true) (t : TypeId) (x y : Operand) (ho : o.op = .makeSlice t x y) (v1 v2 : Value) (hx : a.eval x = v1) (hy : a.eval y = v2) (v : Value) (w2 : World) (hr : (Instr.makeSlice t v1 v2).run P w = .ok v w2)
    (d : Tmp) (hd : o.dst = some d) (h : wpList P ops Q rest { a with tmps := a.tmps.setIfInBounds d v } w2) : wpList P ops Q (o :: rest) a w := by
  refine wpList_step fun K hK => ?_
  rw [if_pos hw]
  unfold Oper.wp execOp
  simp only [ho, hx, hy, Sem.run_bind, hr, Result.andThen_ok]
  refine hK _ _ ?_
  rw [put_some hd]; exact h
theorem wpList_store1 {rest : List Oper} {o : Oper} (hw : Region.wanted o (yielded ops a.tmps) = true) (ty : TypeId) (x y : Operand) (ho : o.op = .store ty x y) (hd : o.dst = none) (b : Nat) (v : Value) (hx : a.eval x = .pointer (some ⟨b, 0, none⟩)) (hy : a.eval y = v)
    (old : Value) (t : TypeId) (hg : w.heap[b]? = some (.cells #[old] t (0, 0))) (hs : (P.info? ty).map (·.size) = some 1) (hv : v.oneCell' = true) (hc : v.cells = #[v]) (h : ∀ w2, w2 = w.setCell ⟨b, 0, none⟩ v → wpList P ops Q rest a w2) : wpList P ops Q (o :: rest) a w := by
  have h1 : Go.Proofs.Ytjiagjonlcadiaa.Has w b #[old] t := hg
  have h2 := run_storeCells_cells (P := P) b 0 [v] 0 w (fun j hj => by
    obtain rfl : j = 0 := by simpa using hj
    rw [h1.cellAt]; rfl) (fun j _ => h1.frozen _) (by simpa using hv)
  cases hi : P.info? ty with
  | none => rw [hi] at hs; cases hs
  | some i =>
    rw [hi] at hs
    have hs : i.size = 1 := Option.some.inj hs
    have hsv : (storeVar ty ⟨b, 0, none⟩ v).run P w = .ok () (w.setCell ⟨b, 0, none⟩ v) := by
      simp only [Nat.add_zero] at h2
      have h3 : (storeCells ⟨b, 0, none⟩ [v]).run P w = .ok () (w.setCell ⟨b, 0, none⟩ v) := h2
      simp [storeVar, sizeOf, typeInfo, hi, hc, hs, h3]
    refine wpList_step fun K hK => ?_
    rw [if_pos hw]
    unfold Oper.wp execOp
    simp only [ho, hx, hy, Instr.storeAt, Instr.sureAddr, Sem.run_bind, Sem.run_pure, Result.andThen_ok, hsv]
    refine hK _ _ ?_
    rw [put_none hd]; exact h _ rfl
end Go
namespace Go.Proofs.Ytjiagjonlcadiaa
open Go.RowKit Go.Lib

theorem HasN.setAt {w : World} {b n : Nat} {t : TypeId} (h : HasN w b n t) (o : Nat) (v : Value) : HasN (w.setCell ⟨b, o, none⟩ v) b n t := let ⟨c, hn, h⟩ := h; ⟨_, by rw [Array.size_setIfInBounds]; exact hn, h.setAt o v⟩
theorem HasN.setCells {b n : Nat} {t : TypeId} : ∀ (vs : List Value) (o : Nat) (w : World), HasN w b n t → HasN (w.setCells b o vs) b n t
  | [], _, _, h => h
  | v :: r, o, _, h => HasN.setCells r (o + 1) _ (h.setAt o v)
theorem below_setCells2 {B b : Nat} {a : World} (hb : B ≤ b) : ∀ (vs : List Value) (o : Nat) (w : World), Below B a w → Below B a (w.setCells b o vs)
  | [], _, _, h => h
  | v :: r, o, _, h => below_setCells2 hb r (o + 1) _ (h.setCell (by exact hb) v)

theorem Has.one {w : World} {b : Nat} {v : Value} {t : TypeId} (h : Has w b #[v] t) : w.cell? ⟨b, 0, none⟩ = some v := by rw [h.cellAt]; rfl
end Go.Proofs.Ytjiagjonlcadiaa
end
