/- Chapter 04: points are a group, without the document's answer. For all three keys the law returns true. -/
import Derived.RangeFuncNested
import Derived.RangeFuncBound
import Derived.RangeFuncCalls
import Derived.RangeFuncLeaves
import Derived.RangeFuncBox
import Derived.RangeFuncFrom
import Derived.OrdersIn
import Derived.TacticsIn
import Derived.LoopIn
import Derived.LoopNIn
import Derived.Shelf.Abstract
import Derived.Shelf.RegionOpen
import Derived.WalkKit
import Derived.OwnWalkIn
import Derived.TacticsInMore
import Derived.Laws.MakeOwn
import Derived.Maps.AppendAt
import Derived.Test.YtjiagjonlcadiaaCg4
section
namespace Go.Proofs.Ytjiagjonlcadiaa
open Go.RowKit Go.Lib

set_option maxRecDepth 100000 in
set_option linter.unusedSimpArgs false in
set_option maxHeartbeats 8000000 in
theorem pplus_any (x1 y1 c1 : Nat) (b1 : Bool) (X1 Y1 Z1 : Nat) (p1 : IsPt x1 y1 c1 b1 X1 Y1 Z1) (x2 y2 c2 : Nat) (b2 : Bool) (X2 Y2 Z2 : Nat) (p2 : IsPt x2 y2 c2 b2 X2 Y2 Z2) (w : World) :
    Calls Try.prog 51 #[.agg (pt x1 y1 c1 b1), .agg (pt x2 y2 c2 b2)] w (PtP (padd SL X1 Y1 Z1 X2 Y2 Z2).1 (padd SL X1 Y1 Z1 X2 Y2 Z2).2.1 (padd SL X1 Y1 Z1 X2 Y2 Z2).2.2 w) := by
  have hadd := fun d hd hr w => add_of d SL hd hr x1 y1 c1 b1 X1 Y1 Z1 p1 x2 y2 c2 b2 X2 Y2 Z2 p2 w
  obtain ⟨R, hR⟩ : ∃ R, R = padd SL X1 Y1 Z1 X2 Y2 Z2 := ⟨_, rfl⟩
  rw [← hR] at hadd ⊢
  clear hR p1 p2
  have Hadd := Lib.hid hadd; clear hadd
  go_enter Try.func51, Try.ntmps51
  repeat ((fail_if_success (with_reducible (show wpList _ _ _ _ _ _))); go_step)
  iterate 3 (refine wpList_step (fun K hK => ?_); go_simp; (try go_bits); refine hK _ _ ?_; clear hK K)
  refine wpList_nil ?_
  have M2 := Lib.hid (((Has.new w  (pt x1 y1 c1 b1) 53).alloc (.cells (pt x2 y2 c2 b2) 53)).alloc (.cells (#[.int .u64 0, .int .u64 0, .int .u64 0, .int .u64 0, .int .u64 0, .int .u64 0, .int .u64 0, .int .u64 0, .int .u64 0, .int .u64 0, .int .u64 0, .int .u64 0, .bool false] : Array Value) 53))
  have M3 := Lib.hid ((Has.new1 w (.cells (pt x1 y1 c1 b1) 53) (pt x2 y2 c2 b2) 53).alloc (.cells (#[.int .u64 0, .int .u64 0, .int .u64 0, .int .u64 0, .int .u64 0, .int .u64 0, .int .u64 0, .int .u64 0, .int .u64 0, .int .u64 0, .int .u64 0, .int .u64 0, .bool false] : Array Value) 53))
  have M4 := Lib.hid (HasN.new2 w (.cells (pt x1 y1 c1 b1) 53) (.cells (pt x2 y2 c2 b2) 53) (#[.int .u64 0, .int .u64 0, .int .u64 0, .int .u64 0, .int .u64 0, .int .u64 0, .int .u64 0, .int .u64 0, .int .u64 0, .int .u64 0, .int .u64 0, .int .u64 0, .bool false] : Array Value) 53 13 (by kernel_rfl))
  have HB := Lib.hid (below_3 w (.cells (pt x1 y1 c1 b1) 53) (.cells (pt x2 y2 c2 b2) 53) (.cells (#[.int .u64 0, .int .u64 0, .int .u64 0, .int .u64 0, .int .u64 0, .int .u64 0, .int .u64 0, .int .u64 0, .int .u64 0, .int .u64 0, .int .u64 0, .int .u64 0, .bool false] : Array Value) 53))
  obtain ⟨yw1, hwyw1⟩ : ∃ ww, ww = (((w.alloc (.cells (pt x1 y1 c1 b1) 53)).alloc (.cells (pt x2 y2 c2 b2) 53)).alloc (.cells (#[.int .u64 0, .int .u64 0, .int .u64 0, .int .u64 0, .int .u64 0, .int .u64 0, .int .u64 0, .int .u64 0, .int .u64 0, .int .u64 0, .int .u64 0, .int .u64 0, .bool false] : Array Value) 53)) := ⟨_, rfl⟩
  rw [← hwyw1] at M2 M3 M4 HB ⊢
  clear hwyw1
  repeat ((fail_if_success (with_reducible (show wpList _ _ _ _ _ _))); go_step)
  refine wp_region_noPanic ?_
  refine wp_region_go 4 5 #[ff,ff,ff,ff,ff] (by kernel_rfl) rfl rfl ?_
  intro W2 hW2
  rw [← hW2] at M2 M3 M4 HB
  clear hW2
  have M4N := Lib.hid (by first | exact M4.out | exact M4.out.toN (by first | exact e4_size _ | exact r22_size _ | exact k32_size _ | exact pt_size .. | exact rp_size ..) : HasN W2 (w.heap.size + 1 + 1) _ _)
  refine go_take2 1 6 #[ff,tt,ff,ff,ff] rfl rfl rfl (by kernel_rfl) (yieldsIf_load_row (by rfl) 53 _ rfl (w.heap.size) rfl 53 (pt x1 y1 c1 b1) (fun _ h => M2.out.below h M2.out.lt) Try.underlying53 rfl (by rw [pt_size]; kernel_rfl)) ((below_dr W2)) ?_
  (try simp only [sI, sS, sZ])
  refine go_take2 2 7 #[ff,tt,tt,ff,ff] rfl rfl rfl (by kernel_rfl) (yieldsIf_load_row (by rfl) 53 _ rfl (w.heap.size + 1) rfl 53 (pt x2 y2 c2 b2) (fun _ h => M3.out.below h M3.out.lt) Try.underlying53 rfl (by rw [pt_size]; kernel_rfl)) ((below_dr W2)) ?_
  (try simp only [sI, sS, sZ])
  refine wpBut_r1 (i := 0) (by kernel_rfl) ?_
  refine go_call 0 5 #[tt,tt,tt,ff,ff] rfl rfl rfl (by rfl) rfl rfl (by rfl) ent91 (by rfl) (slope_any _) ?_
  rintro e wW21 ⟨d, hd, hdr, rfl, hb⟩
  have hkW21 := held_next (below_dr W2) hb
  refine ⟨_, rfl, fun _ => hkW21, ?_⟩
  clear hb
  (try simp only [sI, sS, sZ])
  refine wpBut_r1 (i := 3) (by kernel_rfl) ?_
  refine go_call 3 8 #[tt,tt,tt,tt,ff] rfl rfl rfl (by rfl) rfl rfl (by rfl) ent92 (by rfl) (Hadd.out d hd hdr _) ?_
  rintro e wW22 ⟨px, py, pz, pb, hpt, rfl, hb⟩
  have hkW22 := held_next hkW21 hb
  refine ⟨_, rfl, fun _ => hkW22, ?_⟩
  clear hb
  (try simp only [sI, sS, sZ])
  refine wpBut_r1 (i := 4) (by kernel_rfl) ?_
  obtain ⟨Zq, hZ, mZ⟩ := M4N.out.below hkW22 M4N.out.lt
  have MZ := Lib.hid mZ; clear mZ
  have HZ := Lib.hid hZ; clear hZ
  refine go_store 4 #[tt,tt,tt,tt,tt] rfl rfl rfl (by rfl) 53 _ _ rfl (w.heap.size + 1 + 1) _ rfl rfl 53 Zq MZ.out (by rw [pt_size]; kernel_rfl) (HZ.out.trans (pt_size ..).symm) (pt_one _ _ _ _) ⟨fun h => (h rfl).elim, ?_⟩
  (try simp only [sI, sS, sZ])
  refine wpBut_done (by kernel_rfl) (NoPanic.normal ?_)
  replace M2 := Lib.hid ((M2.out.call hkW22).setRow_other (w.heap.size + 1 + 1) (pt px py pz pb) (by omega))
  replace M3 := Lib.hid ((M3.out.call hkW22).setRow_other (w.heap.size + 1 + 1) (pt px py pz pb) (by omega))
  clear M4 M4N
  have M4 := Lib.hid (MZ.out.setRow (pt px py pz pb)); clear MZ HZ
  replace HB := Lib.hid (below_setRow (held_next HB.out hkW22) (w.heap.size + 1 + 1) (pt px py pz pb) (by omega))
  obtain ⟨yw3, hwyw3⟩ : ∃ ww, ww = wW22.setRow (w.heap.size + 1 + 1) (pt px py pz pb) := ⟨_, rfl⟩
  rw [← hwyw3] at M2 M3 M4 HB ⊢
  clear hwyw3
  go_wp2_with fail
  exact bodyPost_ret (v := .agg (pt px py pz pb)) (results_cell_row (t := 53) (by rfl) _ _ (w.heap.size + 1 + 1) _ _ _ rfl M4.out Try.underlying53 rfl (by rw [pt_size]; kernel_rfl)) rfl ⟨px, py, pz, pb, hpt, rfl, HB.out⟩

/-- the opposite of a residue -/
def negP (X : Nat) : Nat := (0 % PP + (PP - X)) % PP
set_option maxRecDepth 100000 in
set_option linter.unusedSimpArgs false in
set_option maxHeartbeats 8000000 in
theorem pminus_any (x1 y1 c1 : Nat) (b1 : Bool) (X1 Y1 Z1 : Nat) (p1 : IsPt x1 y1 c1 b1 X1 Y1 Z1) (x2 y2 c2 : Nat) (b2 : Bool) (X2 Y2 Z2 : Nat) (p2 : IsPt x2 y2 c2 b2 X2 Y2 Z2) (w : World) :
    Calls Try.prog 53 #[.agg (pt x1 y1 c1 b1), .agg (pt x2 y2 c2 b2)] w (PtP (padd SL X1 Y1 Z1 (negP X2) Y2 Z2).1 (padd SL X1 Y1 Z1 (negP X2) Y2 Z2).2.1 (padd SL X1 Y1 Z1 (negP X2) Y2 Z2).2.2 w) := by
  have hpl := fun w => plain_any x2 y2 c2 b2 X2 Y2 Z2 p2 w
  have hplus := fun x y z b h w => pplus_any x1 y1 c1 b1 X1 Y1 Z1 p1 x y z b (negP X2) Y2 Z2 h w
  have hmi := minus_any
  have hmd := made_any
  obtain ⟨NX, hNX⟩ : ∃ n, n = negP X2 := ⟨_, rfl⟩
  rw [← hNX] at hplus ⊢
  have hnx : ∀ m u, u % PP = X2 → m % PP = (0 % PP + (PP - u % PP)) % PP → m % PP = NX := by
    intro m u h1 h2; rw [hNX, h2, h1]; rfl
  obtain ⟨R, hR⟩ : ∃ R, R = padd SL X1 Y1 Z1 NX Y2 Z2 := ⟨_, rfl⟩
  rw [← hR] at hplus ⊢
  clear hR hNX p1 p2
  have Hpl := Lib.hid hpl; clear hpl
  have Hplus := Lib.hid hplus; clear hplus
  have Hmi := Lib.hid hmi; clear hmi
  have Hmd := Lib.hid hmd; clear hmd
  have Hnx := Lib.hid hnx; clear hnx
  go_enter Try.func53, Try.ntmps53
  repeat ((fail_if_success (with_reducible (show wpList _ _ _ _ _ _))); go_step)
  iterate 3 (refine wpList_step (fun K hK => ?_); go_simp; (try go_bits); refine hK _ _ ?_; clear hK K)
  refine wpList_nil ?_
  have M2 := Lib.hid (((Has.new w  (pt x1 y1 c1 b1) 53).alloc (.cells (pt x2 y2 c2 b2) 53)).alloc (.cells (#[.int .u64 0, .int .u64 0, .int .u64 0, .int .u64 0, .int .u64 0, .int .u64 0, .int .u64 0, .int .u64 0, .int .u64 0, .int .u64 0, .int .u64 0, .int .u64 0, .bool false] : Array Value) 53))
  have M3 := Lib.hid ((Has.new1 w (.cells (pt x1 y1 c1 b1) 53) (pt x2 y2 c2 b2) 53).alloc (.cells (#[.int .u64 0, .int .u64 0, .int .u64 0, .int .u64 0, .int .u64 0, .int .u64 0, .int .u64 0, .int .u64 0, .int .u64 0, .int .u64 0, .int .u64 0, .int .u64 0, .bool false] : Array Value) 53))
  have M4 := Lib.hid (HasN.new2 w (.cells (pt x1 y1 c1 b1) 53) (.cells (pt x2 y2 c2 b2) 53) (#[.int .u64 0, .int .u64 0, .int .u64 0, .int .u64 0, .int .u64 0, .int .u64 0, .int .u64 0, .int .u64 0, .int .u64 0, .int .u64 0, .int .u64 0, .int .u64 0, .bool false] : Array Value) 53 13 (by kernel_rfl))
  have HB := Lib.hid (below_3 w (.cells (pt x1 y1 c1 b1) 53) (.cells (pt x2 y2 c2 b2) 53) (.cells (#[.int .u64 0, .int .u64 0, .int .u64 0, .int .u64 0, .int .u64 0, .int .u64 0, .int .u64 0, .int .u64 0, .int .u64 0, .int .u64 0, .int .u64 0, .int .u64 0, .bool false] : Array Value) 53))
  obtain ⟨yw1, hwyw1⟩ : ∃ ww, ww = (((w.alloc (.cells (pt x1 y1 c1 b1) 53)).alloc (.cells (pt x2 y2 c2 b2) 53)).alloc (.cells (#[.int .u64 0, .int .u64 0, .int .u64 0, .int .u64 0, .int .u64 0, .int .u64 0, .int .u64 0, .int .u64 0, .int .u64 0, .int .u64 0, .int .u64 0, .int .u64 0, .bool false] : Array Value) 53)) := ⟨_, rfl⟩
  rw [← hwyw1] at M2 M3 M4 HB ⊢
  clear hwyw1
  repeat ((fail_if_success (with_reducible (show wpList _ _ _ _ _ _))); go_step)
  refine wpList_load (by rfl) 53 _ rfl (w.heap.size + 1) rfl 53 (pt x2 y2 c2 b2) M3.out Try.underlying53 rfl (by rw [pt_size]; kernel_rfl) 9 rfl ?_
  (try simp only [Act.put, sI, sS, sZ])
  refine wpList_call (by rfl) rfl rfl (by rfl) ent90 (by rfl) (Hpl.out _) 10 rfl ?_
  rintro e uw1 ⟨u, s, t, ⟨hu, hs, ht⟩, ⟨hur, hsr, htr⟩, rfl, hb⟩
  replace M2 := Lib.hid (M2.out.call hb)
  replace M3 := Lib.hid (M3.out.call hb)
  replace M4 := Lib.hid (M4.out.call hb)
  replace HB := Lib.hid (held_next HB.out hb)
  refine ⟨_, rfl, ?_⟩
  clear hb
  (try simp only [Act.put, sI, sS, sZ])
  iterate 4 (refine wpList_step (fun K hK => ?_); go_simp; (try go_bits); refine hK _ _ ?_; clear hK K)
  refine wpList_alloc (by rfl) 36 rfl _ al36 5 rfl ?_
  intro yw2 hw2
  have hlt3 := M2.out.lt
  have hlt4 := M3.out.lt
  have hlt5 := M4.out.lt
  have hsz := HB.out.size
  replace M2 := Lib.hid (M2.out.alloc (.cells z36 36))
  replace M3 := Lib.hid (M3.out.alloc (.cells z36 36))
  replace M4 := Lib.hid (M4.out.alloc (.cells z36 36))
  have M5 := Lib.hid (HasN.new uw1 z36 36 4 (by kernel_rfl))
  replace HB := Lib.hid (HB.out.alloc hsz (.cells z36 36))
  rw [← hw2] at M2 M3 M4 M5 HB; clear hw2
  (try simp only [Act.put, sI, sS, sZ])
  refine wpList_alloc (by rfl) 36 rfl _ al36 6 rfl ?_
  intro yw6 hw2
  have hlt7 := M2.out.lt
  have hlt8 := M3.out.lt
  have hlt9 := M4.out.lt
  have hlt10 := M5.out.lt
  have hsz := HB.out.size
  replace M2 := Lib.hid (M2.out.alloc (.cells z36 36))
  replace M3 := Lib.hid (M3.out.alloc (.cells z36 36))
  replace M4 := Lib.hid (M4.out.alloc (.cells z36 36))
  replace M5 := Lib.hid (M5.out.alloc (.cells z36 36))
  have M6 := Lib.hid (HasN.new yw2 z36 36 4 (by kernel_rfl))
  replace HB := Lib.hid (HB.out.alloc hsz (.cells z36 36))
  rw [← hw2] at M2 M3 M4 M5 M6 HB; clear hw2
  (try simp only [Act.put, sI, sS, sZ])
  refine wpList_alloc (by rfl) 36 rfl _ al36 7 rfl ?_
  intro yw11 hw2
  have hlt12 := M2.out.lt
  have hlt13 := M3.out.lt
  have hlt14 := M4.out.lt
  have hlt15 := M5.out.lt
  have hlt16 := M6.out.lt
  have hsz := HB.out.size
  replace M2 := Lib.hid (M2.out.alloc (.cells z36 36))
  replace M3 := Lib.hid (M3.out.alloc (.cells z36 36))
  replace M4 := Lib.hid (M4.out.alloc (.cells z36 36))
  replace M5 := Lib.hid (M5.out.alloc (.cells z36 36))
  replace M6 := Lib.hid (M6.out.alloc (.cells z36 36))
  have M7 := Lib.hid (HasN.new yw6 z36 36 4 (by kernel_rfl))
  replace HB := Lib.hid (HB.out.alloc hsz (.cells z36 36))
  rw [← hw2] at M2 M3 M4 M5 M6 M7 HB; clear hw2
  (try simp only [Act.put, sI, sS, sZ])
  first | (obtain ⟨Zq, hZ, mZ⟩ := M5.out) | (obtain ⟨Zq, hZ, mZ⟩ := M5.out.toN (e4_size ..))
  refine wpList_store2 (by rfl) 36 _ _ rfl rfl (uw1.heap.size) (e4 u) rfl rfl 36 Zq mZ (by rw [e4_size]; kernel_rfl) (hZ.trans (e4_size ..).symm) (row_one _ _ _) ?_
  intro yw17 hw2
  replace M2 := Lib.hid (M2.out.setRow_other (uw1.heap.size) (e4 u) (by omega))
  replace M3 := Lib.hid (M3.out.setRow_other (uw1.heap.size) (e4 u) (by omega))
  replace M4 := Lib.hid (M4.out.setRow_other (uw1.heap.size) (e4 u) (by omega))
  replace M6 := Lib.hid (M6.out.setRow_other (uw1.heap.size) (e4 u) (by omega))
  replace M7 := Lib.hid (M7.out.setRow_other (uw1.heap.size) (e4 u) (by omega))
  replace M5 := Lib.hid (mZ.setRow (e4 u))
  replace HB := Lib.hid (below_setRow HB.out (uw1.heap.size) (e4 u) (by omega))
  rw [← hw2] at M2 M3 M4 M6 M7 M5 HB; clear mZ hZ hw2
  first | (obtain ⟨Zq, hZ, mZ⟩ := M6.out) | (obtain ⟨Zq, hZ, mZ⟩ := M6.out.toN (e4_size ..))
  refine wpList_store2 (by rfl) 36 _ _ rfl rfl (yw2.heap.size) (e4 s) rfl rfl 36 Zq mZ (by rw [e4_size]; kernel_rfl) (hZ.trans (e4_size ..).symm) (row_one _ _ _) ?_
  intro yw18 hw2
  replace M2 := Lib.hid (M2.out.setRow_other (yw2.heap.size) (e4 s) (by omega))
  replace M3 := Lib.hid (M3.out.setRow_other (yw2.heap.size) (e4 s) (by omega))
  replace M4 := Lib.hid (M4.out.setRow_other (yw2.heap.size) (e4 s) (by omega))
  replace M5 := Lib.hid (M5.out.setRow_other (yw2.heap.size) (e4 s) (by omega))
  replace M7 := Lib.hid (M7.out.setRow_other (yw2.heap.size) (e4 s) (by omega))
  replace M6 := Lib.hid (mZ.setRow (e4 s))
  replace HB := Lib.hid (below_setRow HB.out (yw2.heap.size) (e4 s) (by omega))
  rw [← hw2] at M2 M3 M4 M5 M7 M6 HB; clear mZ hZ hw2
  first | (obtain ⟨Zq, hZ, mZ⟩ := M7.out) | (obtain ⟨Zq, hZ, mZ⟩ := M7.out.toN (e4_size ..))
  refine wpList_store2 (by rfl) 36 _ _ rfl rfl (yw6.heap.size) (e4 t) rfl rfl 36 Zq mZ (by rw [e4_size]; kernel_rfl) (hZ.trans (e4_size ..).symm) (row_one _ _ _) ?_
  intro yw19 hw2
  replace M2 := Lib.hid (M2.out.setRow_other (yw6.heap.size) (e4 t) (by omega))
  replace M3 := Lib.hid (M3.out.setRow_other (yw6.heap.size) (e4 t) (by omega))
  replace M4 := Lib.hid (M4.out.setRow_other (yw6.heap.size) (e4 t) (by omega))
  replace M5 := Lib.hid (M5.out.setRow_other (yw6.heap.size) (e4 t) (by omega))
  replace M6 := Lib.hid (M6.out.setRow_other (yw6.heap.size) (e4 t) (by omega))
  replace M7 := Lib.hid (mZ.setRow (e4 t))
  replace HB := Lib.hid (below_setRow HB.out (yw6.heap.size) (e4 t) (by omega))
  rw [← hw2] at M2 M3 M4 M5 M6 M7 HB; clear mZ hZ hw2
  refine wpList_nil ?_
  have Hur := Lib.hid hur; clear hur
  have Hsr := Lib.hid hsr; clear hsr
  have Htr := Lib.hid htr; clear htr
  repeat ((fail_if_success (with_reducible (show wpList _ _ _ _ _ _))); go_step)
  refine wp_region_noPanic ?_
  refine wp_region_go 8 9 #[ff,ff,ff,ff,ff,ff,ff,ff,ff] (by kernel_rfl) rfl rfl ?_
  intro W20 hW20
  rw [← hW20] at M2 M3 M4 M5 M6 M7 HB
  clear hW20
  have M4N := Lib.hid (by first | exact M4.out | exact M4.out.toN (by first | exact e4_size _ | exact r22_size _ | exact k32_size _ | exact pt_size .. | exact rp_size ..) : HasN W20 (w.heap.size + 1 + 1) _ _)
  refine go_take2 0 14 #[tt,ff,ff,ff,ff,ff,ff,ff,ff] rfl rfl rfl (by kernel_rfl) (yieldsIf_load_row (by rfl) 53 _ rfl (w.heap.size) rfl 53 (pt x1 y1 c1 b1) (fun _ h => M2.out.below h M2.out.lt) Try.underlying53 rfl (by rw [pt_size]; kernel_rfl)) ((below_dr W20)) ?_
  (try simp only [sI, sS, sZ])
  refine go_take2 1 15 #[tt,tt,ff,ff,ff,ff,ff,ff,ff] rfl rfl rfl (by kernel_rfl) (yieldsIf_build (by rfl) 36 _ rfl _ (by rfl) (e4 0) (bd36z)) ((below_dr W20)) ?_
  (try simp only [sI, sS, sZ])
  refine go_take2 2 16 #[tt,tt,tt,ff,ff,ff,ff,ff,ff] rfl rfl rfl (by kernel_rfl) (yieldsIf_load_row (by rfl) 36 _ rfl (uw1.heap.size) rfl 36 (e4 u) (fun _ h => M5.out.below h M5.out.lt) Try.underlying36 rfl (by rw [e4_size]; kernel_rfl)) ((below_dr W20)) ?_
  (try simp only [sI, sS, sZ])
  refine go_take2 4 18 #[tt,tt,tt,ff,tt,ff,ff,ff,ff] rfl rfl rfl (by kernel_rfl) (yieldsIf_load_row (by rfl) 36 _ rfl (yw2.heap.size) rfl 36 (e4 s) (fun _ h => M6.out.below h M6.out.lt) Try.underlying36 rfl (by rw [e4_size]; kernel_rfl)) ((below_dr W20)) ?_
  (try simp only [sI, sS, sZ])
  refine go_take2 5 19 #[tt,tt,tt,ff,tt,tt,ff,ff,ff] rfl rfl rfl (by kernel_rfl) (yieldsIf_load_row (by rfl) 36 _ rfl (yw6.heap.size) rfl 36 (e4 t) (fun _ h => M7.out.below h M7.out.lt) Try.underlying36 rfl (by rw [e4_size]; kernel_rfl)) ((below_dr W20)) ?_
  (try simp only [sI, sS, sZ])
  refine wpBut_r1 (i := 3) (by kernel_rfl) ?_
  refine go_call 3 17 #[tt,tt,tt,tt,tt,tt,ff,ff,ff] rfl rfl rfl (by rfl) rfl rfl (by rfl) ent39 (by rfl) (Hmi.out 0 u (by decide) hu _) ?_
  rintro e wW201 ⟨m, hm, hmr, rfl, hb⟩
  have hkW201 := held_next (below_dr W20) hb
  refine ⟨_, rfl, fun _ => hkW201, ?_⟩
  clear hb
  (try simp only [sI, sS, sZ])
  refine wpBut_r1 (i := 6) (by kernel_rfl) ?_
  refine go_call 6 20 #[tt,tt,tt,tt,tt,tt,tt,ff,ff] rfl rfl rfl (by rfl) rfl rfl (by rfl) ent93 (by rfl) (Hmd.out m s t hm hs ht _) ?_
  rintro e wW202 ⟨qx, qy, qz, qb, hq, rfl, hb⟩
  have hkW202 := held_next hkW201 hb
  rw [Hnx.out m u Hur.out hmr, Hsr.out, Htr.out] at hq
  have Hq := Lib.hid hq; clear hq hmr
  refine ⟨_, rfl, fun _ => hkW202, ?_⟩
  clear hb
  (try simp only [sI, sS, sZ])
  refine wpBut_r1 (i := 7) (by kernel_rfl) ?_
  refine go_call 7 21 #[tt,tt,tt,tt,tt,tt,tt,tt,ff] rfl rfl rfl (by rfl) rfl rfl (by rfl) ent51 (by rfl) (Hplus.out qx qy qz qb Hq.out _) ?_
  rintro e wW203 ⟨px, py, pz, pb, hpt, rfl, hb⟩
  have hkW203 := held_next hkW202 hb
  refine ⟨_, rfl, fun _ => hkW203, ?_⟩
  clear hb
  (try simp only [sI, sS, sZ])
  refine wpBut_r1 (i := 8) (by kernel_rfl) ?_
  obtain ⟨Zq, hZ, mZ⟩ := M4N.out.below hkW203 M4N.out.lt
  have MZ := Lib.hid mZ; clear mZ
  have HZ := Lib.hid hZ; clear hZ
  refine go_store 8 #[tt,tt,tt,tt,tt,tt,tt,tt,tt] rfl rfl rfl (by rfl) 53 _ _ rfl (w.heap.size + 1 + 1) _ rfl rfl 53 Zq MZ.out (by rw [pt_size]; kernel_rfl) (HZ.out.trans (pt_size ..).symm) (pt_one _ _ _ _) ⟨fun h => (h rfl).elim, ?_⟩
  (try simp only [sI, sS, sZ])
  refine wpBut_done (by kernel_rfl) (NoPanic.normal ?_)
  replace M2 := Lib.hid ((M2.out.call hkW203).setRow_other (w.heap.size + 1 + 1) (pt px py pz pb) (by omega))
  replace M3 := Lib.hid ((M3.out.call hkW203).setRow_other (w.heap.size + 1 + 1) (pt px py pz pb) (by omega))
  replace M5 := Lib.hid ((M5.out.call hkW203).setRow_other (w.heap.size + 1 + 1) (pt px py pz pb) (by omega))
  replace M6 := Lib.hid ((M6.out.call hkW203).setRow_other (w.heap.size + 1 + 1) (pt px py pz pb) (by omega))
  replace M7 := Lib.hid ((M7.out.call hkW203).setRow_other (w.heap.size + 1 + 1) (pt px py pz pb) (by omega))
  clear M4 M4N
  have M4 := Lib.hid (MZ.out.setRow (pt px py pz pb)); clear MZ HZ
  replace HB := Lib.hid (below_setRow (held_next HB.out hkW203) (w.heap.size + 1 + 1) (pt px py pz pb) (by omega))
  obtain ⟨yw21, hwyw21⟩ : ∃ ww, ww = wW203.setRow (w.heap.size + 1 + 1) (pt px py pz pb) := ⟨_, rfl⟩
  rw [← hwyw21] at M2 M3 M4 M5 M6 M7 HB ⊢
  clear hwyw21
  go_wp2_with fail
  exact bodyPost_ret (v := .agg (pt px py pz pb)) (results_cell_row (t := 53) (by rfl) _ _ (w.heap.size + 1 + 1) _ _ _ rfl M4.out Try.underlying53 rfl (by rw [pt_size]; kernel_rfl)) rfl ⟨px, py, pz, pb, hpt, rfl, HB.out⟩

theorem is_bool (a b X Y : Nat) (z : Bool) (ha : a < 115792089237316195423570985008687907853269984665640564039457584007913129639936) (hb : b < 115792089237316195423570985008687907853269984665640564039457584007913129639936) (h1 : a % PP = X) (h2 : b % PP = Y) (hz : z = decide (X = Y)) (w : World) :
    Calls Try.prog 41 #[.agg (e4 a), .agg (e4 b)] w fun e w' => e = .returned (.bool z) ∧ Below w.heap.size w w' := by
  rw [hz, ← h1, ← h2]; exact is_any a b ha hb w
set_option maxRecDepth 100000 in
set_option linter.unusedSimpArgs false in
set_option maxHeartbeats 8000000 in
theorem pis_any (x1 y1 c1 : Nat) (b1 : Bool) (X1 Y1 Z1 : Nat) (p1 : IsPt x1 y1 c1 b1 X1 Y1 Z1) (x2 y2 c2 : Nat) (b2 : Bool) (X2 Y2 Z2 : Nat) (p2 : IsPt x2 y2 c2 b2 X2 Y2 Z2) (w : World) :
    Calls Try.prog 55 #[.agg (pt x1 y1 c1 b1), .agg (pt x2 y2 c2 b2)] w fun e w' => e = .returned (.bool (decide (X1 * Z2 % PP = X2 * Z1 % PP) && decide (Y1 * Z2 % PP = Y2 * Z1 % PP))) ∧ Below w.heap.size w w' := by
  have hpl1 := fun w => plain_any x1 y1 c1 b1 X1 Y1 Z1 p1 w
  have hpl2 := fun w => plain_any x2 y2 c2 b2 X2 Y2 Z2 p2 w
  have ht := times_any
  obtain ⟨i1, hi1⟩ : ∃ b, b = decide (X1 * Z2 % PP = X2 * Z1 % PP) := ⟨_, rfl⟩
  obtain ⟨i2, hi2⟩ : ∃ b, b = decide (Y1 * Z2 % PP = Y2 * Z1 % PP) := ⟨_, rfl⟩
  rw [← hi1, ← hi2]
  have hI1 := fun a b ha hb h1 h2 w => is_bool a b (X1 * Z2 % PP) (X2 * Z1 % PP) i1 ha hb h1 h2 hi1 w
  have hI2 := fun a b ha hb h1 h2 w => is_bool a b (Y1 * Z2 % PP) (Y2 * Z1 % PP) i2 ha hb h1 h2 hi2 w
  clear hi1 hi2 p1 p2
  have Hpl1 := Lib.hid hpl1; clear hpl1
  have Hpl2 := Lib.hid hpl2; clear hpl2
  have Ht := Lib.hid ht; clear ht
  have Hi1 := Lib.hid hI1; clear hI1
  have Hi2 := Lib.hid hI2; clear hI2
  go_enter Try.func55, Try.ntmps55
  repeat ((fail_if_success (with_reducible (show wpList _ _ _ _ _ _))); go_step)
  iterate 3 (refine wpList_step (fun K hK => ?_); go_simp; (try go_bits); refine hK _ _ ?_; clear hK K)
  refine wpList_nil ?_
  have M2 := Lib.hid ((Has.new w  (pt x1 y1 c1 b1) 53).alloc (.cells (pt x2 y2 c2 b2) 53))
  have M3 := Lib.hid (Has.new1 w (.cells (pt x1 y1 c1 b1) 53) (pt x2 y2 c2 b2) 53)
  have HB := Lib.hid (below_2 w (.cells (pt x1 y1 c1 b1) 53) (.cells (pt x2 y2 c2 b2) 53))
  obtain ⟨yw1, hwyw1⟩ : ∃ ww, ww = ((w.alloc (.cells (pt x1 y1 c1 b1) 53)).alloc (.cells (pt x2 y2 c2 b2) 53)) := ⟨_, rfl⟩
  rw [← hwyw1] at M2 M3 HB ⊢
  clear hwyw1
  repeat ((fail_if_success (with_reducible (show wpList _ _ _ _ _ _))); go_step)
  refine wpList_load (by rfl) 53 _ rfl (w.heap.size) rfl 53 (pt x1 y1 c1 b1) M2.out Try.underlying53 rfl (by rw [pt_size]; kernel_rfl) 12 rfl ?_
  (try simp only [Act.put, sI, sS, sZ])
  refine wpList_call (by rfl) rfl rfl (by rfl) ent90 (by rfl) (Hpl1.out _) 13 rfl ?_
  rintro e uw1 ⟨u, s, t, ⟨hu, hs, ht⟩, ⟨hur, hsr, htr⟩, rfl, hb⟩
  replace M2 := Lib.hid (M2.out.call hb)
  replace M3 := Lib.hid (M3.out.call hb)
  replace HB := Lib.hid (held_next HB.out hb)
  refine ⟨_, rfl, ?_⟩
  clear hb
  (try simp only [Act.put, sI, sS, sZ])
  iterate 4 (refine wpList_step (fun K hK => ?_); go_simp; (try go_bits); refine hK _ _ ?_; clear hK K)
  refine wpList_alloc (by rfl) 36 rfl _ al36 5 rfl ?_
  intro yw2 hw2
  have hlt3 := M2.out.lt
  have hlt4 := M3.out.lt
  have hsz := HB.out.size
  replace M2 := Lib.hid (M2.out.alloc (.cells z36 36))
  replace M3 := Lib.hid (M3.out.alloc (.cells z36 36))
  have M5 := Lib.hid (HasN.new uw1 z36 36 4 (by kernel_rfl))
  replace HB := Lib.hid (HB.out.alloc hsz (.cells z36 36))
  rw [← hw2] at M2 M3 M5 HB; clear hw2
  (try simp only [Act.put, sI, sS, sZ])
  refine wpList_alloc (by rfl) 36 rfl _ al36 6 rfl ?_
  intro yw5 hw2
  have hlt6 := M2.out.lt
  have hlt7 := M3.out.lt
  have hlt8 := M5.out.lt
  have hsz := HB.out.size
  replace M2 := Lib.hid (M2.out.alloc (.cells z36 36))
  replace M3 := Lib.hid (M3.out.alloc (.cells z36 36))
  replace M5 := Lib.hid (M5.out.alloc (.cells z36 36))
  have M6 := Lib.hid (HasN.new yw2 z36 36 4 (by kernel_rfl))
  replace HB := Lib.hid (HB.out.alloc hsz (.cells z36 36))
  rw [← hw2] at M2 M3 M5 M6 HB; clear hw2
  (try simp only [Act.put, sI, sS, sZ])
  refine wpList_alloc (by rfl) 36 rfl _ al36 7 rfl ?_
  intro yw9 hw2
  have hlt10 := M2.out.lt
  have hlt11 := M3.out.lt
  have hlt12 := M5.out.lt
  have hlt13 := M6.out.lt
  have hsz := HB.out.size
  replace M2 := Lib.hid (M2.out.alloc (.cells z36 36))
  replace M3 := Lib.hid (M3.out.alloc (.cells z36 36))
  replace M5 := Lib.hid (M5.out.alloc (.cells z36 36))
  replace M6 := Lib.hid (M6.out.alloc (.cells z36 36))
  have M7 := Lib.hid (HasN.new yw5 z36 36 4 (by kernel_rfl))
  replace HB := Lib.hid (HB.out.alloc hsz (.cells z36 36))
  rw [← hw2] at M2 M3 M5 M6 M7 HB; clear hw2
  (try simp only [Act.put, sI, sS, sZ])
  first | (obtain ⟨Zq, hZ, mZ⟩ := M5.out) | (obtain ⟨Zq, hZ, mZ⟩ := M5.out.toN (e4_size ..))
  refine wpList_store2 (by rfl) 36 _ _ rfl rfl (uw1.heap.size) (e4 u) rfl rfl 36 Zq mZ (by rw [e4_size]; kernel_rfl) (hZ.trans (e4_size ..).symm) (row_one _ _ _) ?_
  intro yw14 hw2
  replace M2 := Lib.hid (M2.out.setRow_other (uw1.heap.size) (e4 u) (by omega))
  replace M3 := Lib.hid (M3.out.setRow_other (uw1.heap.size) (e4 u) (by omega))
  replace M6 := Lib.hid (M6.out.setRow_other (uw1.heap.size) (e4 u) (by omega))
  replace M7 := Lib.hid (M7.out.setRow_other (uw1.heap.size) (e4 u) (by omega))
  replace M5 := Lib.hid (mZ.setRow (e4 u))
  replace HB := Lib.hid (below_setRow HB.out (uw1.heap.size) (e4 u) (by omega))
  rw [← hw2] at M2 M3 M6 M7 M5 HB; clear mZ hZ hw2
  first | (obtain ⟨Zq, hZ, mZ⟩ := M6.out) | (obtain ⟨Zq, hZ, mZ⟩ := M6.out.toN (e4_size ..))
  refine wpList_store2 (by rfl) 36 _ _ rfl rfl (yw2.heap.size) (e4 s) rfl rfl 36 Zq mZ (by rw [e4_size]; kernel_rfl) (hZ.trans (e4_size ..).symm) (row_one _ _ _) ?_
  intro yw15 hw2
  replace M2 := Lib.hid (M2.out.setRow_other (yw2.heap.size) (e4 s) (by omega))
  replace M3 := Lib.hid (M3.out.setRow_other (yw2.heap.size) (e4 s) (by omega))
  replace M5 := Lib.hid (M5.out.setRow_other (yw2.heap.size) (e4 s) (by omega))
  replace M7 := Lib.hid (M7.out.setRow_other (yw2.heap.size) (e4 s) (by omega))
  replace M6 := Lib.hid (mZ.setRow (e4 s))
  replace HB := Lib.hid (below_setRow HB.out (yw2.heap.size) (e4 s) (by omega))
  rw [← hw2] at M2 M3 M5 M7 M6 HB; clear mZ hZ hw2
  first | (obtain ⟨Zq, hZ, mZ⟩ := M7.out) | (obtain ⟨Zq, hZ, mZ⟩ := M7.out.toN (e4_size ..))
  refine wpList_store2 (by rfl) 36 _ _ rfl rfl (yw5.heap.size) (e4 t) rfl rfl 36 Zq mZ (by rw [e4_size]; kernel_rfl) (hZ.trans (e4_size ..).symm) (row_one _ _ _) ?_
  intro yw16 hw2
  replace M2 := Lib.hid (M2.out.setRow_other (yw5.heap.size) (e4 t) (by omega))
  replace M3 := Lib.hid (M3.out.setRow_other (yw5.heap.size) (e4 t) (by omega))
  replace M5 := Lib.hid (M5.out.setRow_other (yw5.heap.size) (e4 t) (by omega))
  replace M6 := Lib.hid (M6.out.setRow_other (yw5.heap.size) (e4 t) (by omega))
  replace M7 := Lib.hid (mZ.setRow (e4 t))
  replace HB := Lib.hid (below_setRow HB.out (yw5.heap.size) (e4 t) (by omega))
  rw [← hw2] at M2 M3 M5 M6 M7 HB; clear mZ hZ hw2
  refine wpList_nil ?_
  have Hur := Lib.hid hur; clear hur
  have Hsr := Lib.hid hsr; clear hsr
  have Htr := Lib.hid htr; clear htr
  repeat ((fail_if_success (with_reducible (show wpList _ _ _ _ _ _))); go_step)
  refine wpList_load (by rfl) 53 _ rfl (w.heap.size + 1) rfl 53 (pt x2 y2 c2 b2) M3.out Try.underlying53 rfl (by rw [pt_size]; kernel_rfl) 18 rfl ?_
  (try simp only [Act.put, sI, sS, sZ])
  refine wpList_call (by rfl) rfl rfl (by rfl) ent90 (by rfl) (Hpl2.out _) 19 rfl ?_
  rintro e uw2 ⟨u2, s2, t2, ⟨hu2, hs2, ht2⟩, ⟨hu2r, hs2r, ht2r⟩, rfl, hb⟩
  replace M2 := Lib.hid (M2.out.call hb)
  replace M3 := Lib.hid (M3.out.call hb)
  replace M5 := Lib.hid (M5.out.call hb)
  replace M6 := Lib.hid (M6.out.call hb)
  replace M7 := Lib.hid (M7.out.call hb)
  replace HB := Lib.hid (held_next HB.out hb)
  refine ⟨_, rfl, ?_⟩
  clear hb
  (try simp only [Act.put, sI, sS, sZ])
  iterate 4 (refine wpList_step (fun K hK => ?_); go_simp; (try go_bits); refine hK _ _ ?_; clear hK K)
  refine wpList_alloc (by rfl) 36 rfl _ al36 8 rfl ?_
  intro yw17 hw2
  have hlt18 := M2.out.lt
  have hlt19 := M3.out.lt
  have hlt20 := M5.out.lt
  have hlt21 := M6.out.lt
  have hlt22 := M7.out.lt
  have hsz := HB.out.size
  replace M2 := Lib.hid (M2.out.alloc (.cells z36 36))
  replace M3 := Lib.hid (M3.out.alloc (.cells z36 36))
  replace M5 := Lib.hid (M5.out.alloc (.cells z36 36))
  replace M6 := Lib.hid (M6.out.alloc (.cells z36 36))
  replace M7 := Lib.hid (M7.out.alloc (.cells z36 36))
  have M8 := Lib.hid (HasN.new uw2 z36 36 4 (by kernel_rfl))
  replace HB := Lib.hid (HB.out.alloc hsz (.cells z36 36))
  rw [← hw2] at M2 M3 M5 M6 M7 M8 HB; clear hw2
  (try simp only [Act.put, sI, sS, sZ])
  refine wpList_alloc (by rfl) 36 rfl _ al36 9 rfl ?_
  intro yw23 hw2
  have hlt24 := M2.out.lt
  have hlt25 := M3.out.lt
  have hlt26 := M5.out.lt
  have hlt27 := M6.out.lt
  have hlt28 := M7.out.lt
  have hlt29 := M8.out.lt
  have hsz := HB.out.size
  replace M2 := Lib.hid (M2.out.alloc (.cells z36 36))
  replace M3 := Lib.hid (M3.out.alloc (.cells z36 36))
  replace M5 := Lib.hid (M5.out.alloc (.cells z36 36))
  replace M6 := Lib.hid (M6.out.alloc (.cells z36 36))
  replace M7 := Lib.hid (M7.out.alloc (.cells z36 36))
  replace M8 := Lib.hid (M8.out.alloc (.cells z36 36))
  have M9 := Lib.hid (HasN.new yw17 z36 36 4 (by kernel_rfl))
  replace HB := Lib.hid (HB.out.alloc hsz (.cells z36 36))
  rw [← hw2] at M2 M3 M5 M6 M7 M8 M9 HB; clear hw2
  (try simp only [Act.put, sI, sS, sZ])
  refine wpList_alloc (by rfl) 36 rfl _ al36 10 rfl ?_
  intro yw30 hw2
  have hlt31 := M2.out.lt
  have hlt32 := M3.out.lt
  have hlt33 := M5.out.lt
  have hlt34 := M6.out.lt
  have hlt35 := M7.out.lt
  have hlt36 := M8.out.lt
  have hlt37 := M9.out.lt
  have hsz := HB.out.size
  replace M2 := Lib.hid (M2.out.alloc (.cells z36 36))
  replace M3 := Lib.hid (M3.out.alloc (.cells z36 36))
  replace M5 := Lib.hid (M5.out.alloc (.cells z36 36))
  replace M6 := Lib.hid (M6.out.alloc (.cells z36 36))
  replace M7 := Lib.hid (M7.out.alloc (.cells z36 36))
  replace M8 := Lib.hid (M8.out.alloc (.cells z36 36))
  replace M9 := Lib.hid (M9.out.alloc (.cells z36 36))
  have M10 := Lib.hid (HasN.new yw23 z36 36 4 (by kernel_rfl))
  replace HB := Lib.hid (HB.out.alloc hsz (.cells z36 36))
  rw [← hw2] at M2 M3 M5 M6 M7 M8 M9 M10 HB; clear hw2
  (try simp only [Act.put, sI, sS, sZ])
  first | (obtain ⟨Zq, hZ, mZ⟩ := M8.out) | (obtain ⟨Zq, hZ, mZ⟩ := M8.out.toN (e4_size ..))
  refine wpList_store2 (by rfl) 36 _ _ rfl rfl (uw2.heap.size) (e4 u2) rfl rfl 36 Zq mZ (by rw [e4_size]; kernel_rfl) (hZ.trans (e4_size ..).symm) (row_one _ _ _) ?_
  intro yw38 hw2
  replace M2 := Lib.hid (M2.out.setRow_other (uw2.heap.size) (e4 u2) (by omega))
  replace M3 := Lib.hid (M3.out.setRow_other (uw2.heap.size) (e4 u2) (by omega))
  replace M5 := Lib.hid (M5.out.setRow_other (uw2.heap.size) (e4 u2) (by omega))
  replace M6 := Lib.hid (M6.out.setRow_other (uw2.heap.size) (e4 u2) (by omega))
  replace M7 := Lib.hid (M7.out.setRow_other (uw2.heap.size) (e4 u2) (by omega))
  replace M9 := Lib.hid (M9.out.setRow_other (uw2.heap.size) (e4 u2) (by omega))
  replace M10 := Lib.hid (M10.out.setRow_other (uw2.heap.size) (e4 u2) (by omega))
  replace M8 := Lib.hid (mZ.setRow (e4 u2))
  replace HB := Lib.hid (below_setRow HB.out (uw2.heap.size) (e4 u2) (by omega))
  rw [← hw2] at M2 M3 M5 M6 M7 M9 M10 M8 HB; clear mZ hZ hw2
  first | (obtain ⟨Zq, hZ, mZ⟩ := M9.out) | (obtain ⟨Zq, hZ, mZ⟩ := M9.out.toN (e4_size ..))
  refine wpList_store2 (by rfl) 36 _ _ rfl rfl (yw17.heap.size) (e4 s2) rfl rfl 36 Zq mZ (by rw [e4_size]; kernel_rfl) (hZ.trans (e4_size ..).symm) (row_one _ _ _) ?_
  intro yw39 hw2
  replace M2 := Lib.hid (M2.out.setRow_other (yw17.heap.size) (e4 s2) (by omega))
  replace M3 := Lib.hid (M3.out.setRow_other (yw17.heap.size) (e4 s2) (by omega))
  replace M5 := Lib.hid (M5.out.setRow_other (yw17.heap.size) (e4 s2) (by omega))
  replace M6 := Lib.hid (M6.out.setRow_other (yw17.heap.size) (e4 s2) (by omega))
  replace M7 := Lib.hid (M7.out.setRow_other (yw17.heap.size) (e4 s2) (by omega))
  replace M8 := Lib.hid (M8.out.setRow_other (yw17.heap.size) (e4 s2) (by omega))
  replace M10 := Lib.hid (M10.out.setRow_other (yw17.heap.size) (e4 s2) (by omega))
  replace M9 := Lib.hid (mZ.setRow (e4 s2))
  replace HB := Lib.hid (below_setRow HB.out (yw17.heap.size) (e4 s2) (by omega))
  rw [← hw2] at M2 M3 M5 M6 M7 M8 M10 M9 HB; clear mZ hZ hw2
  first | (obtain ⟨Zq, hZ, mZ⟩ := M10.out) | (obtain ⟨Zq, hZ, mZ⟩ := M10.out.toN (e4_size ..))
  refine wpList_store2 (by rfl) 36 _ _ rfl rfl (yw23.heap.size) (e4 t2) rfl rfl 36 Zq mZ (by rw [e4_size]; kernel_rfl) (hZ.trans (e4_size ..).symm) (row_one _ _ _) ?_
  intro yw40 hw2
  replace M2 := Lib.hid (M2.out.setRow_other (yw23.heap.size) (e4 t2) (by omega))
  replace M3 := Lib.hid (M3.out.setRow_other (yw23.heap.size) (e4 t2) (by omega))
  replace M5 := Lib.hid (M5.out.setRow_other (yw23.heap.size) (e4 t2) (by omega))
  replace M6 := Lib.hid (M6.out.setRow_other (yw23.heap.size) (e4 t2) (by omega))
  replace M7 := Lib.hid (M7.out.setRow_other (yw23.heap.size) (e4 t2) (by omega))
  replace M8 := Lib.hid (M8.out.setRow_other (yw23.heap.size) (e4 t2) (by omega))
  replace M9 := Lib.hid (M9.out.setRow_other (yw23.heap.size) (e4 t2) (by omega))
  replace M10 := Lib.hid (mZ.setRow (e4 t2))
  replace HB := Lib.hid (below_setRow HB.out (yw23.heap.size) (e4 t2) (by omega))
  rw [← hw2] at M2 M3 M5 M6 M7 M8 M9 M10 HB; clear mZ hZ hw2
  refine wpList_nil ?_
  have Hu2r := Lib.hid hu2r; clear hu2r
  have Hs2r := Lib.hid hs2r; clear hs2r
  have Ht2r := Lib.hid ht2r; clear ht2r
  clear M2 M3
  repeat ((fail_if_success (with_reducible (show wpList _ _ _ _ _ _))); go_step)
  cases i1
  · refine wp_region_noPanic ?_
    refine wp_region_go 99 17 #[ff,ff,ff,ff,ff,ff,ff,ff,ff,ff,ff,ff,ff,ff,ff,ff,ff] (by kernel_rfl) rfl rfl ?_
    intro W41 hW41
    rw [← hW41] at M5 M6 M7 M8 M9 M10 HB
    clear hW41
    refine go_take2 0 23 #[tt,ff,ff,ff,ff,ff,ff,ff,ff,ff,ff,ff,ff,ff,ff,ff,ff] rfl rfl rfl (by kernel_rfl) (yieldsIf_load_row (by rfl) 36 _ rfl (uw1.heap.size) rfl 36 (e4 u) (fun _ h => M5.out.below h M5.out.lt) Try.underlying36 rfl (by rw [e4_size]; kernel_rfl)) ((below_dr W41)) ?_
    (try simp only [sI, sS, sZ])
    refine go_take2 1 24 #[tt,tt,ff,ff,ff,ff,ff,ff,ff,ff,ff,ff,ff,ff,ff,ff,ff] rfl rfl rfl (by kernel_rfl) (yieldsIf_load_row (by rfl) 36 _ rfl (yw23.heap.size) rfl 36 (e4 t2) (fun _ h => M10.out.below h M10.out.lt) Try.underlying36 rfl (by rw [e4_size]; kernel_rfl)) ((below_dr W41)) ?_
    (try simp only [sI, sS, sZ])
    refine go_take2 3 26 #[tt,tt,ff,tt,ff,ff,ff,ff,ff,ff,ff,ff,ff,ff,ff,ff,ff] rfl rfl rfl (by kernel_rfl) (yieldsIf_load_row (by rfl) 36 _ rfl (uw2.heap.size) rfl 36 (e4 u2) (fun _ h => M8.out.below h M8.out.lt) Try.underlying36 rfl (by rw [e4_size]; kernel_rfl)) ((below_dr W41)) ?_
    (try simp only [sI, sS, sZ])
    refine go_take2 4 27 #[tt,tt,ff,tt,tt,ff,ff,ff,ff,ff,ff,ff,ff,ff,ff,ff,ff] rfl rfl rfl (by kernel_rfl) (yieldsIf_load_row (by rfl) 36 _ rfl (yw5.heap.size) rfl 36 (e4 t) (fun _ h => M7.out.below h M7.out.lt) Try.underlying36 rfl (by rw [e4_size]; kernel_rfl)) ((below_dr W41)) ?_
    (try simp only [sI, sS, sZ])
    refine wpBut_r1 (i := 2) (by kernel_rfl) ?_
    refine go_call 2 25 #[tt,tt,tt,tt,tt,ff,ff,ff,ff,ff,ff,ff,ff,ff,ff,ff,ff] rfl rfl rfl (by rfl) rfl rfl (by rfl) ent31 (by rfl) (Ht.out u t2 hu ht2 _) ?_
    rintro e wW411 ⟨m1, hm1, hm1r, rfl, hb⟩
    have hkW411 := held_next (below_dr W41) hb
    refine ⟨_, rfl, fun _ => hkW411, ?_⟩
    clear hb
    (try simp only [sI, sS, sZ])
    refine wpBut_r1 (i := 5) (by kernel_rfl) ?_
    refine go_call 5 28 #[tt,tt,tt,tt,tt,tt,ff,ff,ff,ff,ff,ff,ff,ff,ff,ff,ff] rfl rfl rfl (by rfl) rfl rfl (by rfl) ent31 (by rfl) (Ht.out u2 t hu2 ht _) ?_
    rintro e wW412 ⟨m2, hm2, hm2r, rfl, hb⟩
    have hkW412 := held_next hkW411 hb
    refine ⟨_, rfl, fun _ => hkW412, ?_⟩
    clear hb
    (try simp only [sI, sS, sZ])
    refine wpBut_r1 (i := 6) (by kernel_rfl) ?_
    refine go_call 6 29 #[tt,tt,tt,tt,tt,tt,tt,ff,ff,ff,ff,ff,ff,ff,ff,ff,ff] rfl rfl rfl (by rfl) rfl rfl (by rfl) ent41 (by rfl) (Hi1.out m1 m2 hm1 hm2 (r_mul m1 u t2 X1 Z2 _ hm1r Hur.out Ht2r.out rfl) (r_mul m2 u2 t X2 Z1 _ hm2r Hu2r.out Htr.out rfl) _) ?_
    rintro e wW413 ⟨rfl, hb⟩
    have hkW413 := held_next hkW412 hb
    refine ⟨_, rfl, fun _ => hkW413, ?_⟩
    clear hb
    (try simp only [sI, sS, sZ])
    refine go_take2 7 30 #[tt,tt,tt,tt,tt,tt,tt,tt,ff,ff,ff,ff,ff,ff,ff,ff,ff] (v := ?uv1) rfl rfl rfl (by kernel_rfl) (Or.inl ⟨by rfl, ?uy1⟩) (hkW413) ?urest1
    case uy1 => (intro _ _; go_simp; try with_reducible rfl)
    (try simp only [sI, sS, sZ])
    refine go_take2 8 31 #[tt,tt,tt,tt,tt,tt,tt,tt,tt,ff,ff,ff,ff,ff,ff,ff,ff] (v := undef) rfl rfl rfl (by kernel_rfl) (Or.inr ⟨by rfl, rfl⟩) (hkW413) ?_
    (try simp only [sI, sS, sZ])
    refine go_take2 9 32 #[tt,tt,tt,tt,tt,tt,tt,tt,tt,tt,ff,ff,ff,ff,ff,ff,ff] (v := undef) rfl rfl rfl (by kernel_rfl) (Or.inr ⟨by rfl, rfl⟩) (hkW413) ?_
    (try simp only [sI, sS, sZ])
    refine go_take2 10 33 #[tt,tt,tt,tt,tt,tt,tt,tt,tt,tt,tt,ff,ff,ff,ff,ff,ff] (v := undef) rfl rfl rfl (by kernel_rfl) (Or.inr ⟨by rfl, rfl⟩) (hkW413) ?_
    (try simp only [sI, sS, sZ])
    refine go_take2 11 34 #[tt,tt,tt,tt,tt,tt,tt,tt,tt,tt,tt,tt,ff,ff,ff,ff,ff] (v := undef) rfl rfl rfl (by kernel_rfl) (Or.inr ⟨by rfl, rfl⟩) (hkW413) ?_
    (try simp only [sI, sS, sZ])
    refine go_take2 12 35 #[tt,tt,tt,tt,tt,tt,tt,tt,tt,tt,tt,tt,tt,ff,ff,ff,ff] (v := undef) rfl rfl rfl (by kernel_rfl) (Or.inr ⟨by rfl, rfl⟩) (hkW413) ?_
    (try simp only [sI, sS, sZ])
    refine go_take2 13 36 #[tt,tt,tt,tt,tt,tt,tt,tt,tt,tt,tt,tt,tt,tt,ff,ff,ff] (v := undef) rfl rfl rfl (by kernel_rfl) (Or.inr ⟨by rfl, rfl⟩) (hkW413) ?_
    (try simp only [sI, sS, sZ])
    refine go_take2 14 37 #[tt,tt,tt,tt,tt,tt,tt,tt,tt,tt,tt,tt,tt,tt,tt,ff,ff] (v := undef) rfl rfl rfl (by kernel_rfl) (Or.inr ⟨by rfl, rfl⟩) (hkW413) ?_
    (try simp only [sI, sS, sZ])
    refine go_take2 15 38 #[tt,tt,tt,tt,tt,tt,tt,tt,tt,tt,tt,tt,tt,tt,tt,tt,ff] (v := ?uv2) rfl rfl rfl (by kernel_rfl) (Or.inl ⟨by rfl, ?uy2⟩) (hkW413) ?urest2
    case uy2 => (intro _ _; go_simp; try with_reducible rfl)
    (try simp only [sI, sS, sZ])
    refine go_take2 16 4 #[tt,tt,tt,tt,tt,tt,tt,tt,tt,tt,tt,tt,tt,tt,tt,tt,tt] (v := ?uv3) rfl rfl rfl (by kernel_rfl) (Or.inl ⟨by rfl, ?uy3⟩) (hkW413) ?urest3
    case uy3 => (intro _ _; go_simp; try with_reducible rfl)
    (try simp only [sI, sS, sZ])
    refine wpBut_done (by kernel_rfl) (NoPanic.normal ?_)
    replace M5 := Lib.hid (M5.out.call hkW413)
    replace M6 := Lib.hid (M6.out.call hkW413)
    replace M7 := Lib.hid (M7.out.call hkW413)
    replace M8 := Lib.hid (M8.out.call hkW413)
    replace M9 := Lib.hid (M9.out.call hkW413)
    replace M10 := Lib.hid (M10.out.call hkW413)
    replace HB := Lib.hid (held_next HB.out hkW413)
    go_wp2_with fail
    go_ret
    exact ⟨by simp, HB.out⟩
  · refine wp_region_noPanic ?_
    refine wp_region_go 99 17 #[ff,ff,ff,ff,ff,ff,ff,ff,ff,ff,ff,ff,ff,ff,ff,ff,ff] (by kernel_rfl) rfl rfl ?_
    intro W41 hW41
    rw [← hW41] at M5 M6 M7 M8 M9 M10 HB
    clear hW41
    refine go_take2 0 23 #[tt,ff,ff,ff,ff,ff,ff,ff,ff,ff,ff,ff,ff,ff,ff,ff,ff] rfl rfl rfl (by kernel_rfl) (yieldsIf_load_row (by rfl) 36 _ rfl (uw1.heap.size) rfl 36 (e4 u) (fun _ h => M5.out.below h M5.out.lt) Try.underlying36 rfl (by rw [e4_size]; kernel_rfl)) ((below_dr W41)) ?_
    (try simp only [sI, sS, sZ])
    refine go_take2 1 24 #[tt,tt,ff,ff,ff,ff,ff,ff,ff,ff,ff,ff,ff,ff,ff,ff,ff] rfl rfl rfl (by kernel_rfl) (yieldsIf_load_row (by rfl) 36 _ rfl (yw23.heap.size) rfl 36 (e4 t2) (fun _ h => M10.out.below h M10.out.lt) Try.underlying36 rfl (by rw [e4_size]; kernel_rfl)) ((below_dr W41)) ?_
    (try simp only [sI, sS, sZ])
    refine go_take2 3 26 #[tt,tt,ff,tt,ff,ff,ff,ff,ff,ff,ff,ff,ff,ff,ff,ff,ff] rfl rfl rfl (by kernel_rfl) (yieldsIf_load_row (by rfl) 36 _ rfl (uw2.heap.size) rfl 36 (e4 u2) (fun _ h => M8.out.below h M8.out.lt) Try.underlying36 rfl (by rw [e4_size]; kernel_rfl)) ((below_dr W41)) ?_
    (try simp only [sI, sS, sZ])
    refine go_take2 4 27 #[tt,tt,ff,tt,tt,ff,ff,ff,ff,ff,ff,ff,ff,ff,ff,ff,ff] rfl rfl rfl (by kernel_rfl) (yieldsIf_load_row (by rfl) 36 _ rfl (yw5.heap.size) rfl 36 (e4 t) (fun _ h => M7.out.below h M7.out.lt) Try.underlying36 rfl (by rw [e4_size]; kernel_rfl)) ((below_dr W41)) ?_
    (try simp only [sI, sS, sZ])
    refine wpBut_r1 (i := 2) (by kernel_rfl) ?_
    refine go_call 2 25 #[tt,tt,tt,tt,tt,ff,ff,ff,ff,ff,ff,ff,ff,ff,ff,ff,ff] rfl rfl rfl (by rfl) rfl rfl (by rfl) ent31 (by rfl) (Ht.out u t2 hu ht2 _) ?_
    rintro e wW411 ⟨m1, hm1, hm1r, rfl, hb⟩
    have hkW411 := held_next (below_dr W41) hb
    refine ⟨_, rfl, fun _ => hkW411, ?_⟩
    clear hb
    (try simp only [sI, sS, sZ])
    refine wpBut_r1 (i := 5) (by kernel_rfl) ?_
    refine go_call 5 28 #[tt,tt,tt,tt,tt,tt,ff,ff,ff,ff,ff,ff,ff,ff,ff,ff,ff] rfl rfl rfl (by rfl) rfl rfl (by rfl) ent31 (by rfl) (Ht.out u2 t hu2 ht _) ?_
    rintro e wW412 ⟨m2, hm2, hm2r, rfl, hb⟩
    have hkW412 := held_next hkW411 hb
    refine ⟨_, rfl, fun _ => hkW412, ?_⟩
    clear hb
    (try simp only [sI, sS, sZ])
    refine wpBut_r1 (i := 6) (by kernel_rfl) ?_
    refine go_call 6 29 #[tt,tt,tt,tt,tt,tt,tt,ff,ff,ff,ff,ff,ff,ff,ff,ff,ff] rfl rfl rfl (by rfl) rfl rfl (by rfl) ent41 (by rfl) (Hi1.out m1 m2 hm1 hm2 (r_mul m1 u t2 X1 Z2 _ hm1r Hur.out Ht2r.out rfl) (r_mul m2 u2 t X2 Z1 _ hm2r Hu2r.out Htr.out rfl) _) ?_
    rintro e wW413 ⟨rfl, hb⟩
    have hkW413 := held_next hkW412 hb
    refine ⟨_, rfl, fun _ => hkW413, ?_⟩
    clear hb
    (try simp only [sI, sS, sZ])
    refine go_take2 7 30 #[tt,tt,tt,tt,tt,tt,tt,tt,ff,ff,ff,ff,ff,ff,ff,ff,ff] (v := ?uv4) rfl rfl rfl (by kernel_rfl) (Or.inl ⟨by rfl, ?uy4⟩) (hkW413) ?urest4
    case uy4 => (intro _ _; go_simp; try with_reducible rfl)
    (try simp only [sI, sS, sZ])
    refine go_take2 8 31 #[tt,tt,tt,tt,tt,tt,tt,tt,tt,ff,ff,ff,ff,ff,ff,ff,ff] rfl rfl rfl (by kernel_rfl) (yieldsIf_load_row (by rfl) 36 _ rfl (yw2.heap.size) rfl 36 (e4 s) (fun _ h => M6.out.below h M6.out.lt) Try.underlying36 rfl (by rw [e4_size]; kernel_rfl)) (hkW413) ?_
    (try simp only [sI, sS, sZ])
    refine go_take2 9 32 #[tt,tt,tt,tt,tt,tt,tt,tt,tt,tt,ff,ff,ff,ff,ff,ff,ff] rfl rfl rfl (by kernel_rfl) (yieldsIf_load_row (by rfl) 36 _ rfl (yw23.heap.size) rfl 36 (e4 t2) (fun _ h => M10.out.below h M10.out.lt) Try.underlying36 rfl (by rw [e4_size]; kernel_rfl)) (hkW413) ?_
    (try simp only [sI, sS, sZ])
    refine go_take2 11 34 #[tt,tt,tt,tt,tt,tt,tt,tt,tt,tt,ff,tt,ff,ff,ff,ff,ff] rfl rfl rfl (by kernel_rfl) (yieldsIf_load_row (by rfl) 36 _ rfl (yw17.heap.size) rfl 36 (e4 s2) (fun _ h => M9.out.below h M9.out.lt) Try.underlying36 rfl (by rw [e4_size]; kernel_rfl)) (hkW413) ?_
    (try simp only [sI, sS, sZ])
    refine go_take2 12 35 #[tt,tt,tt,tt,tt,tt,tt,tt,tt,tt,ff,tt,tt,ff,ff,ff,ff] rfl rfl rfl (by kernel_rfl) (yieldsIf_load_row (by rfl) 36 _ rfl (yw5.heap.size) rfl 36 (e4 t) (fun _ h => M7.out.below h M7.out.lt) Try.underlying36 rfl (by rw [e4_size]; kernel_rfl)) (hkW413) ?_
    (try simp only [sI, sS, sZ])
    refine wpBut_r1 (i := 10) (by kernel_rfl) ?_
    refine go_call 10 33 #[tt,tt,tt,tt,tt,tt,tt,tt,tt,tt,tt,tt,tt,ff,ff,ff,ff] rfl rfl rfl (by rfl) rfl rfl (by rfl) ent31 (by rfl) (Ht.out s t2 hs ht2 _) ?_
    rintro e wW414 ⟨m3, hm3, hm3r, rfl, hb⟩
    have hkW414 := held_next hkW413 hb
    refine ⟨_, rfl, fun _ => hkW414, ?_⟩
    clear hb
    (try simp only [sI, sS, sZ])
    refine wpBut_r1 (i := 13) (by kernel_rfl) ?_
    refine go_call 13 36 #[tt,tt,tt,tt,tt,tt,tt,tt,tt,tt,tt,tt,tt,tt,ff,ff,ff] rfl rfl rfl (by rfl) rfl rfl (by rfl) ent31 (by rfl) (Ht.out s2 t hs2 ht _) ?_
    rintro e wW415 ⟨m4, hm4, hm4r, rfl, hb⟩
    have hkW415 := held_next hkW414 hb
    refine ⟨_, rfl, fun _ => hkW415, ?_⟩
    clear hb
    (try simp only [sI, sS, sZ])
    refine wpBut_r1 (i := 14) (by kernel_rfl) ?_
    refine go_call 14 37 #[tt,tt,tt,tt,tt,tt,tt,tt,tt,tt,tt,tt,tt,tt,tt,ff,ff] rfl rfl rfl (by rfl) rfl rfl (by rfl) ent41 (by rfl) (Hi2.out m3 m4 hm3 hm4 (r_mul m3 s t2 Y1 Z2 _ hm3r Hsr.out Ht2r.out rfl) (r_mul m4 s2 t Y2 Z1 _ hm4r Hs2r.out Htr.out rfl) _) ?_
    rintro e wW416 ⟨rfl, hb⟩
    have hkW416 := held_next hkW415 hb
    refine ⟨_, rfl, fun _ => hkW416, ?_⟩
    clear hb
    (try simp only [sI, sS, sZ])
    refine go_take2 15 38 #[tt,tt,tt,tt,tt,tt,tt,tt,tt,tt,tt,tt,tt,tt,tt,tt,ff] (v := ?uv5) rfl rfl rfl (by kernel_rfl) (Or.inl ⟨by rfl, ?uy5⟩) (hkW416) ?urest5
    case uy5 => (intro _ _; go_simp; try with_reducible rfl)
    (try simp only [sI, sS, sZ])
    refine go_take2 16 4 #[tt,tt,tt,tt,tt,tt,tt,tt,tt,tt,tt,tt,tt,tt,tt,tt,tt] (v := ?uv6) rfl rfl rfl (by kernel_rfl) (Or.inl ⟨by rfl, ?uy6⟩) (hkW416) ?urest6
    case uy6 => (intro _ _; go_simp; try with_reducible rfl)
    (try simp only [sI, sS, sZ])
    refine wpBut_done (by kernel_rfl) (NoPanic.normal ?_)
    replace M5 := Lib.hid (M5.out.call hkW416)
    replace M6 := Lib.hid (M6.out.call hkW416)
    replace M7 := Lib.hid (M7.out.call hkW416)
    replace M8 := Lib.hid (M8.out.call hkW416)
    replace M9 := Lib.hid (M9.out.call hkW416)
    replace M10 := Lib.hid (M10.out.call hkW416)
    replace HB := Lib.hid (held_next HB.out hkW416)
    go_wp2_with fail
    go_ret
    exact ⟨by simp, HB.out⟩
end Go.Proofs.Ytjiagjonlcadiaa
end
section
namespace Go.Proofs.Ytjiagjonlcadiaa
open Go.RowKit Go.Lib

theorem and_128 (a : Nat) (h : a < 256) : bits .and .u8 (a : Int) 128 = ((a / 128 * 128 : Nat) : Int) := by
  have : (List.range 256).all (fun a => bits .and .u8 (a : Int) 128 == ((a / 128 * 128 : Nat) : Int)) = true := by decide +kernel
  simpa using List.all_eq_true.1 this a (by simpa using h)
theorem andn_128 (a : Nat) (h : a < 256) : bits .andNot .u8 (a : Int) 128 = ((a % 128 : Nat) : Int) := by
  have : (List.range 256).all (fun a => bits .andNot .u8 (a : Int) 128 == ((a % 128 : Nat) : Int)) = true := by decide +kernel
  simpa using List.all_eq_true.1 this a (by simpa using h)
theorem dg31_any (n : Nat) (h : n < 115792089237316195423570985008687907853269984665640564039457584007913129639936) : ∃ c : Nat, dg 256 n 31 = (c : Int) ∧ c < 256 ∧ c / 128 = n / 57896044618658097711785492504343953926634992332820282019728792003956564819968 ∧ c = n / 256 ^ 31 % 256 := by
  refine ⟨n / 256 ^ 31 % 256, rfl, Nat.mod_lt _ (by decide), ?_, rfl⟩
  rw [show (256 : Nat) ^ 31 = 452312848583266388373324160190187140051835877600158453279131187530910662656 by decide +kernel]
  omega
theorem key_clear (n c : Nat) (hc : c = n / 256 ^ 31 % 256) (x : Int) (hx : x = ((c % 128 : Nat) : Int)) : row .u8 32 (upd (dg 256 n) 31 x) = k32 (n % 57896044618658097711785492504343953926634992332820282019728792003956564819968) := by
  refine row_ext _ _ _ _ fun i hi => ?_
  have e31 : (256 : Nat) ^ 31 = 452312848583266388373324160190187140051835877600158453279131187530910662656 := by decide +kernel
  by_cases e : i = 31
  · subst e
    rw [upd_same, hx, hc]
    unfold dg
    rw [e31]
    omega
  · rw [upd_ne _ _ _ _ e]
    unfold dg
    have e1 : 57896044618658097711785492504343953926634992332820282019728792003956564819968 = 256 ^ i * (256 * (128 * 256 ^ (30 - i))) := by
      rw [show 256 ^ i * (256 * (128 * 256 ^ (30 - i))) = 128 * (256 ^ i * 256 ^ (30 - i) * 256) by ac_rfl, ← Nat.pow_add, show i + (30 - i) = 30 by omega]
    rw [e1, Nat.mod_mul, Nat.add_mul_div_left _ _ (Nat.pow_pos (by omega)), Nat.mod_mul, Nat.div_eq_of_lt (Nat.mod_lt n (Nat.pow_pos (by omega) : 0 < 256 ^ i)), Nat.zero_add, Nat.add_mul_mod_self_left, Nat.mod_mod]
/-- is a text a point's, and which -/
def cof (n : Nat) : Bool × Nat × Nat := if n % 57896044618658097711785492504343953926634992332820282019728792003956564819968 < PP then bes (cx (n % 57896044618658097711785492504343953926634992332820282019728792003956564819968)) (decide (n / 57896044618658097711785492504343953926634992332820282019728792003956564819968 = 0)) (n % 57896044618658097711785492504343953926634992332820282019728792003956564819968) else (false, 0, 1)
theorem cof_yes (n : Nat) (h : n % 57896044618658097711785492504343953926634992332820282019728792003956564819968 < PP) : cof n = bes (cx (n % 57896044618658097711785492504343953926634992332820282019728792003956564819968)) (decide (n / 57896044618658097711785492504343953926634992332820282019728792003956564819968 = 0)) (n % 57896044618658097711785492504343953926634992332820282019728792003956564819968) := by unfold cof; rw [if_pos h]
theorem cof_no (n : Nat) (h : ¬ n % 57896044618658097711785492504343953926634992332820282019728792003956564819968 < PP) : cof n = (false, 0, 1) := by unfold cof; rw [if_neg h]
theorem even_bit (c q : Nat) (h : c / 128 = q) : (((c / 128 * 128 : Nat) : Int) == 0) = decide (q = 0) := by
  rw [← h]
  by_cases h0 : c / 128 = 0
  · rw [h0]; rfl
  · rw [decide_eq_false h0]
    exact beq_eq_false_iff_ne.2 (by omega)
theorem m255_lt (n : Nat) : n % 57896044618658097711785492504343953926634992332820282019728792003956564819968 < 115792089237316195423570985008687907853269984665640564039457584007913129639936 := by omega
theorem m255_m (n : Nat) : n % 57896044618658097711785492504343953926634992332820282019728792003956564819968 % 57896044618658097711785492504343953926634992332820282019728792003956564819968 = n % 57896044618658097711785492504343953926634992332820282019728792003956564819968 := Nat.mod_mod _ _

set_option maxRecDepth 100000 in
set_option linter.unusedSimpArgs false in
set_option maxHeartbeats 8000000 in
theorem pof_any (n : Nat) (hn : n < 115792089237316195423570985008687907853269984665640564039457584007913129639936) (w : World) : Calls Try.prog 47 #[.agg (k32 n)] w (BeP (cof n) w) := by
  obtain ⟨c, hc, hcl, hcq, hcd⟩ := dg31_any n hn
  have hand := and_128 c hcl
  have handn := andn_128 c hcl
  have hclr := key_clear n c hcd ((c % 128 : Nat) : Int) rfl
  have hyes := cof_yes n
  have hno := cof_no n
  obtain ⟨ev, hev⟩ : ∃ b, b = decide (n / 57896044618658097711785492504343953926634992332820282019728792003956564819968 = 0) := ⟨_, rfl⟩
  have hbit := even_bit c _ hcq
  rw [← hev] at hyes hbit
  have hl0 := m255_lt n
  have hmm := m255_m n
  obtain ⟨n0, hn0⟩ : ∃ m, m = n % 57896044618658097711785492504343953926634992332820282019728792003956564819968 := ⟨_, rfl⟩
  rw [← hn0] at hclr hyes hno hl0 hmm
  have hfo := fun w => fof_a n0 n0 hl0 hmm.symm w
  have hkey := fun w => key_any n0 hl0 w
  have hbe := fun w => beside_any n0 ev hl0 w
  obtain ⟨c1, hc1⟩ : ∃ c1 : Nat, c1 = c / 128 * 128 := ⟨_, rfl⟩
  obtain ⟨c2, hc2⟩ : ∃ c2 : Nat, c2 = c % 128 := ⟨_, rfl⟩
  rw [← hc1] at hand hbit
  rw [← hc2] at handn hclr
  obtain ⟨R, hR⟩ : ∃ R, R = cof n := ⟨_, rfl⟩
  rw [← hR] at hyes hno ⊢
  clear hR hc1 hc2 hn0 hmm hev hcq hcd
  have Hclr := Lib.hid hclr; clear hclr
  have Hyes := Lib.hid hyes; clear hyes
  have Hno := Lib.hid hno; clear hno
  have Hfo := Lib.hid hfo; clear hfo
  have Hkey := Lib.hid hkey; clear hkey
  have Hbe := Lib.hid hbe; clear hbe
  have Hc := Lib.hid hc; clear hc
  have Hl0 := Lib.hid hl0; clear hl0
  go_enter Try.func47, Try.ntmps47
  repeat ((fail_if_success (with_reducible (show wpList _ _ _ _ _ _))); go_step)
  iterate 3 (refine wpList_step (fun K hK => ?_); go_simp; (try go_bits); refine hK _ _ ?_; clear hK K)
  refine wpList_nil ?_
  have M1 := Lib.hid ((Has.new w  (k32 n) 24).alloc (.cells (#[.int .u64 0, .int .u64 0, .int .u64 0, .int .u64 0, .int .u64 0, .int .u64 0, .int .u64 0, .int .u64 0, .int .u64 0, .int .u64 0, .int .u64 0, .int .u64 0, .bool false] : Array Value) 53))
  have M2 := Lib.hid (HasN.new1 w (.cells (k32 n) 24) (#[.int .u64 0, .int .u64 0, .int .u64 0, .int .u64 0, .int .u64 0, .int .u64 0, .int .u64 0, .int .u64 0, .int .u64 0, .int .u64 0, .int .u64 0, .int .u64 0, .bool false] : Array Value) 53 13 (by kernel_rfl))
  have HB := Lib.hid (below_2 w (.cells (k32 n) 24) (.cells (#[.int .u64 0, .int .u64 0, .int .u64 0, .int .u64 0, .int .u64 0, .int .u64 0, .int .u64 0, .int .u64 0, .int .u64 0, .int .u64 0, .int .u64 0, .int .u64 0, .bool false] : Array Value) 53))
  obtain ⟨yw1, hwyw1⟩ : ∃ ww, ww = ((w.alloc (.cells (k32 n) 24)).alloc (.cells (#[.int .u64 0, .int .u64 0, .int .u64 0, .int .u64 0, .int .u64 0, .int .u64 0, .int .u64 0, .int .u64 0, .int .u64 0, .int .u64 0, .int .u64 0, .int .u64 0, .bool false] : Array Value) 53)) := ⟨_, rfl⟩
  rw [← hwyw1] at M1 M2 HB ⊢
  clear hwyw1
  have h1 := M1.out.cell 31 (by omega)
  rw [Hc.out] at h1
  have hfz := M1.out.frozen 31
  repeat ((fail_if_success (with_reducible (show wpList _ _ _ _ _ _))); go_step)
  iterate 5 (refine wpList_step (fun K hK => ?_); go_simp; (try go_bits); refine hK _ _ ?_; clear hK K)
  refine wpList_nil ?_
  repeat ((fail_if_success (with_reducible (show wpList _ _ _ _ _ _))); go_step)
  iterate 5 (refine wpList_step (fun K hK => ?_); go_simp; (try go_bits); refine hK _ _ ?_; clear hK K)
  refine wpList_nil ?_
  clear h1 hfz
  have kq := M1.out.set 31 ((c2 : Int)); rw [Hclr.out] at kq; clear M1; have M1 := Lib.hid kq; clear kq
  have kq := M2.out.other ⟨w.heap.size, 31, none⟩ (.int .u8 ((c2 : Int))) (by simp <;> omega); clear M2; have M2 := Lib.hid kq; clear kq
  replace HB := Lib.hid (HB.out.setCell (p := ⟨w.heap.size, 31, none⟩) (show w.heap.size ≤ w.heap.size by omega) (.int .u8 ((c2 : Int))))
  obtain ⟨yw2, hwyw2⟩ : ∃ ww, ww = yw1.setCell ⟨w.heap.size, 31, none⟩ (.int .u8 ((c2 : Int))) := ⟨_, rfl⟩
  rw [← hwyw2] at M1 M2 HB ⊢
  clear hwyw2
  clear hand handn hbit hcl
  repeat ((fail_if_success (with_reducible (show wpList _ _ _ _ _ _))); go_step)
  refine wpList_load (by rfl) 24 _ rfl (w.heap.size) rfl 24 (k32 n0) M1.out Try.underlying24 rfl (by rw [k32_size]; kernel_rfl) 14 rfl ?_
  (try simp only [Act.put, sI, sS, sZ])
  refine wpList_call (by rfl) rfl rfl (by rfl) ent30 (by rfl) (Hfo.out _) 15 rfl ?_
  rintro e uw1 ⟨rfl, hb⟩
  replace M1 := Lib.hid (M1.out.call hb)
  replace M2 := Lib.hid (M2.out.call hb)
  replace HB := Lib.hid (held_next HB.out hb)
  refine ⟨_, rfl, ?_⟩
  clear hb
  (try simp only [Act.put, sI, sS, sZ])
  refine wpList_alloc (by rfl) 36 rfl _ al36 5 rfl ?_
  intro yw3 hw2
  have hlt4 := M1.out.lt
  have hlt5 := M2.out.lt
  have hsz := HB.out.size
  replace M1 := Lib.hid (M1.out.alloc (.cells z36 36))
  replace M2 := Lib.hid (M2.out.alloc (.cells z36 36))
  have M5 := Lib.hid (HasN.new uw1 z36 36 4 (by kernel_rfl))
  replace HB := Lib.hid (HB.out.alloc hsz (.cells z36 36))
  rw [← hw2] at M1 M2 M5 HB; clear hw2
  (try simp only [Act.put, sI, sS, sZ])
  first | (obtain ⟨Zq, hZ, mZ⟩ := M5.out) | (obtain ⟨Zq, hZ, mZ⟩ := M5.out.toN (e4_size ..))
  refine wpList_store2 (by rfl) 36 _ _ rfl rfl (uw1.heap.size) (e4 n0) rfl rfl 36 Zq mZ (by rw [e4_size]; kernel_rfl) (hZ.trans (e4_size ..).symm) (row_one _ _ _) ?_
  intro yw6 hw2
  replace M1 := Lib.hid (M1.out.setRow_other (uw1.heap.size) (e4 n0) (by omega))
  replace M2 := Lib.hid (M2.out.setRow_other (uw1.heap.size) (e4 n0) (by omega))
  replace M5 := Lib.hid (mZ.setRow (e4 n0))
  replace HB := Lib.hid (below_setRow HB.out (uw1.heap.size) (e4 n0) (by omega))
  rw [← hw2] at M1 M2 M5 HB; clear mZ hZ hw2
  refine wpList_nil ?_
  repeat ((fail_if_success (with_reducible (show wpList _ _ _ _ _ _))); go_step)
  by_cases hlt : n0 < PP
  · have hm := Nat.mod_eq_of_lt hlt
    have hk2 := Hkey.out
    rw [hm] at hk2
    have heq := fun w => k32_same n0 Hl0.out w
    have hb2 := Hbe.out
    rw [hm] at hb2
    have hR := Hyes.out hlt
    rw [← hR] at hb2
    clear hm hR
    have Hk2 := Lib.hid hk2; clear hk2
    have Hb2 := Lib.hid hb2; clear hb2
    refine wp_region_noPanic ?_
    refine wp_region_go 99 4 #[false, false, false, false] (by kernel_rfl) rfl rfl ?_
    intro W7 hW7
    rw [← hW7] at M1 M2 M5 HB
    clear hW7
    refine go_take2 0 16 #[true, false, false, false] rfl rfl rfl (by kernel_rfl) (yieldsIf_load_row (by rfl) 36 _ rfl (uw1.heap.size) rfl 36 (e4 n0) (fun _ h => M5.out.below h M5.out.lt) Try.underlying36 rfl (by rw [e4_size]; kernel_rfl)) ((below_dr W7)) ?_
    (try simp only [sI, sS, sZ])
    refine go_take2 2 18 #[true, false, true, false] rfl rfl rfl (by kernel_rfl) (yieldsIf_load_row (by rfl) 24 _ rfl (w.heap.size) rfl 24 (k32 n0) (fun _ h => M1.out.below h M1.out.lt) Try.underlying24 rfl (by rw [k32_size]; kernel_rfl)) ((below_dr W7)) ?_
    (try simp only [sI, sS, sZ])
    refine wpBut_r1 (i := 1) (by kernel_rfl) ?_
    refine go_call 1 17 #[true, true, true, false] rfl rfl rfl (by rfl) rfl rfl (by rfl) ent73 (by rfl) (Hk2.out _) ?_
    rintro e wW71 ⟨rfl, hb⟩
    have hkW71 := held_next (below_dr W7) hb
    refine ⟨_, rfl, fun _ => hkW71, ?_⟩
    clear hb
    (try simp only [sI, sS, sZ])
    refine go_take2 3 19 #[true, true, true, true] (v := ?uv1) rfl rfl rfl (by kernel_rfl) (Or.inl ⟨by rfl, ?uy1⟩) (hkW71) ?urest1
    case uy1 => (intro _ _; go_simp; try with_reducible rfl)
    (try simp only [sI, sS, sZ])
    refine wpBut_done (by kernel_rfl) (NoPanic.normal ?_)
    replace M1 := Lib.hid (M1.out.call hkW71)
    replace M2 := Lib.hid (M2.out.call hkW71)
    replace M5 := Lib.hid (M5.out.call hkW71)
    replace HB := Lib.hid (held_next HB.out hkW71)
    clear heq
    repeat ((fail_if_success (with_reducible (show wpList _ _ _ _ _ _))); go_step)
    refine wpList_load (by rfl) 36 _ rfl (uw1.heap.size) rfl 36 (e4 n0) M5.out Try.underlying36 rfl (by rw [e4_size]; kernel_rfl) 21 rfl ?_
    (try simp only [Act.put, sI, sS, sZ])
    (refine wpList_step (fun K hK => ?_); go_simp; (try go_bits); refine hK _ _ ?_; clear hK K)
    refine wpList_call (by rfl) rfl rfl (by rfl) ent87 (by rfl) (Hb2.out _) 23 rfl ?_
    rintro e uw2 ⟨px, py, pz, pb, hpt, rfl, hb⟩
    replace M1 := Lib.hid (M1.out.call hb)
    replace M2 := Lib.hid (M2.out.call hb)
    replace M5 := Lib.hid (M5.out.call hb)
    replace HB := Lib.hid (held_next HB.out hb)
    refine ⟨_, rfl, ?_⟩
    clear hb
    (try simp only [Act.put, sI, sS, sZ])
    iterate 2 (refine wpList_step (fun K hK => ?_); go_simp; (try go_bits); refine hK _ _ ?_; clear hK K)
    first | (obtain ⟨Zq, hZ, mZ⟩ := M2.out) | (obtain ⟨Zq, hZ, mZ⟩ := M2.out.toN (pt_size ..))
    refine wpList_store2 (by rfl) 53 _ _ rfl rfl (w.heap.size + 1) (pt px py pz pb) rfl rfl 53 Zq mZ (by rw [pt_size]; kernel_rfl) (hZ.trans (pt_size ..).symm) (pt_one _ _ _ _) ?_
    intro yw8 hw2
    replace M1 := Lib.hid (M1.out.setRow_other (w.heap.size + 1) (pt px py pz pb) (by omega))
    replace M5 := Lib.hid (M5.out.setRow_other (w.heap.size + 1) (pt px py pz pb) (by omega))
    replace M2 := Lib.hid (mZ.setRow (pt px py pz pb))
    replace HB := Lib.hid (below_setRow HB.out (w.heap.size + 1) (pt px py pz pb) (by omega))
    rw [← hw2] at M1 M5 M2 HB; clear mZ hZ hw2
    (refine wpList_step (fun K hK => ?_); go_simp; (try go_bits); refine hK _ _ ?_; clear hK K)
    refine wpList_nil ?_
    go_wp2_with fail
    exact bodyPost_ret (v := .tuple #[.agg (pt px py pz pb), .bool R.1]) (results_cell_tmp_row (fn := Try.f47) (p := 2) (t2 := 3) (ty := 53) (t := 53) (by rfl) _ _ (w.heap.size + 1) _ _ _ rfl M2.out Try.underlying53 rfl (by rw [pt_size]; kernel_rfl)) rfl ⟨px, py, pz, pb, hpt, rfl, HB.out⟩
  · have hne : ¬ n0 % PP = n0 := by
      have := Nat.mod_lt n0 PP_pos
      omega
    have heq := fun w => k32_eq (n0 % PP) n0 (modPP_lt n0) Hl0.out w
    rw [decide_eq_false hne] at heq
    obtain ⟨r, hr⟩ : ∃ r, r = n0 % PP := ⟨_, rfl⟩
    have hk2 := Hkey.out
    rw [← hr] at hk2 heq
    have hR := Hno.out hlt
    clear hr hne
    have Hk2 := Lib.hid hk2; clear hk2
    have HR := Lib.hid hR; clear hR
    refine wp_region_noPanic ?_
    refine wp_region_go 99 4 #[false, false, false, false] (by kernel_rfl) rfl rfl ?_
    intro W7 hW7
    rw [← hW7] at M1 M2 M5 HB
    clear hW7
    refine go_take2 0 16 #[true, false, false, false] rfl rfl rfl (by kernel_rfl) (yieldsIf_load_row (by rfl) 36 _ rfl (uw1.heap.size) rfl 36 (e4 n0) (fun _ h => M5.out.below h M5.out.lt) Try.underlying36 rfl (by rw [e4_size]; kernel_rfl)) ((below_dr W7)) ?_
    (try simp only [sI, sS, sZ])
    refine go_take2 2 18 #[true, false, true, false] rfl rfl rfl (by kernel_rfl) (yieldsIf_load_row (by rfl) 24 _ rfl (w.heap.size) rfl 24 (k32 n0) (fun _ h => M1.out.below h M1.out.lt) Try.underlying24 rfl (by rw [k32_size]; kernel_rfl)) ((below_dr W7)) ?_
    (try simp only [sI, sS, sZ])
    refine wpBut_r1 (i := 1) (by kernel_rfl) ?_
    refine go_call 1 17 #[true, true, true, false] rfl rfl rfl (by rfl) rfl rfl (by rfl) ent73 (by rfl) (Hk2.out _) ?_
    rintro e wW71 ⟨rfl, hb⟩
    have hkW71 := held_next (below_dr W7) hb
    refine ⟨_, rfl, fun _ => hkW71, ?_⟩
    clear hb
    (try simp only [sI, sS, sZ])
    refine go_take2 3 19 #[true, true, true, true] (v := ?uv2) rfl rfl rfl (by kernel_rfl) (Or.inl ⟨by rfl, ?uy2⟩) (hkW71) ?urest2
    case uy2 => (intro _ _; go_simp; try with_reducible rfl)
    (try simp only [sI, sS, sZ])
    refine wpBut_done (by kernel_rfl) (NoPanic.normal ?_)
    replace M1 := Lib.hid (M1.out.call hkW71)
    replace M2 := Lib.hid (M2.out.call hkW71)
    replace M5 := Lib.hid (M5.out.call hkW71)
    replace HB := Lib.hid (held_next HB.out hkW71)
    clear heq
    repeat ((fail_if_success (with_reducible (show wpList _ _ _ _ _ _))); go_step)
    refine wpList_built (by rfl) 53 _ rfl _ (by rfl) (pt 0 0 0 false) (bd53z) 20 rfl ?_
    (try simp only [Act.put, sI, sS, sZ])
    first | (obtain ⟨Zq, hZ, mZ⟩ := M2.out) | (obtain ⟨Zq, hZ, mZ⟩ := M2.out.toN (pt_size ..))
    refine wpList_store2 (by rfl) 53 _ _ rfl rfl (w.heap.size + 1) (pt 0 0 0 false) rfl rfl 53 Zq mZ (by rw [pt_size]; kernel_rfl) (hZ.trans (pt_size ..).symm) (pt_one _ _ _ _) ?_
    intro yw8 hw2
    replace M1 := Lib.hid (M1.out.setRow_other (w.heap.size + 1) (pt 0 0 0 false) (by omega))
    replace M5 := Lib.hid (M5.out.setRow_other (w.heap.size + 1) (pt 0 0 0 false) (by omega))
    replace M2 := Lib.hid (mZ.setRow (pt 0 0 0 false))
    replace HB := Lib.hid (below_setRow HB.out (w.heap.size + 1) (pt 0 0 0 false) (by omega))
    rw [← hw2] at M1 M5 M2 HB; clear mZ hZ hw2
    (refine wpList_step (fun K hK => ?_); go_simp; (try go_bits); refine hK _ _ ?_; clear hK K)
    refine wpList_nil ?_
    go_wp2_with fail
    exact bodyPost_ret (v := .tuple #[.agg (pt 0 0 0 false), .bool false]) (results_cell_tmp_row (fn := Try.f47) (p := 2) (t2 := 3) (ty := 53) (t := 53) (by rfl) _ _ (w.heap.size + 1) _ _ _ rfl M2.out Try.underlying53 rfl (by rw [pt_size]; kernel_rfl)) rfl ⟨0, 0, 0, false, by rw [HR.out]; exact ⟨⟨by decide, by decide, by decide⟩, .inr ⟨rfl, by rw [Nat.zero_mod], by rw [one_PP], rfl⟩⟩, by rw [HR.out], HB.out⟩
end Go.Proofs.Ytjiagjonlcadiaa
end
section
namespace Go.Proofs.Ytjiagjonlcadiaa
open Go.RowKit Go.Lib

def GX : Nat := 15112221349535400772501151409588531511454012693041857206046113283949847762202
def GY : Nat := 46316835694926478169428394003475163141307993866256225615783033603165251855960
theorem GX_lt : GX < PP := by decide +kernel
theorem GY_lt : GY < PP := by decide +kernel
theorem gy_pm : 4 * Nm.pm PP 256 5 (PP - 2) % PP = GY := by decide +kernel
theorem gx_pm : (GY * GY % PP + (PP - 1)) % PP * Nm.pm PP 256 ((SL * (GY * GY % PP) % PP + 1) % PP) (PP - 2) % PP = GX * GX % PP := by decide +kernel
theorem gy_val : 4 * pwm 5 (PP - 2) % PP = GY := by rw [pwm_pm _ _ pp2_lt, gy_pm]
theorem cx_pm (Y r : Nat) (h : (Y * Y % PP + (PP - 1)) % PP * Nm.pm PP 256 ((SL * (Y * Y % PP) % PP + 1) % PP) (PP - 2) % PP = r) : cx Y = r := by
  unfold cx; rw [pwm_pm _ _ pp2_lt, h]
theorem root_even (r : Nat) (hr : r < PP) (he : r % 2 = 0) : rt3 (r * r % PP) = r := by
  rcases rt3_root r with h | h
  · rw [h, Nat.mod_eq_of_lt hr]
  · have h1 := rt3_even (r * r % PP)
    have h2 := rt3_lt (r * r % PP)
    have h3 := PP_odd
    by_cases hh : rt3 (r * r % PP) + r < PP
    · rw [Nat.mod_eq_of_lt hh] at h; omega
    · have h4 : (rt3 (r * r % PP) + r) = PP + (rt3 (r * r % PP) + r - PP) := by omega
      rw [h4, Nat.add_mod_left, Nat.mod_eq_of_lt (by omega)] at h
      omega
theorem gx_even : GX % 2 = 0 := by decide +kernel
theorem gen_bes : bes (cx GY) true GY = (true, GX, GY) := by
  rw [cx_pm GY _ gx_pm, bes_even _ _ (rtok_sq GX), root_even GX GX_lt gx_even]
theorem pwm_base1 (e : Nat) : pwm 1 e = 1 := by unfold pwm; rw [Nat.one_pow, one_PP]
theorem keyn_one (X Y : Nat) (hX : X < PP) (hY : Y < PP) : keyn X Y 1 = Y + X % 2 * 57896044618658097711785492504343953926634992332820282019728792003956564819968 := by
  unfold keyn; rw [pwm_base1, Nat.mul_one, Nat.mul_one, Nat.mod_eq_of_lt hX, Nat.mod_eq_of_lt hY]
theorem gen_key : keyn GX GY 1 = GY := by rw [keyn_one GX GY GX_lt GY_lt, gx_even, Nat.zero_mul, Nat.add_zero]

set_option maxRecDepth 100000 in
set_option linter.unusedSimpArgs false in
set_option maxHeartbeats 8000000 in
theorem gen_any (w : World) : Calls Try.prog 58 #[] w (PtP GX GY 1 w) := by
  have h4 := fun w => fint_nn 4 (by decide) w
  have h5 := fun w => fint_nn 5 (by decide) w
  have hov := fun w => over_any 4 5 (by decide) (by decide) w
  rw [gy_val] at hov
  have hbe : ∀ m, m < 115792089237316195423570985008687907853269984665640564039457584007913129639936 → m % PP = GY → ∀ w, Calls Try.prog 87 #[.agg (e4 m), .bool true] w fun e w' => ∃ (x y z1 : Nat) (b : Bool), IsPt x y z1 b GX GY 1 ∧ e = .returned (.tuple #[.agg (pt x y z1 b), .bool true]) ∧ Below w.heap.size w w' := by
    intro m hm hr w
    have := beside_any m true hm w
    rw [hr, gen_bes] at this
    refine this.mono ?_
    rintro e w' ⟨x, y, z1, b, h1, h2, h3⟩
    rw [one_PP] at h1
    exact ⟨x, y, z1, b, h1, h2, h3⟩
  have H4 := Lib.hid h4; clear h4
  have H5 := Lib.hid h5; clear h5
  have Hov := Lib.hid hov; clear hov
  have Hbe := Lib.hid hbe; clear hbe
  go_enter Try.func58, Try.ntmps58
  repeat ((fail_if_success (with_reducible (show wpList _ _ _ _ _ _))); go_step)
  (refine wpList_step (fun K hK => ?_); go_simp; (try go_bits); refine hK _ _ ?_; clear hK K)
  refine wpList_nil ?_
  have M0 := Lib.hid (HasN.new w  (#[.int .u64 0, .int .u64 0, .int .u64 0, .int .u64 0, .int .u64 0, .int .u64 0, .int .u64 0, .int .u64 0, .int .u64 0, .int .u64 0, .int .u64 0, .int .u64 0, .bool false] : Array Value) 53 13 (by kernel_rfl))
  have HB := Lib.hid (below_1 w (.cells (#[.int .u64 0, .int .u64 0, .int .u64 0, .int .u64 0, .int .u64 0, .int .u64 0, .int .u64 0, .int .u64 0, .int .u64 0, .int .u64 0, .int .u64 0, .int .u64 0, .bool false] : Array Value) 53))
  obtain ⟨yw1, hwyw1⟩ : ∃ ww, ww = (w.alloc (.cells (#[.int .u64 0, .int .u64 0, .int .u64 0, .int .u64 0, .int .u64 0, .int .u64 0, .int .u64 0, .int .u64 0, .int .u64 0, .int .u64 0, .int .u64 0, .int .u64 0, .bool false] : Array Value) 53)) := ⟨_, rfl⟩
  rw [← hwyw1] at M0 HB ⊢
  clear hwyw1
  repeat ((fail_if_success (with_reducible (show wpList _ _ _ _ _ _))); go_step)
  refine wpList_call (by rfl) rfl rfl (by rfl) ent34 (by rfl) (H4.out _) 4 rfl ?_
  rintro e uw1 ⟨rfl, hb⟩
  replace M0 := Lib.hid (M0.out.call hb)
  replace HB := Lib.hid (held_next HB.out hb)
  refine ⟨_, rfl, ?_⟩
  clear hb
  (try simp only [Act.put, sI, sS, sZ])
  refine wpList_call (by rfl) rfl rfl (by rfl) ent34 (by rfl) (H5.out _) 5 rfl ?_
  rintro e uw2 ⟨rfl, hb⟩
  replace M0 := Lib.hid (M0.out.call hb)
  replace HB := Lib.hid (held_next HB.out hb)
  refine ⟨_, rfl, ?_⟩
  clear hb
  (try simp only [Act.put, sI, sS, sZ])
  refine wpList_call (by rfl) rfl rfl (by rfl) ent42 (by rfl) (Hov.out _) 6 rfl ?_
  rintro e uw3 ⟨m, hm, hmr, rfl, hb⟩
  replace M0 := Lib.hid (M0.out.call hb)
  replace HB := Lib.hid (held_next HB.out hb)
  refine ⟨_, rfl, ?_⟩
  clear hb
  (try simp only [Act.put, sI, sS, sZ])
  refine wpList_call (by rfl) rfl rfl (by rfl) ent87 (by rfl) (Hbe.out m hm hmr _) 7 rfl ?_
  rintro e uw4 ⟨px, py, pz, pb, hpt, rfl, hb⟩
  replace M0 := Lib.hid (M0.out.call hb)
  replace HB := Lib.hid (held_next HB.out hb)
  refine ⟨_, rfl, ?_⟩
  clear hb
  (try simp only [Act.put, sI, sS, sZ])
  iterate 3 (refine wpList_step (fun K hK => ?_); go_simp; (try go_bits); refine hK _ _ ?_; clear hK K)
  refine wpList_alloc (by rfl) 53 rfl _ al53 1 rfl ?_
  intro yw2 hw2
  have hlt3 := M0.out.lt
  have hsz := HB.out.size
  replace M0 := Lib.hid (M0.out.alloc (.cells z53 53))
  have M1 := Lib.hid (HasN.new uw4 z53 53 13 (by kernel_rfl))
  replace HB := Lib.hid (HB.out.alloc hsz (.cells z53 53))
  rw [← hw2] at M0 M1 HB; clear hw2
  (try simp only [Act.put, sI, sS, sZ])
  first | (obtain ⟨Zq, hZ, mZ⟩ := M1.out) | (obtain ⟨Zq, hZ, mZ⟩ := M1.out.toN (pt_size ..))
  refine wpList_store2 (by rfl) 53 _ _ rfl rfl (uw4.heap.size) (pt px py pz pb) rfl rfl 53 Zq mZ (by rw [pt_size]; kernel_rfl) (hZ.trans (pt_size ..).symm) (pt_one _ _ _ _) ?_
  intro yw4 hw2
  replace M0 := Lib.hid (M0.out.setRow_other (uw4.heap.size) (pt px py pz pb) (by omega))
  replace M1 := Lib.hid (mZ.setRow (pt px py pz pb))
  replace HB := Lib.hid (below_setRow HB.out (uw4.heap.size) (pt px py pz pb) (by omega))
  rw [← hw2] at M0 M1 HB; clear mZ hZ hw2
  (refine wpList_step (fun K hK => ?_); go_simp; (try go_bits); refine hK _ _ ?_; clear hK K)
  refine wpList_nil ?_
  repeat ((fail_if_success (with_reducible (show wpList _ _ _ _ _ _))); go_step)
  refine wpList_load (by rfl) 53 _ rfl (uw4.heap.size) rfl 53 (pt px py pz pb) M1.out Try.underlying53 rfl (by rw [pt_size]; kernel_rfl) 10 rfl ?_
  (try simp only [Act.put, sI, sS, sZ])
  first | (obtain ⟨Zq, hZ, mZ⟩ := M0.out) | (obtain ⟨Zq, hZ, mZ⟩ := M0.out.toN (pt_size ..))
  refine wpList_store2 (by rfl) 53 _ _ rfl rfl (w.heap.size) (pt px py pz pb) rfl rfl 53 Zq mZ (by rw [pt_size]; kernel_rfl) (hZ.trans (pt_size ..).symm) (pt_one _ _ _ _) ?_
  intro yw5 hw2
  replace M1 := Lib.hid (M1.out.setRow_other (w.heap.size) (pt px py pz pb) (by omega))
  replace M0 := Lib.hid (mZ.setRow (pt px py pz pb))
  replace HB := Lib.hid (below_setRow HB.out (w.heap.size) (pt px py pz pb) (by omega))
  rw [← hw2] at M1 M0 HB; clear mZ hZ hw2
  refine wpList_nil ?_
  go_wp2_with fail
  exact bodyPost_ret (v := .agg (pt px py pz pb)) (results_cell_row (t := 53) (by rfl) _ _ (w.heap.size) _ _ _ rfl M0.out Try.underlying53 rfl (by rw [pt_size]; kernel_rfl)) rfl ⟨px, py, pz, pb, hpt, rfl, HB.out⟩

theorem gen_minus : (decide ((padd SL GX GY 1 (negP GX) GY 1).1 * 1 % PP = 0 * (padd SL GX GY 1 (negP GX) GY 1).2.2 % PP) && decide ((padd SL GX GY 1 (negP GX) GY 1).2.1 * 1 % PP = 1 * (padd SL GX GY 1 (negP GX) GY 1).2.2 % PP)) = true := by decide +kernel
theorem zero_pt : IsPt 0 0 0 false 0 1 1 := ⟨⟨by decide, by decide, by decide⟩, .inr ⟨rfl, Nat.zero_mod _, one_PP, one_PP⟩⟩

set_option maxRecDepth 100000 in
set_option linter.unusedSimpArgs false in
set_option maxHeartbeats 8000000 in
theorem law4_alive (w : World) : Calls Try.prog 46 #[] w fun e w' => e = .returned (.bool true) ∧ Below w.heap.size w w' := by
  have hg := gen_any
  have hk := fun x y z b h w => pkey_any x y z b GX GY 1 h w
  simp only [gen_key] at hk
  have hmi := fun x y z b h x2 y2 z2 b2 h2 w => pminus_any x y z b GX GY 1 h x2 y2 z2 b2 GX GY 1 h2 w
  have hgm := gen_minus
  obtain ⟨R, hR⟩ : ∃ R, R = padd SL GX GY 1 (negP GX) GY 1 := ⟨_, rfl⟩
  rw [← hR] at hgm
  simp only [← hR] at hmi
  have his : ∀ x y z b, IsPt x y z b R.1 R.2.1 R.2.2 → ∀ w, Calls Try.prog 55 #[.agg (pt x y z b), .agg (pt 0 0 0 false)] w fun e w' => e = .returned (.bool true) ∧ Below w.heap.size w w' := by
    intro x y z b h w
    have := pis_any x y z b R.1 R.2.1 R.2.2 h 0 0 0 false 0 1 1 zero_pt w
    rwa [hgm] at this
  have hc0 : dg 256 GY 0 = 88 := by decide +kernel
  have hc1 : dg 256 GY 1 = 102 := by decide +kernel
  have hc31 : dg 256 GY 31 = 102 := by decide +kernel
  obtain ⟨gy, hgy⟩ : ∃ g, g = GY := ⟨_, rfl⟩
  rw [← hgy] at hc0 hc1 hc31
  simp only [← hgy] at hg hk hmi
  obtain ⟨gx, hgx⟩ : ∃ g, g = GX := ⟨_, rfl⟩
  simp only [← hgx] at hg hk hmi
  clear hR hgm hgy hgx
  have Hg := Lib.hid hg; clear hg
  have Hk := Lib.hid hk; clear hk
  have Hmi := Lib.hid hmi; clear hmi
  have His := Lib.hid his; clear his
  have Hc0 := Lib.hid hc0; clear hc0
  have Hc1 := Lib.hid hc1; clear hc1
  have Hc31 := Lib.hid hc31; clear hc31
  go_enter Try.func46, Try.ntmps46
  repeat ((fail_if_success (with_reducible (show wpList _ _ _ _ _ _))); go_step)
  (refine wpList_step (fun K hK => ?_); go_simp; (try go_bits); refine hK _ _ ?_; clear hK K)
  refine wpList_nil ?_
  have HB := Lib.hid (Below.refl w.heap.size w)
  repeat ((fail_if_success (with_reducible (show wpList _ _ _ _ _ _))); go_step)
  refine wpList_call (by rfl) rfl rfl (by rfl) ent58 (by rfl) (Hg.out _) 2 rfl ?_
  rintro e uw1 ⟨x1, y1, c1, b1, p1, rfl, hb⟩
  replace HB := Lib.hid (held_next HB.out hb)
  refine ⟨_, rfl, ?_⟩
  clear hb
  (try simp only [Act.put, sI, sS, sZ])
  refine wpList_call (by rfl) rfl rfl (by rfl) ent49 (by rfl) (Hk.out x1 y1 c1 b1 p1 _) 3 rfl ?_
  rintro e uw2 ⟨rfl, hb⟩
  replace HB := Lib.hid (held_next HB.out hb)
  refine ⟨_, rfl, ?_⟩
  clear hb
  (try simp only [Act.put, sI, sS, sZ])
  refine wpList_alloc (by rfl) 24 rfl _ al24 1 rfl ?_
  intro yw1 hw2
  have hsz := HB.out.size
  have M1 := Lib.hid (HasN.new uw2 z24 24 32 (by kernel_rfl))
  replace HB := Lib.hid (HB.out.alloc hsz (.cells z24 24))
  rw [← hw2] at M1 HB; clear hw2
  (try simp only [Act.put, sI, sS, sZ])
  first | (obtain ⟨Zq, hZ, mZ⟩ := M1.out) | (obtain ⟨Zq, hZ, mZ⟩ := M1.out.toN (k32_size ..))
  refine wpList_store2 (by rfl) 24 _ _ rfl rfl (uw2.heap.size) (k32 gy) rfl rfl 24 Zq mZ (by rw [k32_size]; kernel_rfl) (hZ.trans (k32_size ..).symm) (row_one _ _ _) ?_
  intro yw2 hw2
  replace M1 := Lib.hid (mZ.setRow (k32 gy))
  replace HB := Lib.hid (below_setRow HB.out (uw2.heap.size) (k32 gy) (by omega))
  rw [← hw2] at M1 HB; clear mZ hZ hw2
  refine wpList_nil ?_
  clear p1
  have h0 := M1.out.cell 0 (by omega)
  have h1 := M1.out.cell 1 (by omega)
  have h31 := M1.out.cell 31 (by omega)
  rw [Hc0.out] at h0
  rw [Hc1.out] at h1
  rw [Hc31.out] at h31
  repeat ((fail_if_success (with_reducible (show wpList _ _ _ _ _ _))); go_step)
  iterate 14 (refine wpList_step (fun K hK => ?_); go_simp; (try go_bits); refine hK _ _ ?_; clear hK K)
  
  clear h0 h1 h31
  refine wpList_call (by rfl) rfl rfl (by rfl) ent58 (by rfl) (Hg.out _) 18 rfl ?_
  rintro e uw3 ⟨x1, y1, c1, b1, p1, rfl, hb⟩
  replace M1 := Lib.hid (M1.out.call hb)
  replace HB := Lib.hid (held_next HB.out hb)
  refine ⟨_, rfl, ?_⟩
  clear hb
  (try simp only [Act.put, sI, sS, sZ])
  refine wpList_call (by rfl) rfl rfl (by rfl) ent58 (by rfl) (Hg.out _) 19 rfl ?_
  rintro e uw4 ⟨x2, y2, c2, b2, p2, rfl, hb⟩
  replace M1 := Lib.hid (M1.out.call hb)
  replace HB := Lib.hid (held_next HB.out hb)
  refine ⟨_, rfl, ?_⟩
  clear hb
  (try simp only [Act.put, sI, sS, sZ])
  refine wpList_call (by rfl) rfl rfl (by rfl) ent53 (by rfl) (Hmi.out x1 y1 c1 b1 p1 x2 y2 c2 b2 p2 _) 20 rfl ?_
  rintro e uw5 ⟨x3, y3, c3, b3, p3, rfl, hb⟩
  replace M1 := Lib.hid (M1.out.call hb)
  replace HB := Lib.hid (held_next HB.out hb)
  refine ⟨_, rfl, ?_⟩
  clear hb
  (try simp only [Act.put, sI, sS, sZ])
  refine wpList_built (by rfl) 53 _ rfl _ (by rfl) (pt 0 0 0 false) (bd53z) 21 rfl ?_
  (try simp only [Act.put, sI, sS, sZ])
  refine wpList_call (by rfl) rfl rfl (by rfl) ent55 (by rfl) (His.out x3 y3 c3 b3 p3 _) 22 rfl ?_
  rintro e uw6 ⟨rfl, hb⟩
  replace M1 := Lib.hid (M1.out.call hb)
  replace HB := Lib.hid (held_next HB.out hb)
  refine ⟨_, rfl, ?_⟩
  clear hb
  (try simp only [Act.put, sI, sS, sZ])
  iterate 2 (refine wpList_step (fun K hK => ?_); go_simp; (try go_bits); refine hK _ _ ?_; clear hK K)
  refine wpList_nil ?_
  go_wp2_with fail
  go_ret
  exact ⟨rfl, HB.out⟩
theorem cx_1 : cx 1 = 0 := cx_pm 1 0 (by decide +kernel)
end Go.Proofs.Ytjiagjonlcadiaa
end
section
namespace Go.Proofs.Ytjiagjonlcadiaa

theorem fi_to (a : Nat) (p : Fin PP) (h : fi a = p) : a % PP = p.val := congrArg Fin.val h
theorem finv_fi (Z : Nat) : finv (fi Z) = fi (pwm Z (PP - 2)) := by
  unfold finv
  show fi (pwm (Z % PP) (PP - 2)) = _
  rw [pwm_mod]
theorem quot_rep (X Z : Nat) (x : Fin PP) (h : fi X = x * fi Z) (hz : fi Z ≠ 0) : X * pwm Z (PP - 2) % PP = x.val := by
  apply fi_to
  rw [fi_mul, ← finv_fi, h]
  have := fld.inv _ hz
  grind
/-- the number of a point's text -/
def keyP (p : Fin PP × Fin PP) : Nat := p.2.val + p.1.val % 2 * 57896044618658097711785492504343953926634992332820282019728792003956564819968
theorem keyn_rep (X Y Z : Nat) (p : Fin PP × Fin PP) (h : Rep X Y Z p) : keyn X Y Z = keyP p := by
  obtain ⟨hx, hy, hz, _⟩ := h
  unfold keyn keyP
  rw [quot_rep X Z _ hx hz, quot_rep Y Z _ hy hz]
theorem Fld.y_ne {n : Nat} [NeZero n] {d i : Fin n} {inv : Fin n → Fin n} (F : Fld n d i inv) (y : Fin n) : d * (y * y) + 1 ≠ 0 := by
  intro h
  have hr := F.root
  have h1 : i * i = d * (y * y) := by grind
  have h2 := F.non _ _ h1
  have h3 : (0 : Fin n) = 1 := by grind
  exact F.one h3.symm
theorem cx_fi (Y : Nat) : fi (cx Y) * (fd * (fi Y * fi Y) + 1) = fi Y * fi Y - 1 := by
  have hn := fld.y_ne (fi Y)
  have hq : fi ((SL * (Y * Y % PP) % PP + 1) % PP) = fd * (fi Y * fi Y) + 1 := by
    simp only [fi_mod, fi_add, fi_mul, fi_one]; rfl
  have hm : fi ((Y * Y % PP + (PP - 1)) % PP) = fi Y * fi Y - 1 := by
    have e : PP - 1 = PP - 1 % PP := by rw [one_PP]
    rw [e]
    simp only [fi_mod, fi_add, fi_neg, fi_mul, fi_one]
    grind
  unfold cx
  rw [fi_mod, fi_mul, hm, ← finv_fi, hq]
  have := fld.inv _ hn
  grind
theorem cx_lt (Y : Nat) : cx Y < PP := Nat.mod_lt _ PP_pos
/-- a square x at y lies on the curve -/
theorem on_of (X Y : Nat) (h : X * X % PP = cx Y) : OnP fd (fi X, fi Y) := by
  have h1 := cx_fi Y
  rw [← h, fi_mod, fi_mul] at h1
  show fi Y * fi Y - fi X * fi X = 1 + fd * fi X * fi X * fi Y * fi Y
  grind
theorem sq_of (p : Fin PP × Fin PP) (h : OnP fd p) : p.1.val * p.1.val % PP = cx p.2.val := by
  have h1 := cx_fi p.2.val
  rw [fi_val] at h1
  have ho : p.2 * p.2 - p.1 * p.1 = 1 + fd * p.1 * p.1 * p.2 * p.2 := h
  have h2 : fi (p.1.val * p.1.val) = fi (cx p.2.val) := by
    rw [fi_mul, fi_val]
    refine fld.cancel _ _ _ (fld.y_ne p.2) ?_
    rw [h1]
    grind
  have h3 := (fi_eq _ _).1 h2
  rw [h3, Nat.mod_eq_of_lt (cx_lt _)]
/-- the text of a point is a point's: that point's -/
theorem cof_keyP (p : Fin PP × Fin PP) (h : OnP fd p) : cof (keyP p) = (true, p.1.val, p.2.val) := by
  have hs := sq_of p h
  have hx := p.1.isLt
  have hy := p.2.isLt
  obtain ⟨x, ex⟩ : ∃ x, x = p.1.val := ⟨_, rfl⟩
  obtain ⟨y, ey⟩ : ∃ y, y = p.2.val := ⟨_, rfl⟩
  unfold keyP
  rw [← ex, ← ey] at hs ⊢
  rw [← ex] at hx
  rw [← ey] at hy
  have hp := PP_255
  have hb : x % 2 < 2 := Nat.mod_lt _ (by omega)
  have e1 : (y + x % 2 * 57896044618658097711785492504343953926634992332820282019728792003956564819968) % 57896044618658097711785492504343953926634992332820282019728792003956564819968 = y := by omega
  have e2 : (y + x % 2 * 57896044618658097711785492504343953926634992332820282019728792003956564819968) / 57896044618658097711785492504343953926634992332820282019728792003956564819968 = x % 2 := by omega
  rw [cof_yes _ (by rw [e1]; exact hy), e1, e2]
  have hok : rtok (cx y) = true := by rw [← hs]; exact rtok_sq x
  have hr := rt3_root x
  rw [hs, Nat.mod_eq_of_lt hx] at hr
  have he := rt3_even (cx y)
  have hl := rt3_lt (cx y)
  have ho := PP_odd
  obtain ⟨r, er⟩ : ∃ r, r = rt3 (cx y) := ⟨_, rfl⟩
  rw [← er] at hr he hl
  have hr2 : r = x ∨ r + x = PP ∨ r + x = 0 := by
    rcases hr with hr | hr
    · exact .inl hr
    · by_cases hh : r + x < PP
      · rw [Nat.mod_eq_of_lt hh] at hr; exact .inr (.inr hr)
      · have e : r + x = PP + (r + x - PP) := by omega
        rw [e, Nat.add_mod_left, Nat.mod_eq_of_lt (by omega)] at hr
        exact .inr (.inl (by omega))
  rcases Nat.mod_two_eq_zero_or_one x with hx2 | hx2
  · rw [hx2, decide_eq_true rfl, bes_even _ _ hok, ← er]
    have : r = x := by omega
    rw [this]
  · rw [hx2, decide_eq_false (by decide), bes_odd _ _ hok (by rw [← er]; omega), ← er, Nat.zero_mod, Nat.zero_add]
    have : PP - r = x := by omega
    rw [this, Nat.mod_eq_of_lt hx]
theorem rep_of (X Y : Nat) (h : X * X % PP = cx Y) : Rep X Y 1 (fi X, fi Y) := by
  refine ⟨?_, ?_, ?_, on_of X Y h⟩
  · rw [fi_one]; show fi X = fi X * 1; grind
  · rw [fi_one]; show fi Y = fi Y * 1; grind
  · rw [fi_one]; exact fld.one
/-- whatever text: what it comes to is a point -/
theorem cof_rep (n : Nat) : Rep (cof n).2.1 (cof n).2.2 1 (fi (cof n).2.1, fi (cof n).2.2) := by
  apply rep_of
  have h0 : 0 * 0 % PP = cx 1 := by rw [cx_1, Nat.zero_mul, Nat.zero_mod]
  by_cases hp : n % 57896044618658097711785492504343953926634992332820282019728792003956564819968 < PP
  · rw [cof_yes n hp]
    cases hok : rtok (cx (n % 57896044618658097711785492504343953926634992332820282019728792003956564819968)) with
    | false => rw [bes_no1 _ _ _ hok]; exact h0
    | true =>
      have hsq := rt3_sq _ hok
      cases hev : decide (n / 57896044618658097711785492504343953926634992332820282019728792003956564819968 = 0) with
      | true => rw [bes_even _ _ hok]; exact hsq
      | false =>
        by_cases hz : rt3 (cx (n % 57896044618658097711785492504343953926634992332820282019728792003956564819968)) = 0
        · rw [bes_no2 _ _ hz]; exact h0
        · rw [bes_odd _ _ hok hz]
          show (0 % PP + (PP - rt3 _)) % PP * ((0 % PP + (PP - rt3 _)) % PP) % PP = cx _
          rw [Nat.zero_mod, Nat.zero_add, ← Nat.mul_mod, neg_sq _ (rt3_lt _)]
          exact hsq
  · rw [cof_no n hp]; exact h0
theorem is_rep (X1 Y1 Z1 X2 Y2 Z2 : Nat) (p q : Fin PP × Fin PP) (hp : Rep X1 Y1 Z1 p) (hq : Rep X2 Y2 Z2 q) :
    (decide (X1 * Z2 % PP = X2 * Z1 % PP) && decide (Y1 * Z2 % PP = Y2 * Z1 % PP)) = decide (p = q) := by
  obtain ⟨x1, y1, z1, _⟩ := hp
  obtain ⟨x2, y2, z2, _⟩ := hq
  have ex : (X1 * Z2 % PP = X2 * Z1 % PP) ↔ p.1 = q.1 := by
    rw [← fi_eq, fi_mul, fi_mul, x1, x2]
    constructor
    · intro h
      exact fld.cancel _ _ (fi Z1 * fi Z2) (fld.mul_ne z1 z2) (by grind)
    · intro h; rw [h]; grind
  have ey : (Y1 * Z2 % PP = Y2 * Z1 % PP) ↔ p.2 = q.2 := by
    rw [← fi_eq, fi_mul, fi_mul, y1, y2]
    constructor
    · intro h
      exact fld.cancel _ _ (fi Z1 * fi Z2) (fld.mul_ne z1 z2) (by grind)
    · intro h; rw [h]; grind
  by_cases h : p = q
  · rw [decide_eq_true h, decide_eq_true (ex.2 (by rw [h])), decide_eq_true (ey.2 (by rw [h]))]; rfl
  · rw [decide_eq_false h]
    by_cases hx : X1 * Z2 % PP = X2 * Z1 % PP
    · by_cases hy : Y1 * Z2 % PP = Y2 * Z1 % PP
      · exact absurd (Prod.ext (ex.1 hx) (ey.1 hy)) h
      · rw [decide_eq_false hy, Bool.and_false]
    · rw [decide_eq_false hx, Bool.false_and]
theorem neg_rep (X Y Z : Nat) (p : Fin PP × Fin PP) (hp : Rep X Y Z p) (hX : X < PP) : Rep (negP X) Y Z (-p.1, p.2) := by
  obtain ⟨x1, y1, z1, o1⟩ := hp
  refine ⟨?_, y1, z1, on_neg p o1⟩
  unfold negP
  rw [Nat.zero_mod, Nat.zero_add, fi_mod]
  have h := fi_neg X
  rw [Nat.mod_eq_of_lt hX] at h
  rw [h, x1]
  show -(p.1 * fi Z) = -p.1 * fi Z
  grind
theorem zero_rep : Rep 0 1 1 (0, 1) := by
  refine ⟨?_, ?_, ?_, on_zero⟩
  · rw [fi_zero, fi_one]; grind
  · rw [fi_one]; grind
  · rw [fi_one]; exact fld.one
/-- so many times a point, by doubling -/
def pmul (g : Nat × Nat × Nat) : Nat → Nat → Nat × Nat × Nat
  | 0, _ => (0, 1, 1)
  | f + 1, e =>
    let h := pmul g f (e / 2)
    let h2 := padd SL h.1 h.2.1 h.2.2 h.1 h.2.1 h.2.2
    if e % 2 = 1 then padd SL h2.1 h2.2.1 h2.2.2 g.1 g.2.1 g.2.2 else h2
theorem pmul_rep (g : Nat × Nat × Nat) (p : Fin PP × Fin PP) (hp : Rep g.1 g.2.1 g.2.2 p) : ∀ f e, e < 2 ^ f → Rep (pmul g f e).1 (pmul g f e).2.1 (pmul g f e).2.2 (mulA finv fd p e) := by
  have ho : OnP fd p := hp.2.2.2
  intro f
  induction f with
  | zero =>
    intro e he
    obtain rfl : e = 0 := by rw [Nat.pow_zero] at he; omega
    exact zero_rep
  | succ f ih =>
    intro e he
    have h1 := ih (e / 2) (by rw [Nat.pow_succ] at he; omega)
    have h2 := padd_rep _ _ _ _ _ _ _ _ h1 h1
    rw [← fld.mul_add p ho] at h2
    unfold pmul
    rcases Nat.mod_two_eq_zero_or_one e with hb | hb
    · rw [if_neg (by rw [hb]; decide)]
      rw [show e / 2 + e / 2 = e by omega] at h2
      exact h2
    · rw [if_pos hb]
      have h3 := padd_rep _ _ _ _ _ _ _ _ h2 hp
      have h4 : padA finv fd (mulA finv fd p (e / 2 + e / 2)) p = mulA finv fd p e := by
        have h5 : e = e / 2 + e / 2 + 1 := by omega
        calc padA finv fd (mulA finv fd p (e / 2 + e / 2)) p = mulA finv fd p (e / 2 + e / 2 + 1) := rfl
          _ = mulA finv fd p e := by rw [← h5]
      rw [h4] at h3
      exact h3
/-- the generator -/
def gG : Fin PP × Fin PP := (fi GX, fi GY)
theorem gen_sq : GX * GX % PP = cx GY := (cx_pm GY _ gx_pm).symm
theorem gen_rep : Rep GX GY 1 gG := rep_of GX GY gen_sq
/-- the order -/
def LL : Nat := 7237005577332262213973186563042994240857116359379907606001950938285454250989
theorem order_val : (pmul (GX, GY, 1) 253 LL).1 % PP = 0 ∧ (pmul (GX, GY, 1) 253 LL).2.1 % PP = (pmul (GX, GY, 1) 253 LL).2.2 % PP := by decide +kernel
end Go.Proofs.Ytjiagjonlcadiaa
end
section
namespace Go.Proofs.Ytjiagjonlcadiaa
open Go.RowKit Go.Lib





end Go.Proofs.Ytjiagjonlcadiaa
end
section
namespace Go.Proofs.Ytjiagjonlcadiaa
open Go.RowKit Go.Lib


end Go.Proofs.Ytjiagjonlcadiaa
end
section
namespace Go.Proofs.Ytjiagjonlcadiaa

end Go.Proofs.Ytjiagjonlcadiaa
end
section
namespace Go.Proofs.Ytjiagjonlcadiaa
open Go.RowKit Go.Lib



end Go.Proofs.Ytjiagjonlcadiaa
end
section
namespace Go
open Go.RowKit
variable {P : Program} {ops : Array Oper} {Q : Exit → Act → World → Prop} {l n : Nat} {a : Act} {w : World}

/-- no operation puts a call off -/
def noDefer (ops : Array Oper) : Bool := ops.all fun o => match o.op with | .defer _ => false | _ => true
theorem noDefer_at (h : noDefer ops = true) (i : Nat) (o : Oper) (hi : ops[i]? = some o) : ∀ c, o.op ≠ .defer c := fun c hc => by
  have h1 := Array.all_eq_true_iff_forall_mem.1 h o (Array.mem_of_getElem? hi)
  rw [hc] at h1
  cases h1

theorem oper_in_round {o : Oper} (hd : ∀ c, o.op ≠ .defer c) {K : Act → World → Prop} (h : o.wp P a w K Q) : o.wpIn (Fence.wide.inRound l) n P a w K Q := by
  refine ⟨fun _ _ => trivial, ?_⟩
  show o.uponIn _ n P a K Q ((o.semAt (some l) a.eval).run P w)
  rw [Oper.semAt_some l _ o hd]
  unfold Oper.wp at h
  generalize (execOp a.eval o).run P w = r at *
  cases r with
  | ok x w' =>
    cases x with
    | value v => exact h
    | skip => exact h
    | defer d => exact h
    | enter f args => exact ⟨fun e => (by cases e), CallsIn.inRound l (callsIn_wide.2 h)⟩
    | row row args => exact ⟨fun e => (by cases e), fun c cs _ => let ⟨v, w2, hr, hs⟩ := h c cs; ⟨v, w2, hr, stepsIn_wide.2 hs⟩⟩
    | _ => exact h.elim
  | halt x w' => cases x <;> exact h

theorem op_in_round (hd : noDefer ops = true) (hQ : ¬ LetsOut Q) {i : Nat} {K : Act → World → Prop} (h : wpOp P ops Q i K a w) : wpOpIn (Fence.wide.inRound l) n P ops Q i K a w := by
  unfold wpOp at h
  unfold wpOpIn
  cases hi : ops[i]? with
  | none => simp only [hi] at h ⊢; exact h
  | some o =>
    simp only [hi] at h ⊢
    split
    · rename_i hw
      rw [if_pos hw] at h
      rcases h with h | ⟨_, h⟩
      · exact oper_in_round (noDefer_at hd i o hi) h
      · exact (hQ h).elim
    · rename_i hw
      rw [if_neg hw] at h
      exact ⟨fun _ _ => trivial, h⟩

theorem any_in_round (hd : noDefer ops = true) (hQ : ¬ LetsOut Q) {md : Region.Mode} : ∀ (f : Nat) (listed : Array Bool) (a : Act) (w : World), wpAny P md ops Q f listed a w → wpAnyIn (Fence.wide.inRound l) n P md ops Q f listed a w := by
  intro f
  induction f with
  | zero => intro _ _ _ h; exact h
  | succ f ih => intro listed a w h; exact ⟨h.1, fun j hj => op_in_round hd hQ (wpOp_mono (fun a' w' h' => ih _ a' w' h') (h.2 j hj))⟩

theorem list_in_round (hd : noDefer ops = true) (hQ : ¬ LetsOut Q) : ∀ (rest : List Oper) (_ : ∀ o ∈ rest, o ∈ ops) (a : Act) (w : World), wpList P ops Q rest a w → wpListIn (Fence.wide.inRound l) n P ops Q rest a w := by
  intro rest
  induction rest with
  | nil => intro _ _ _ h; exact h
  | cons o rest ih =>
    intro hr a w h
    unfold wpList at h
    unfold wpListIn
    split
    · rename_i hw
      rw [if_pos hw] at h
      rcases h with h | ⟨_, h⟩
      · obtain ⟨i, hi⟩ := Array.getElem?_of_mem (hr o (by simp))
        exact oper_in_round (noDefer_at hd i o hi) (Oper.wp_mono (fun a' w' h' => ih (fun o' ho' => hr o' (by simp [ho'])) a' w' h') h)
      · exact (hQ h).elim
    · rename_i hw
      rw [if_neg hw] at h
      exact ⟨fun _ _ => trivial, ih (fun o' ho' => hr o' (by simp [ho'])) _ _ h⟩

/-- a region that does not draw, in a round -/
theorem wpr_lit {l0 : List Oper} (hd : noDefer l0.toArray = true) (h : wpList P l0.toArray Q l0 a w) (hQ : ¬ LetsOut Q := by exact fun ⟨_, _, h⟩ => h) : wpListIn (Fence.wide.inRound l) n P l0.toArray Q l0 a w :=
  list_in_round hd hQ l0 (fun o ho => by simpa using ho) a w h
theorem wpr_noPanic {F : Fence} {id : Nat} {b : Bool} (h : (Code.region id ops b).wpIn F n P (NoPanic Q) a w) : (Code.region id ops b).wpIn F n P Q a w := wpIn_mono h NoPanic.imp
theorem wpr_goS {id : Nat} (S : World → Prop) (f N : Nat) (l0 : Array Bool) (hm : (P.follows .mixedOrders && noDefer ops) = true) (hN : ops.size = N) (hl : Array.replicate N false = l0)
    (h : wpBut P .any ops Q f S N l0 a w.drew) (hQ : ¬ LetsOut Q := by exact fun ⟨_, _, h⟩ => h) : (Code.region id ops true).wpIn (Fence.wide.inRound l) n P Q a w := by
  obtain ⟨h1, h2⟩ := (Bool.and_eq_true _ _).mp hm
  refine wpIn_region_any h1 (any_in_round h2 hQ _ _ _ _ (wpAny_of_but (f := f) (S := S) _ _ _ _ ?_))
  subst hl; subst hN; exact h

/-- nothing but block B has turned -/
structure But (B : Nat) (A W : World) : Prop where
  os : W.os = A.os
  tape : W.tape = A.tape
  output : W.output = A.output
  size : A.heap.size ≤ W.heap.size
  block : ∀ k, k < A.heap.size → k ≠ B → W.heap[k]? = A.heap[k]?
theorem But.refl (B : Nat) (W : World) : But B W W := ⟨rfl, rfl, rfl, Nat.le_refl _, fun _ _ _ => rfl⟩
theorem But.call {B : Nat} {A W W' : World} (h : But B A W) (hb : Below W.heap.size W W') : But B A W' :=
  ⟨hb.os.trans h.os, hb.tape.trans h.tape, hb.output.trans h.output, Nat.le_trans h.size hb.size, fun k hk hn => (hb.block k (Nat.lt_of_lt_of_le hk h.size)).trans (h.block k hk hn)⟩
theorem But.drew {B : Nat} {A W : World} (h : But B A W) : But B A W.drew := ⟨h.os, h.tape, h.output, h.size, h.block⟩
theorem But.setRow_other {B : Nat} {A W : World} (h : But B A W) (g : Nat) (c : Array Value) (hg : g = B) : But B A (W.setRow g c) := by
  have h2 := Go.Proofs.Ytjiagjonlcadiaa.below_setRow (Below.refl 0 W) g c (Nat.zero_le _)
  exact ⟨h2.os.trans h.os, h2.tape.trans h.tape, h2.output.trans h.output, Nat.le_trans h.size h2.size, fun k hk hn => (Go.setRow_other W g k c (by omega)).trans (h.block k hk hn)⟩
theorem But.others {B : Nat} {A W : World} (h : But B A W) {c : Array Value} {t : TypeId} (hB : Go.Proofs.Ytjiagjonlcadiaa.Has A B c t) : KeepsOthers A W :=
  ⟨h.size, fun k o hk ho => (h.block k (Array.getElem?_eq_some_iff.1 hk).1 (fun e => by
    subst e
    have e2 : some o = some (.cells c t (0, 0)) := hk.symm.trans hB
    obtain rfl := Option.some.inj e2
    cases ho)).trans hk⟩

/-- two blocks lie as they lay -/
def Keep2 (b1 b2 : Nat) (A W : World) : Prop := W.heap[b1]? = A.heap[b1]? ∧ W.heap[b2]? = A.heap[b2]?
theorem keep2_t {b1 b2 : Nat} {A B C : World} (h : Keep2 b1 b2 A B) (k : Keep2 b1 b2 B C) : Keep2 b1 b2 A C := ⟨k.1.trans h.1, k.2.trans h.2⟩
theorem keep2_b {b1 b2 : Nat} {w : World} (h1 : b1 < w.heap.size) (h2 : b2 < w.heap.size) (W : World) (l : Nat) (o o' : Obj) (hl : w.heap.size ≤ l) (_ : W.heap[l]? = some o) (_ : o.isCells = false) (_ : o.isWalk = false) : Keep2 b1 b2 W (W.putObj l o') := by
  have h (k : Nat) (hk : k ≠ l) : (W.putObj l o').heap[k]? = W.heap[k]? := by
    show (W.heap.setIfInBounds l o')[k]? = _
    rw [Array.getElem?_setIfInBounds_ne (fun e => hk e.symm)]
  exact ⟨h b1 (by omega), h b2 (by omega)⟩
theorem But.keep2 {B b1 b2 : Nat} {A W : World} (h : But B A W) (n1 : b1 ≠ B) (n2 : b2 ≠ B) (l1 : b1 < A.heap.size) (l2 : b2 < A.heap.size) : Keep2 b1 b2 A W := ⟨h.block b1 l1 n1, h.block b2 l2 n2⟩

/-- calls of a function value with bound arguments -/
theorem run_call_bound {o : Oper} {c : Call} {x : Operand} {g : FuncId} {bs : Array Value} {vl : List Value} (ho : o.op = .call c) (hc : c.callee = .value x) (hx : a.eval x = .func (.func g) bs #[]) (he : Enters P g)
    (hv : c.args.toList.map a.eval = vl) (w : World) : (execOp a.eval o).run P w = .ok (.enter g (bs ++ vl.toArray)) w := by
  obtain ⟨fn, h1, h2, h3⟩ := he
  have h4 : fn.name ≠ "runtime.NumGoroutine" := by simpa using h2
  have h5 : c.args.map a.eval = vl.toArray := by apply Array.ext'; rw [← hv]; simp
  unfold execOp
  simp only [ho, resolve, hc, hx, h5]
  cases hb : fn.body with
  | none => rw [hb] at h3; cases h3
  | some code => simp [Deferred.ofValue, invoke, callFunc, h1, h4, hb]
theorem wp_call_bound {o : Oper} {c : Call} {x : Operand} {g : FuncId} {bs : Array Value} {vl : List Value} {K : Act → World → Prop} {R : Ending → World → Prop} (ho : o.op = .call c) (hc : c.callee = .value x) (hx : a.eval x = .func (.func g) bs #[]) (he : Enters P g)
    (hv : c.args.toList.map a.eval = vl) (h : Calls P g (bs ++ vl.toArray) w R) (hR : ∀ e w', R e w' → ∃ v, e = .returned v ∧ K (a.put o.dst v) w') : o.wp P a w K Q := by
  unfold Oper.wp
  rw [run_call_bound ho hc hx he hv w, Oper.upon_enter]
  refine h.mono fun e w' hr => ?_
  obtain ⟨v, rfl, hK⟩ := hR e w' hr
  exact hK
theorem go_callB {md : Region.Mode} {f N : Nat} {S : World → Prop} {listed : Array Bool} (i : Nat) (d : Tmp) (l' : Array Bool) {oi : Oper} {c : Call} {x : Operand} {g : FuncId} {bs : Array Value} {vl : List Value} {R : Ending → World → Prop} (hi : ops[i]? = some oi) (hd : oi.dst = some d) (hl : listed.setIfInBounds i true = l') (hw : Region.wanted oi (yielded ops a.tmps) = true) (ho : oi.op = .call c) (hc : c.callee = .value x)
    (hx : a.eval x = .func (.func g) bs #[]) (he : Enters P g) (hv : c.args.toList.map a.eval = vl) (h : Calls P g (bs ++ vl.toArray) w R)
    (hR : ∀ e w', R e w' → ∃ v, e = .returned v ∧ (i ≠ f → S w') ∧ wpBut P md ops Q f S N l' { a with tmps := a.tmps.setIfInBounds d v } w') : BStep P md ops Q f S N listed a w i :=
  bstep_wp hi hw (wp_call_bound ho hc hx he hv h fun e w' hr => let ⟨v, h1, h2, h3⟩ := hR e w' hr; ⟨v, h1, h2, by rw [put_some hd, hl]; exact h3⟩)
theorem wpList_callB {rest : List Oper} {o : Oper} {c : Call} {x : Operand} {g : FuncId} {bs : Array Value} {vl : List Value} {R : Ending → World → Prop} (hw : Region.wanted o (yielded ops a.tmps) = true) (ho : o.op = .call c) (hc : c.callee = .value x)
    (hx : a.eval x = .func (.func g) bs #[]) (he : Enters P g) (hv : c.args.toList.map a.eval = vl) (h : Calls P g (bs ++ vl.toArray) w R)
    (d : Tmp) (hd : o.dst = some d) (hR : ∀ e w', R e w' → ∃ v, e = .returned v ∧ wpList P ops Q rest { a with tmps := a.tmps.setIfInBounds d v } w') : wpList P ops Q (o :: rest) a w :=
  wpList_step fun K hK => by
    rw [if_pos hw]
    exact Oper.wp_mono hK (wp_call_bound ho hc hx he hv h fun e w' hr => let ⟨v, h1, h2⟩ := hR e w' hr; ⟨v, h1, by rw [put_some hd]; exact h2⟩)

/-- stores into the middle of a block -/
theorem go_storem {md : Region.Mode} {f N : Nat} {S : World → Prop} {listed : Array Bool} (i : Nat) (l' : Array Bool) {oi : Oper} (hi : ops[i]? = some oi) (hd : oi.dst = none) (hl : listed.setIfInBounds i true = l') (hw : Region.wanted oi (yielded ops a.tmps) = true) (ty : TypeId) (x y : Operand) (ho : oi.op = .store ty x y)
    (b o : Nat) (cells : Array Value) (hx : a.eval x = .pointer (some ⟨b, o, none⟩)) (hy : a.eval y = .agg cells) (ht : w.there b o cells.size) (hs : (P.info? ty).map (·.size) = some cells.size) (h1 : cells.all (·.oneCell') = true)
    (h : ∀ w2, w2 = w.setCells b o cells.toList → (i ≠ f → S w2) ∧ wpBut P md ops Q f S N l' a w2) : BStep P md ops Q f S N listed a w i :=
  bstep_wp hi hw (wp_store_mid ty x y ho b o cells hx hy ht hs h1 (by have := h _ rfl; rw [put_none hd, hl]; exact this))

/-- a range over a function, walked with the wide fence; x's own slots are set by asg -/
theorem range_wide {α : Type} {g : Operand} {ps : Array Tmp} {assign body : Code} {n : Nat} (h1 : 1 ≤ n) {gf : Nat} {lb : Array Value} (hg : a.eval g = .func (.func gf) #[] lb) (eg : ∀ args w, (callFunc gf args).run P w = .ok (.enter gf args) w)
    {encs : α → Array Value} {Kp : World → World → Prop} {S Sp : List α → Prop} {N : Nat} {w0 : World} (hseq : SeqStopsK Fence.wide (n - 1) P gf lb encs Kp S Sp N w0)
    (hKt : ∀ {A B C : World}, Kp A B → Kp B C → Kp A C) (hKb : ∀ (W : World) (l : Nat) (o o' : Obj), w.heap.size ≤ l → W.heap[l]? = some o → o.isCells = false → o.isWalk = false → Kp W (W.putObj l o')) (hb0 : Below w0.heap.size w0 w) (hps : ∀ x, (encs x).size = ps.size)
    (I : List α → World → Prop) (hI : OwnFrom w.heap.size I) (h0 : I [] w) (asg : α → Array Value → Array Value)
    (hassign : ∀ (l : Nat) (x : α) (W : World) (K : Act → World → Prop), K { tmps := asg x ((ps.zip (encs x)).foldl (fun t (p, v) => t.setIfInBounds p v) a.tmps), defers := [] } W →
      assign.wpIn (Fence.wide.inRound l) (n - 1 - 1) P (Exit.then K (fun _ _ _ => False)) { tmps := (ps.zip (encs x)).foldl (fun t (p, v) => t.setIfInBounds p v) a.tmps, defers := [] } W)
    (hbody : ∀ (l : Nat) (pre : List α) (x : α) (W : World), I pre W → pre.length < N → body.wpIn (Fence.wide.inRound l) (n - 1 - 1) P (ownPostK Kp I (fun _ _ _ => False) (pre ++ [x]) W) { tmps := asg x ((ps.zip (encs x)).foldl (fun t (p, v) => t.setIfInBounds p v) a.tmps), defers := [] } W)
    (hdone : ∀ (D : Nat) (xs : List α) (W : World), w.heap.size ≤ D → S xs → I xs W → W.heap[D]? = some (.deferred (some [])) → Q .normal { a with defers := { target := .collected D, args := #[] } :: a.defers } W) :
    (Code.rangeFunc g ps assign body).wp P Q a w := by
  refine (wpIn_wide (n := n)).1 (wpIn_rangeFunc_ownF rfl h1 hg trivial eg hseq hKt hKb hb0 hps I (fun _ _ _ => False) hI (fun c s W W' row hs => hs.elim) h0 (fun x => { tmps := asg x ((ps.zip (encs x)).foldl (fun t (p, v) => t.setIfInBounds p v) a.tmps), defers := [] }) hassign hbody hdone (fun D c pre W _ _ h => h.elim))
end Go
namespace Go.Proofs.Ytjiagjonlcadiaa
open Go.RowKit
theorem But.grown {B : Nat} {A W W' : World} {r : Option Nat} (h : But B A W) (hg : W.grownBy W' r) (hr : ∀ k, r = some k → A.heap.size ≤ k) : But B A W' :=
  ⟨hg.os.trans h.os, hg.tape.trans h.tape, hg.output.trans h.output, Nat.le_trans h.size hg.size, fun k hk hn => (hg.block k (Nat.lt_of_lt_of_le hk h.size) (fun e => by have := hr k e.symm; omega)).trans (h.block k hk hn)⟩
theorem But.trans {B : Nat} {A W W' : World} (h : But B A W) (h2 : But B W W') : But B A W' :=
  ⟨h2.os.trans h.os, h2.tape.trans h.tape, h2.output.trans h.output, Nat.le_trans h.size h2.size, fun k hk hn => (h2.block k (Nat.lt_of_lt_of_le hk h.size) hn).trans (h.block k hk hn)⟩
/-- what the caller of a range knows: its own block, and that all others lie as they lay -/
def OwnI {β : Type} (A : World) (B : Nat) (t : TypeId) (C : β → Array Value → Prop) (s : β) (W : World) : Prop := ∃ c, C s c ∧ Has W B c t ∧ But B A W
theorem ownI_from {β : Type} {A : World} {B : Nat} {t : TypeId} {C : β → Array Value → Prop} (hB : B < A.heap.size) : OwnFrom A.heap.size (OwnI A B t C) :=
  fun _ W W' _ ⟨c, hc, hh, hb⟩ hg hr => ⟨c, hc, (hg.block B (Nat.lt_of_lt_of_le hB hb.size) (fun e => by have := (hr B e.symm).1; omega)).trans hh, But.grown hb hg (fun k e => (hr k e).1)⟩
theorem Has.but {A W : World} {B b : Nat} {c : Array Value} {t : TypeId} (h : Has A b c t) (hb : But B A W) (hn : b ≠ B) : Has W b c t := (hb.block b h.lt hn).trans h
theorem HasN.but {A W : World} {B b n : Nat} {t : TypeId} (h : HasN A b n t) (hb : But B A W) (hn : b ≠ B) : HasN W b n t := let ⟨c, hc, h⟩ := h; ⟨c, hc, h.but hb hn⟩
theorem below_but {A W w : World} {B n0 : Nat} (h : Below n0 w A) (hb : But B A W) (h0 : n0 ≤ B) (h1 : n0 ≤ A.heap.size) : Below n0 w W :=
  h.trans ⟨hb.os, hb.tape, hb.output, hb.size, fun k hk => hb.block k (by omega) (by omega)⟩
end Go.Proofs.Ytjiagjonlcadiaa
namespace Go.Proofs.Ytjiagjonlcadiaa
open Go.RowKit Go.Shelf

attribute [local go_sem] Oper.semAt_some

/-- what has come when k rounds are over -/
def upto {α : Type} (f : Nat → α) (k : Nat) : List α := (List.range k).map f
theorem upto_succ {α : Type} (f : Nat → α) (k : Nat) : upto f (k + 1) = upto f k ++ [f k] := by simp [upto, List.range_succ]
theorem upto_length {α : Type} (f : Nat → α) (k : Nat) : (upto f k).length = k := by simp [upto]
/-- from the last on -/
def bkf (len : Nat) (k : Nat) : Nat := len - 1 - k

set_option maxRecDepth 100000 in
set_option maxHeartbeats 2000000 in
theorem bkw1_in (F : Fence) (n : Nat) (h7 : F.fn 111) (hro : F.round = none) (hn : 1 ≤ n) (l Bs b len cap : Nat) (g : Nat → Int) (hreach : len ≤ 1000000) (J Jx : List Nat → World → Prop)
    (hY : ∀ (pre : List Nat) (x : Nat) (W : World), J pre W → pre.length < len → YieldAt F (n - 1) Try.prog l #[.int .i64 (x : Int), .int .u8 (g x)] W fun e W' =>
      (e = .returned (.bool true) ∧ J (pre ++ [x]) W' ∧ Keep2 Bs b W W') ∨ (e = .returned (.bool false) ∧ Jx (pre ++ [x]) W'))
    (W : World) (hBs : W.cell? ⟨Bs, 0, none⟩ = some (.slice (some ⟨b, 0, none⟩) len cap)) (hc : ∀ j, j < len → W.cell? ⟨b, j, none⟩ = some (.int .u8 (g j))) (h0 : J [] W) :
    CallsIn F n Try.prog 111 #[.func (.yield l) #[] #[], .pointer (some ⟨Bs, 0, none⟩)] W fun e W' => (∃ v, e = .returned v) ∧
      ((∃ ys, ys = upto (bkf len) len ∧ J ys W') ∨ (∃ pre, (∃ k, k ≤ len ∧ pre = upto (bkf len) k) ∧ Jx pre W')) := by
  refine callsIn_of_wp Try.func111 rfl h7 ?_ hro
  simp only [Try.ntmps111, List.size_toArray, List.length_cons, List.length_nil, Nat.reduceAdd, Nat.reduceSub, Array.replicate_succ, Array.replicate_zero, List.push_toArray, List.append_toArray, List.nil_append, List.cons_append]
  gi_wp2
  gi_loopw [3] (fun i wr => ∃ m : Nat, m ≤ len ∧ i = .int .i64 ((m : Int) - 1) ∧ J (upto (bkf len) (len - m)) wr ∧ Keep2 Bs b W wr)
    (fun i _ => (intOf i + 1).toNat)
  case atStart => exact ⟨len, Nat.le_refl _, rfl, by rw [Nat.sub_self]; exact h0, rfl, rfl⟩
  case round =>
    obtain ⟨m, hm, rfl, hJs, hnx⟩ := hrel
    have hBs' := (World.cell?_of_block (w := W) (w' := wr) (a := ⟨Bs, 0, none⟩) hnx.1).trans hBs
    rcases Nat.eq_zero_or_pos m with h0m | h0m
    · subst h0m
      gi_wp2
      go_end0
      exact ⟨⟨_, rfl⟩, .inl ⟨_, rfl, hJs⟩⟩
    · obtain ⟨j, rfl⟩ : ∃ j, m = j + 1 := ⟨m - 1, by omega⟩
      rw [show ((j + 1 : Nat) : Int) - 1 = (j : Int) by omega]
      have hj : j < len := by omega
      have hcx : wr.cell? ⟨b, j, none⟩ = some (.int .u8 (g j)) := (World.cell?_of_block (w := W) (w' := wr) (a := ⟨b, j, none⟩) hnx.2).trans (hc j hj)
      obtain ⟨fn, tmps, assign, body, hy, hR⟩ := hY _ j wr hJs (by rw [upto_length]; omega)
      have hlast : upto (bkf len) (len - (j + 1)) ++ [j] = upto (bkf len) (len - j) := by
        rw [show len - j = len - (j + 1) + 1 by omega, upto_succ]
        unfold bkf
        rw [show len - 1 - (len - (j + 1)) = j by omega]
      rw [hlast] at hR
      gi_wp2
      refine hR.mono ?_
      rintro e W3 (⟨rfl, hJ3, hk3⟩ | ⟨rfl, hJx3⟩)
      · gi_wp2
        go_roundw
        case rel => exact ⟨j, by omega, rfl, hJ3, keep2_t hnx hk3⟩
        case measure => simp [intOf]
      · gi_wp2
        refine bodyPost_ret (results_none rfl _ _ _) rfl ?_
        exact ⟨⟨_, rfl⟩, .inr ⟨_, ⟨len - j, by omega, rfl⟩, hJx3⟩⟩

set_option maxRecDepth 100000 in
set_option maxHeartbeats 1000000 in
theorem bkw_any (a : Option Addr) (len cap : Nat) (w : World) :
    Calls Try.prog 94 #[.slice a len cap] w fun e w' => e = .returned (.func (.func 111) #[] #[.pointer (some ⟨w.heap.size, 0, none⟩)]) ∧ w' = w.alloc (.cells #[.slice a len cap] 22) := by
  refine (callsIn_wide (n := 0)).1 (callsIn_of_wp Try.func94 rfl trivial ?_ rfl)
  simp only [Try.ntmps94, List.size_toArray, List.length_cons, List.length_nil, Nat.reduceAdd, Nat.reduceSub, Array.replicate_succ, Array.replicate_zero, List.push_toArray, List.append_toArray, List.nil_append, List.cons_append]
  gi_wp2
  go_ret
  exact ⟨rfl, rfl⟩

theorem bkw_stops (n : Nat) (hn : 1 ≤ n) (Bs b len cap : Nat) (g : Nat → Int) (hreach : len ≤ 1000000) (w : World) (hbs : Bs < w.heap.size) (hb : b < w.heap.size)
    (hBs : w.cell? ⟨Bs, 0, none⟩ = some (.slice (some ⟨b, 0, none⟩) len cap)) (hc : ∀ j, j < len → w.cell? ⟨b, j, none⟩ = some (.int .u8 (g j))) :
    SeqStopsK Fence.wide n Try.prog 111 #[.pointer (some ⟨Bs, 0, none⟩)] (fun x : Nat => #[Value.int .i64 (x : Int), Value.int .u8 (g x)]) (Keep2 Bs b) (fun ys => ys = upto (bkf len) len) (fun pre => ∃ k, k ≤ len ∧ pre = upto (bkf len) k) len w := fun l J Jx W hW _ _ hY h0 =>
  bkw1_in Fence.wide n trivial rfl hn l Bs b len cap g hreach J Jx hY W ((hW.cell (p := ⟨Bs, 0, none⟩) hbs).trans hBs) (fun j hj => (hW.cell (p := ⟨b, j, none⟩) hb).trans (hc j hj)) h0
end Go.Proofs.Ytjiagjonlcadiaa
end
section
namespace Go
open Go.RowKit
variable {P : Program} {ops : Array Oper} {Q : Exit → Act → World → Prop} {S : World → Prop} {a : Act} {w : World}

theorem run_loadAt_one (w : World) (b : Nat) (ty : TypeId) (v : Value) (d : TypeDesc) (hc : w.cell? ⟨b, 0, none⟩ = some v) (hu : P.underlying ty = some d) (hd : d.isRow = false) : (Instr.loadAt ty (.pointer (some ⟨b, 0, none⟩))).run P w = .ok v w := by
  have hag : (isAgg ty).run P w = .ok false w := by
    cases d <;> first | (simp [isAgg, run_underlying hu]; done) | (simp [TypeDesc.isRow] at hd)
  simp [Instr.loadAt, Instr.sureAddr, loadVar, hag, hc]
theorem yieldsIf_load1 {o : Oper} (hw : Region.wanted o (yielded ops a.tmps) = true) (ty : TypeId) (x : Operand) (ho : o.op = .load ty x) (b : Nat) (hx : a.eval x = .pointer (some ⟨b, 0, none⟩)) (v : Value) (d : TypeDesc)
    (hS : ∀ w, S w → w.cell? ⟨b, 0, none⟩ = some v) (hu : P.underlying ty = some d) (hd : d.isRow = false) : YieldsIf P ops S o v a := by
  refine Or.inl ⟨hw, fun w hSw => ?_⟩
  unfold execOp
  simp only [ho, hx, Sem.run_bind, run_loadAt_one w b ty v d (hS w hSw) hu hd, Result.andThen_ok]
  rfl
theorem wpList_load1 {rest : List Oper} {o : Oper} (hw : Region.wanted o (yielded ops a.tmps) = true) (ty : TypeId) (x : Operand) (ho : o.op = .load ty x) (b : Nat) (hx : a.eval x = .pointer (some ⟨b, 0, none⟩)) (v : Value) (d : TypeDesc)
    (hS : w.cell? ⟨b, 0, none⟩ = some v) (hu : P.underlying ty = some d) (hd : d.isRow = false) (e : Tmp) (he : o.dst = some e) (h : wpList P ops Q rest { a with tmps := a.tmps.setIfInBounds e v } w) : wpList P ops Q (o :: rest) a w := by
  rcases yieldsIf_load1 (ops := ops) (S := fun w' => w' = w) hw ty x ho b hx v d (fun w' h' => by rw [h']; exact hS) hu hd with ⟨_, h1⟩ | ⟨h1, _⟩
  · refine wpList_step fun K hK => ?_
    rw [if_pos hw]
    unfold Oper.wp
    rw [h1 w rfl, Oper.upon_value]
    refine hK _ _ ?_
    rw [put_some he]; exact h
  · rw [hw] at h1; cases h1
/-- an index into a slice of rows -/
theorem yieldsIf_index {o : Oper} (hw : Region.wanted o (yielded ops a.tmps) = true) (t : TypeId) (x y : Operand) (ho : o.op = .indexAddr t x y) (b len cap : Nat) (hx : a.eval x = .slice (some ⟨b, 0, none⟩) len cap) (kd : IntKind) (i : Int) (hy : a.eval y = .int kd i) (j : Nat) (hj : i = (j : Int)) (hlt : j < len)
    (e : TypeId) (hu : P.underlying t = some (.slice e)) (inf : TypeInfo) (hi : P.info? e = some inf) (n : Nat) (hn : inf.size = n) (off : Nat) (hoff : off = j * n) : YieldsIf P ops S o (.pointer (some ⟨b, off, none⟩)) a := by
  refine Or.inl ⟨hw, fun w _ => ?_⟩
  subst hj; subst hn; subst hoff
  have hlt' : (j : Int) < (len : Int) := by omega
  unfold execOp
  simp [ho, hx, hy, Instr.indexAt, asIntOf, run_underlying hu, sizeOf, typeInfo, hi, hlt, Addr.add_mid]
theorem wpList_make {rest : List Oper} {o : Oper} (hw : Region.wanted o (yielded ops a.tmps) = true) (t : TypeId) (x y : Operand) (ho : o.op = .makeSlice t x y) (v1 v2 : Value) (hx : a.eval x = v1) (hy : a.eval y = v2) (v : Value) (w2 : World) (hr : (Instr.makeSlice t v1 v2).run P w = .ok v w2)
    (d : Tmp) (hd : o.dst = some d) (h : wpList P ops Q rest { a with tmps := a.tmps.setIfInBounds d v } w2) : wpList P ops Q (o :: rest) a w := by
  refine wpList_step fun K hK => ?_
  rw [if_pos hw]
  unfold Oper.wp execOp
  simp only [ho, hx, hy, Sem.run_bind, hr, Result.andThen_ok]
  refine hK _ _ ?_
  rw [put_some hd]; exact h
theorem wpList_store1 {rest : List Oper} {o : Oper} (hw : Region.wanted o (yielded ops a.tmps) = true) (ty : TypeId) (x y : Operand) (ho : o.op = .store ty x y) (hd : o.dst = none) (b : Nat) (v : Value) (hx : a.eval x = .pointer (some ⟨b, 0, none⟩)) (hy : a.eval y = v)
    (old : Value) (t : TypeId) (hg : w.heap[b]? = some (.cells #[old] t (0, 0))) (hs : (P.info? ty).map (·.size) = some 1) (hv : v.oneCell' = true) (hc : v.cells = #[v]) (h : ∀ w2, w2 = w.setCell ⟨b, 0, none⟩ v → wpList P ops Q rest a w2) : wpList P ops Q (o :: rest) a w := by
  have h1 : Go.Proofs.Ytjiagjonlcadiaa.Has w b #[old] t := hg
  have h2 := run_storeCells_cells (P := P) b 0 [v] 0 w (fun j hj => by
    obtain rfl : j = 0 := by simpa using hj
    rw [h1.cellAt]; rfl) (fun j _ => h1.frozen _) (by simpa using hv)
  cases hi : P.info? ty with
  | none => rw [hi] at hs; cases hs
  | some i =>
    rw [hi] at hs
    have hs : i.size = 1 := Option.some.inj hs
    have hsv : (storeVar ty ⟨b, 0, none⟩ v).run P w = .ok () (w.setCell ⟨b, 0, none⟩ v) := by
      simp only [Nat.add_zero] at h2
      have h3 : (storeCells ⟨b, 0, none⟩ [v]).run P w = .ok () (w.setCell ⟨b, 0, none⟩ v) := h2
      simp [storeVar, sizeOf, typeInfo, hi, hc, hs, h3]
    refine wpList_step fun K hK => ?_
    rw [if_pos hw]
    unfold Oper.wp execOp
    simp only [ho, hx, hy, Instr.storeAt, Instr.sureAddr, Sem.run_bind, Sem.run_pure, Result.andThen_ok, hsv]
    refine hK _ _ ?_
    rw [put_none hd]; exact h _ rfl
end Go
namespace Go.Proofs.Ytjiagjonlcadiaa
open Go.RowKit Go.Lib

theorem HasN.setAt {w : World} {b n : Nat} {t : TypeId} (h : HasN w b n t) (o : Nat) (v : Value) : HasN (w.setCell ⟨b, o, none⟩ v) b n t := let ⟨c, hn, h⟩ := h; ⟨_, by rw [Array.size_setIfInBounds]; exact hn, h.setAt o v⟩
theorem HasN.setCells {b n : Nat} {t : TypeId} : ∀ (vs : List Value) (o : Nat) (w : World), HasN w b n t → HasN (w.setCells b o vs) b n t
  | [], _, _, h => h
  | v :: r, o, _, h => HasN.setCells r (o + 1) _ (h.setAt o v)
theorem below_setCells2 {B b : Nat} {a : World} (hb : B ≤ b) : ∀ (vs : List Value) (o : Nat) (w : World), Below B a w → Below B a (w.setCells b o vs)
  | [], _, _, h => h
  | v :: r, o, _, h => below_setCells2 hb r (o + 1) _ (h.setCell (by exact hb) v)

theorem Has.one {w : World} {b : Nat} {v : Value} {t : TypeId} (h : Has w b #[v] t) : w.cell? ⟨b, 0, none⟩ = some v := by rw [h.cellAt]; rfl
end Go.Proofs.Ytjiagjonlcadiaa
end
section
namespace Go.Proofs.Ytjiagjonlcadiaa
open Go.RowKit Go.Lib

theorem HasN.there2 {w : World} {b n : Nat} {t : TypeId} (h : HasN w b n t) (o k : Nat) (ho : o + k ≤ n) : w.there b o k := fun j hj => by
  obtain ⟨c, hn, h⟩ := h
  exact ⟨by rw [h.cellAt, Array.getElem?_eq_getElem (by omega)]; rfl, h.frozen _⟩
/-- a point's cells -/
def ptl (x y z : Nat) (b : Bool) : List Value := (pt x y z b).toList
theorem ptl_arr (x y z : Nat) (b : Bool) : pt x y z b = (ptl x y z b).toArray := by simp [ptl]
theorem ptl_len (x y z : Nat) (b : Bool) : (ptl x y z b).length = 13 := by unfold ptl; rw [Array.length_toList, pt_size]
/-- a range of cells -/
structure Rng (w : World) (b o : Nat) (l : List Value) : Prop where
  lt : b < w.heap.size
  at_ : w.rangeAt b o l
theorem Rng.call {w w' : World} {b o : Nat} {l : List Value} (h : Rng w b o l) (hb : Below w.heap.size w w') : Rng w' b o l := ⟨Nat.lt_of_lt_of_le h.lt hb.size, range_below h.at_ hb h.lt⟩
theorem Rng.drew {w : World} {b o : Nat} {l : List Value} (h : Rng w b o l) : Rng w.drew b o l := ⟨h.lt, h.at_⟩
theorem Rng.setRow_other {w : World} {b o : Nat} {l : List Value} (h : Rng w b o l) (g : Nat) (c : Array Value) (hg : b ≠ g) : Rng (w.setRow g c) b o l :=
  ⟨by have := (below_setRow (Below.refl 0 w) g c (Nat.zero_le _)).size; exact Nat.lt_of_lt_of_le h.lt this, fun j v hv => (World.cell?_of_block (w := w) (w' := w.setRow g c) (a := ⟨b, o + j, none⟩) (Go.setRow_other w g b c hg)).trans (h.at_ j v hv)⟩

theorem Rng.setCells_other {w : World} {b o : Nat} {l : List Value} (h : Rng w b o l) (g o' : Nat) (vs : List Value) (hg : b ≠ g ∨ o + l.length ≤ o' ∨ o' + vs.length ≤ o) : Rng (w.setCells g o' vs) b o l :=
  ⟨by have := (below_setCells2 (Nat.zero_le g) vs o' w (Below.refl 0 w)).size; exact Nat.lt_of_lt_of_le h.lt this, World.rangeAt_setCells_apart h.at_ _ _ _ hg⟩
/-- this is that point of the group -/
def PtA (x y z : Nat) (b : Bool) (p : Fin PP × Fin PP) : Prop := ∃ X Y Z, IsPt x y z b X Y Z ∧ Rep X Y Z p
theorem PtA.on {x y z : Nat} {b : Bool} {p : Fin PP × Fin PP} (h : PtA x y z b p) : OnP fd p := let ⟨_, _, _, _, h⟩ := h; h.2.2.2
theorem zero_pta : PtA 0 0 0 false (0, 1) := ⟨0, 1, 1, ⟨⟨by decide, by decide, by decide⟩, .inr ⟨rfl, by decide +kernel, by decide +kernel, by decide +kernel⟩⟩, zero_rep⟩

/-- so many points in a row of memory: number j is j times p -/
structure Tab (w : World) (B i : Nat) (p : Fin PP × Fin PP) : Prop where
  has : HasN w B 208 53
  rng : ∀ j, j < i → ∃ x y z b, PtA x y z b (mulA finv fd p j) ∧ w.rangeAt B (j * 13) (ptl x y z b)
section tab
variable {w w' : World} {B i : Nat} {p : Fin PP × Fin PP}
theorem Tab.lt (h : Tab w B i p) : B < w.heap.size := h.has.lt
theorem Tab.call (h : Tab w B i p) (hb : Below w.heap.size w w') : Tab w' B i p := ⟨h.has.call hb, fun j hj => let ⟨x, y, z, b, h1, h2⟩ := h.rng j hj; ⟨x, y, z, b, h1, range_below h2 hb h.lt⟩⟩
theorem Tab.drew (h : Tab w B i p) : Tab w.drew B i p := ⟨h.has, h.rng⟩
theorem Tab.alloc (h : Tab w B i p) (o : Obj) : Tab (w.alloc o) B i p := h.call ((Below.refl _ _).alloc (Nat.le_refl _) _)
theorem Tab.setRow_other (h : Tab w B i p) (g : Nat) (c : Array Value) (hg : B ≠ g) : Tab (w.setRow g c) B i p :=
  ⟨h.has.setRow_other g c hg, fun j hj => let ⟨x, y, z, b, h1, h2⟩ := h.rng j hj; ⟨x, y, z, b, h1, ((Rng.mk h.lt h2).setRow_other g c hg).at_⟩⟩
theorem Tab.other (h : Tab w B i p) (a : Addr) (v : Value) (hb : B ≠ a.block) : Tab (w.setCell a v) B i p :=
  ⟨h.has.other a v hb, fun j hj => let ⟨x, y, z, b, h1, h2⟩ := h.rng j hj; ⟨x, y, z, b, h1, fun k u hu => (World.cell?_of_block (w := w) (w' := w.setCell a v) (a := ⟨B, j * 13 + k, none⟩) (heap_setCell_other w a B v hb)).trans (h2 k u hu)⟩⟩
theorem Tab.next (h : Tab w B i p) (hi : i < 16) (x y z : Nat) (b : Bool) (hp : PtA x y z b (mulA finv fd p i)) : Tab (w.setCells B (i * 13) (ptl x y z b)) B (i + 1) p := by
  refine ⟨h.has.setCells _ _ _, fun j hj => ?_⟩
  by_cases e : j = i
  · subst e
    exact ⟨x, y, z, b, hp, World.rangeAt_setCells_same w B _ _ (h.has.there2 _ _ (by rw [ptl_len]; omega))⟩
  · obtain ⟨x1, y1, z1, b1, h1, h2⟩ := h.rng j (by omega)
    exact ⟨x1, y1, z1, b1, h1, World.rangeAt_setCells_apart h2 _ _ _ (.inr (.inl (by rw [ptl_len]; omega)))⟩
theorem Tab.at_ (h : Tab w B i p) (j : Nat) (hj : j < i) : ∃ x y z b, PtA x y z b (mulA finv fd p j) ∧ Rng w B (j * 13) (ptl x y z b) := let ⟨x, y, z, b, h1, h2⟩ := h.rng j hj; ⟨x, y, z, b, h1, h.lt, h2⟩
theorem Tab.but {A W : World} {B0 B i : Nat} {p : Fin PP × Fin PP} (h : Tab A B i p) (hb : But B0 A W) (hn : B ≠ B0) : Tab W B i p :=
  ⟨h.has.but hb hn, fun j hj => let ⟨x, y, z, b, h1, h2⟩ := h.rng j hj; ⟨x, y, z, b, h1, fun k u hu => (World.cell?_of_block (w := A) (w' := W) (a := ⟨B, j * 13 + k, none⟩) (hb.block B h.lt hn)).trans (h2 k u hu)⟩⟩
end tab
/-- slices.Backward, as a call -/
theorem bkw_call (a : Option Addr) (len cap : Nat) (w : World) : Calls Try.prog 94 #[.slice a len cap] w fun e w' => (e = .returned (.func (.func 111) #[] #[.pointer (some ⟨w.heap.size, 0, none⟩)]) ∧ Has w' w.heap.size #[.slice a len cap] 22) ∧ Below w.heap.size w w' := by
  refine (bkw_any a len cap w).mono ?_
  rintro e w' ⟨rfl, rfl⟩
  exact ⟨⟨rfl, Has.new w _ _⟩, below_1 w _⟩
theorem ent111 : ∀ (args : Array Value) (w : World), (callFunc 111 args).run Try.prog w = .ok (.enter 111 args) w := Go.Proofs.enters_of Try.func111 (by kernel_rfl) rfl
theorem ent94 : _root_.Go.Enters Try.prog 94 := ⟨_, Try.func94, by kernel_rfl, by kernel_rfl⟩
/-- block D holds the rounds' calls that were put off: none -/
def DefAt (W : World) (D : Nat) : Prop := W.heap[D]? = some (.deferred (some []))
theorem DefAt.setRow_other {W : World} {D : Nat} (h : DefAt W D) (g : Nat) (c : Array Value) (hg : D ≠ g) : DefAt (W.setRow g c) D := (Go.setRow_other W g D c hg).trans h
theorem Has.putObj {W : World} {b D : Nat} {c : Array Value} {t : TypeId} (h : Has W b c t) (o : Obj) (hn : b ≠ D) : Has (W.putObj D o) b c t := by
  unfold Has at *
  rw [← h]
  show (W.heap.setIfInBounds D o)[b]? = _
  rw [Array.getElem?_setIfInBounds_ne (fun e => hn e.symm)]
/-- the number that the bytes make that have come -/
def vl (n : Nat) (l : List Nat) : Nat := l.foldl (fun a x => 256 * a + n / 256 ^ x % 256) 0
theorem vl_snoc (n : Nat) (l : List Nat) (x : Nat) : vl n (l ++ [x]) = 256 * vl n l + n / 256 ^ x % 256 := by unfold vl; rw [List.foldl_append]; rfl
theorem vl_upto (n : Nat) (hn : n < 256 ^ 32) : ∀ k, k ≤ 32 → vl n (upto (bkf 32) k) = n / 256 ^ (32 - k) := by
  intro k
  induction k with
  | zero => intro _; show 0 = n / 256 ^ 32; rw [Nat.div_eq_of_lt hn]
  | succ k ih =>
    intro hk
    rw [upto_succ, vl_snoc, ih (by omega)]
    unfold bkf
    obtain ⟨j, hj⟩ : ∃ j, j = 32 - (k + 1) := ⟨_, rfl⟩
    rw [show 32 - 1 - k = j by omega, show 32 - k = j + 1 by omega, ← hj, Nat.pow_succ, ← Nat.div_div_eq_div_mul]
    omega
theorem vl_all (n : Nat) (hn : n < 115792089237316195423570985008687907853269984665640564039457584007913129639936) : vl n (upto (bkf 32) 32) = n := by
  rw [vl_upto n (by rw [show (256 : Nat) ^ 32 = 115792089237316195423570985008687907853269984665640564039457584007913129639936 by decide +kernel]; exact hn) 32 (Nat.le_refl _), Nat.sub_self, Nat.pow_zero, Nat.div_one]

theorem mk16 (w : World) : (Instr.makeSlice 113 (.int .i64 16) (.int .i64 16)).run Try.prog w = .ok (.slice (some ⟨w.heap.size, 0, none⟩) 16 16) (w.alloc (.cells (madeCells z53 208) 53)) := by
  obtain ⟨i, hi⟩ : ∃ i, Try.prog.info? 53 = some i := Option.isSome_iff_exists.1 (by kernel_rfl)
  have hz : (Try.prog.info? 53).map (·.zero) = some (some (.agg z53)) := by kernel_rfl
  have h1 : (Try.prog.info? 53).map (·.size) = some 13 := by kernel_rfl
  have h2 : (Try.prog.info? 53).map (fun i => decide (i.bytes ≤ 1000)) = some true := by kernel_rfl
  rw [hi] at hz h1 h2
  have hz := Option.some.inj hz
  have h1 := Option.some.inj h1
  have h2 := of_decide_eq_true (Option.some.inj h2)
  dsimp only at hz h1 h2
  have h := run_makeSlice (P := Try.prog) w 113 53 i _ Try.underlying113 hi hz .i64 .i64 16 16 (by decide) (by decide) (by rw [h1]; decide) (by omega) (by decide)
  rw [h1] at h
  exact h
/-- a table of zeroes -/
theorem tab_new (w : World) (p : Fin PP × Fin PP) : Tab (w.alloc (.cells (madeCells z53 208) 53)) w.heap.size 1 p := by
  refine ⟨HasN.new w _ _ 208 (size_madeCells _ _), fun j hj => ?_⟩
  obtain rfl : j = 0 := by omega
  refine ⟨0, 0, 0, false, zero_pta, fun k v hv => ?_⟩
  rw [(Has.new w (madeCells z53 208) 53).cellAt]
  have hk : k < 13 := by have := (List.getElem?_eq_some_iff.1 hv).1; rwa [ptl_len] at this
  rw [← hv, ptl, Array.getElem?_toList]
  rcases (show k = 0 ∨ k = 1 ∨ k = 2 ∨ k = 3 ∨ k = 4 ∨ k = 5 ∨ k = 6 ∨ k = 7 ∨ k = 8 ∨ k = 9 ∨ k = 10 ∨ k = 11 ∨ k = 12 by omega) with rfl | rfl | rfl | rfl | rfl | rfl | rfl | rfl | rfl | rfl | rfl | rfl | rfl <;> (show (_ : Option Value) = _; kernel_rfl)
theorem inf53 : ∃ i : TypeInfo, Try.prog.info? 53 = some i ∧ i.size = 13 := by
  obtain ⟨i, hi⟩ : ∃ i, Try.prog.info? 53 = some i := Option.isSome_iff_exists.1 (by kernel_rfl)
  have h1 : (Try.prog.info? 53).map (·.size) = some 13 := by kernel_rfl
  rw [hi] at h1
  exact ⟨i, hi, Option.some.inj h1⟩
theorem idx53 {ops : Array Oper} {S : World → Prop} {a : Act} {o : Oper} (hw : Region.wanted o (yielded ops a.tmps) = true) (x y : Operand) (ho : o.op = .indexAddr 113 x y) (b len cap : Nat) (hx : a.eval x = .slice (some ⟨b, 0, none⟩) len cap) (kd : IntKind) (i : Int) (hy : a.eval y = .int kd i) (j : Nat) (hj : i = (j : Int)) (hlt : j < len)
    (off : Nat) (hoff : off = j * 13) : YieldsIf Try.prog ops S o (.pointer (some ⟨b, off, none⟩)) a :=
  let ⟨inf, h1, h2⟩ := inf53
  yieldsIf_index hw 113 x y ho b len cap hx kd i hy j hj hlt 53 Try.underlying113 inf h1 13 h2 off hoff
theorem al111 (w : World) : (Instr.alloc 111 true (.tuple #[])).run Try.prog w = .ok (.pointer (some ⟨w.heap.size, 0, none⟩)) (w.alloc (.cells #[.nilFunc] 111)) := by go_simp
theorem al113 (w : World) : (Instr.alloc 113 true (.tuple #[])).run Try.prog w = .ok (.pointer (some ⟨w.heap.size, 0, none⟩)) (w.alloc (.cells #[.slice none 0 0] 113)) := by go_simp
/-- the sum of two points -/
theorem sum_pta (d : Nat) (hd : d < 115792089237316195423570985008687907853269984665640564039457584007913129639936) (hdD : d % PP = SL) (x1 y1 z1 : Nat) (b1 : Bool) (p : Fin PP × Fin PP) (h1 : PtA x1 y1 z1 b1 p) (x2 y2 z2 : Nat) (b2 : Bool) (q : Fin PP × Fin PP) (h2 : PtA x2 y2 z2 b2 q) (w : World) :
    Calls Try.prog 92 (#[.agg (e4 d)] ++ [.agg (pt x1 y1 z1 b1), .agg (pt x2 y2 z2 b2)].toArray) w fun e w' => ∃ x y z b, PtA x y z b (padA finv fd p q) ∧ e = .returned (.agg (pt x y z b)) ∧ Below w.heap.size w w' := by
  obtain ⟨X1, Y1, Z1, i1, r1⟩ := h1
  obtain ⟨X2, Y2, Z2, i2, r2⟩ := h2
  refine (add_of d SL hd hdD x1 y1 z1 b1 X1 Y1 Z1 i1 x2 y2 z2 b2 X2 Y2 Z2 i2 w).mono ?_
  rintro e w' ⟨x, y, z, b, hpt, he, hb⟩
  exact ⟨x, y, z, b, ⟨_, _, _, hpt, padd_rep _ _ _ _ _ _ p q r1 r2⟩, he, hb⟩
set_option maxRecDepth 100000 in
set_option linter.unusedSimpArgs false in
set_option linter.unusedVariables false in
set_option maxHeartbeats 8000000 in
theorem pmany_any (x y z n : Nat) (b : Bool) (p : Fin PP × Fin PP) (hp : PtA x y z b p) (hn : n < 115792089237316195423570985008687907853269984665640564039457584007913129639936) (w : World) :
    Calls Try.prog 56 #[.agg (pt x y z b), .agg (k32 n)] w fun e w' => ∃ x2 y2 z2 b2, PtA x2 y2 z2 b2 (mulA finv fd p n) ∧ e = .returned (.agg (pt x2 y2 z2 b2)) ∧ Below w.heap.size w w' := by
  have hop : OnP fd p := hp.on
  have Hp := Lib.hid hp; clear hp
  have Hop := Lib.hid hop; clear hop
  have Hn := Lib.hid hn; clear hn
  refine (callsIn_wide (n := 3)).1 (callsIn_of_wp_marks Try.func56 rfl trivial (wpIn_wide.2 ?_) rfl)
  simp only [Try.ntmps56, List.size_toArray, List.length_cons, List.length_nil, Nat.reduceAdd, Nat.reduceSub, Array.replicate_succ, Array.replicate_zero, List.push_toArray, List.append_toArray, List.nil_append, List.cons_append]
  repeat ((fail_if_success (with_reducible (show wpList _ _ _ _ _ _))); go_step)
  iterate 3 (refine wpList_step (fun K hK => ?_); go_simp; (try go_bits); refine hK _ _ ?_; clear hK K)
  refine wpList_nil ?_
  have M2 := Lib.hid (((Has.new w  (pt x y z b) 53).alloc (.cells (k32 n) 24)).alloc (.cells (#[.int .u64 0, .int .u64 0, .int .u64 0, .int .u64 0, .int .u64 0, .int .u64 0, .int .u64 0, .int .u64 0, .int .u64 0, .int .u64 0, .int .u64 0, .int .u64 0, .bool false] : Array Value) 53))
  have M3 := Lib.hid ((Has.new1 w (.cells (pt x y z b) 53) (k32 n) 24).alloc (.cells (#[.int .u64 0, .int .u64 0, .int .u64 0, .int .u64 0, .int .u64 0, .int .u64 0, .int .u64 0, .int .u64 0, .int .u64 0, .int .u64 0, .int .u64 0, .int .u64 0, .bool false] : Array Value) 53))
  have M4 := Lib.hid (HasN.new2 w (.cells (pt x y z b) 53) (.cells (k32 n) 24) (#[.int .u64 0, .int .u64 0, .int .u64 0, .int .u64 0, .int .u64 0, .int .u64 0, .int .u64 0, .int .u64 0, .int .u64 0, .int .u64 0, .int .u64 0, .int .u64 0, .bool false] : Array Value) 53 13 (by kernel_rfl))
  have HB := Lib.hid (below_3 w (.cells (pt x y z b) 53) (.cells (k32 n) 24) (.cells (#[.int .u64 0, .int .u64 0, .int .u64 0, .int .u64 0, .int .u64 0, .int .u64 0, .int .u64 0, .int .u64 0, .int .u64 0, .int .u64 0, .int .u64 0, .int .u64 0, .bool false] : Array Value) 53))
  obtain ⟨yw1, hwyw1⟩ : ∃ ww, ww = (((w.alloc (.cells (pt x y z b) 53)).alloc (.cells (k32 n) 24)).alloc (.cells (#[.int .u64 0, .int .u64 0, .int .u64 0, .int .u64 0, .int .u64 0, .int .u64 0, .int .u64 0, .int .u64 0, .int .u64 0, .int .u64 0, .int .u64 0, .int .u64 0, .bool false] : Array Value) 53)) := ⟨_, rfl⟩
  rw [← hwyw1] at M2 M3 M4 HB ⊢
  clear hwyw1
  repeat ((fail_if_success (with_reducible (show wpList _ _ _ _ _ _))); go_step)
  refine wpList_call (by rfl) rfl rfl (by rfl) ent91 (by rfl) (slope_any _) 13 rfl ?_
  rintro e uw1 ⟨d, hd, hdr, rfl, hb⟩
  replace M2 := Lib.hid (M2.out.call hb)
  replace M3 := Lib.hid (M3.out.call hb)
  replace M4 := Lib.hid (M4.out.call hb)
  replace HB := Lib.hid (held_next HB.out hb)
  refine ⟨_, rfl, ?_⟩
  clear hb
  (try simp only [Act.put, sI, sS, sZ])
  (refine wpList_step (fun K hK => ?_); go_simp; (try go_bits); refine hK _ _ ?_; clear hK K)
  refine wpList_alloc (by rfl) 111 rfl _ al111 5 rfl ?_
  intro yw2 hw2
  have hlt3 := M2.out.lt
  have hlt4 := M3.out.lt
  have hlt5 := M4.out.lt
  have hsz := HB.out.size
  replace M2 := Lib.hid (M2.out.alloc (.cells #[.nilFunc] 111))
  replace M3 := Lib.hid (M3.out.alloc (.cells #[.nilFunc] 111))
  replace M4 := Lib.hid (M4.out.alloc (.cells #[.nilFunc] 111))
  have M5 := Lib.hid (Has.new uw1 #[.nilFunc] 111)
  replace HB := Lib.hid (HB.out.alloc hsz (.cells #[.nilFunc] 111))
  rw [← hw2] at M2 M3 M4 M5 HB; clear hw2
  (try simp only [Act.put, sI, sS, sZ])
  refine wpList_store1 (by rfl) 111 _ _ rfl rfl (uw1.heap.size) (.func (.func 92) #[.agg (e4 d)] #[]) rfl rfl _ _ M5.out (by kernel_rfl) rfl rfl ?_
  intro yw6 hw2
  replace M2 := Lib.hid (M2.out.other ⟨uw1.heap.size, 0, none⟩ (.func (.func 92) #[.agg (e4 d)] #[]) (show _ ≠ uw1.heap.size by omega))
  replace M3 := Lib.hid (M3.out.other ⟨uw1.heap.size, 0, none⟩ (.func (.func 92) #[.agg (e4 d)] #[]) (show _ ≠ uw1.heap.size by omega))
  replace M4 := Lib.hid (M4.out.other ⟨uw1.heap.size, 0, none⟩ (.func (.func 92) #[.agg (e4 d)] #[]) (show _ ≠ uw1.heap.size by omega))
  replace M5 := Lib.hid (M5.out.setAt 0 (.func (.func 92) #[.agg (e4 d)] #[]))
  replace HB := Lib.hid (HB.out.setCell (p := ⟨uw1.heap.size, 0, none⟩) (show w.heap.size ≤ uw1.heap.size by omega) (.func (.func 92) #[.agg (e4 d)] #[]))
  rw [← hw2] at M2 M3 M4 M5 HB; clear hw2
  replace M5 : RowKit.Hid (Has yw6 (uw1.heap.size) #[.func (.func 92) #[.agg (e4 d)] #[]] 111) := M5
  refine wpList_nil ?_
  obtain ⟨B5, hB5⟩ : ∃ B, B = uw1.heap.size := ⟨_, rfl⟩
  rw [← hB5] at M5 ⊢
  have gB5 : w.heap.size + 1 + 1 < B5 := by omega
  clear hB5
  repeat ((fail_if_success (with_reducible (show wpList _ _ _ _ _ _))); go_step)
  have gT := M5.out.lt
  refine wpList_make (by rfl) 113 _ _ rfl _ _ rfl rfl _ _ (mk16 _) 15 rfl ?_
  have hb := below_1 yw6 (.cells (madeCells z53 208) 53)
  have nwT := tab_new yw6 p
  obtain ⟨yw7, hwyw7⟩ : ∃ ww, ww = yw6.alloc (.cells (madeCells z53 208) 53) := ⟨_, rfl⟩
  rw [← hwyw7] at hb nwT ⊢
  clear hwyw7
  replace M2 := Lib.hid (M2.out.call hb)
  replace M3 := Lib.hid (M3.out.call hb)
  replace M4 := Lib.hid (M4.out.call hb)
  replace M5 := Lib.hid (M5.out.call hb)
  replace HB := Lib.hid (held_next HB.out hb)
  clear hb
  have T := Lib.hid nwT; clear nwT
  (try simp only [Act.put, sI, sS, sZ])
  refine wpList_alloc (by rfl) 113 rfl _ al113 6 rfl ?_
  intro yw8 hw2
  have hlt9 := M2.out.lt
  have hlt10 := M3.out.lt
  have hlt11 := M4.out.lt
  have hlt12 := M5.out.lt
  have hlt13 := T.out.lt
  have hsz := HB.out.size
  replace M2 := Lib.hid (M2.out.alloc (.cells #[.slice none 0 0] 113))
  replace M3 := Lib.hid (M3.out.alloc (.cells #[.slice none 0 0] 113))
  replace M4 := Lib.hid (M4.out.alloc (.cells #[.slice none 0 0] 113))
  replace M5 := Lib.hid (M5.out.alloc (.cells #[.slice none 0 0] 113))
  replace T := Lib.hid (T.out.alloc (.cells #[.slice none 0 0] 113))
  have M6 := Lib.hid (Has.new yw7 #[.slice none 0 0] 113)
  replace HB := Lib.hid (HB.out.alloc hsz (.cells #[.slice none 0 0] 113))
  rw [← hw2] at M2 M3 M4 M5 T M6 HB; clear hw2
  (try simp only [Act.put, sI, sS, sZ])
  refine wpList_store1 (by rfl) 113 _ _ rfl rfl (yw7.heap.size) (.slice (some ⟨yw6.heap.size, 0, none⟩) 16 16) rfl rfl _ _ M6.out (by kernel_rfl) rfl rfl ?_
  intro yw14 hw2
  replace M2 := Lib.hid (M2.out.other ⟨yw7.heap.size, 0, none⟩ (.slice (some ⟨yw6.heap.size, 0, none⟩) 16 16) (show _ ≠ yw7.heap.size by omega))
  replace M3 := Lib.hid (M3.out.other ⟨yw7.heap.size, 0, none⟩ (.slice (some ⟨yw6.heap.size, 0, none⟩) 16 16) (show _ ≠ yw7.heap.size by omega))
  replace M4 := Lib.hid (M4.out.other ⟨yw7.heap.size, 0, none⟩ (.slice (some ⟨yw6.heap.size, 0, none⟩) 16 16) (show _ ≠ yw7.heap.size by omega))
  replace M5 := Lib.hid (M5.out.other ⟨yw7.heap.size, 0, none⟩ (.slice (some ⟨yw6.heap.size, 0, none⟩) 16 16) (show _ ≠ yw7.heap.size by omega))
  replace T := Lib.hid (T.out.other ⟨yw7.heap.size, 0, none⟩ (.slice (some ⟨yw6.heap.size, 0, none⟩) 16 16) (show _ ≠ yw7.heap.size by omega))
  replace M6 := Lib.hid (M6.out.setAt 0 (.slice (some ⟨yw6.heap.size, 0, none⟩) 16 16))
  replace HB := Lib.hid (HB.out.setCell (p := ⟨yw7.heap.size, 0, none⟩) (show w.heap.size ≤ yw7.heap.size by omega) (.slice (some ⟨yw6.heap.size, 0, none⟩) 16 16))
  rw [← hw2] at M2 M3 M4 M5 T M6 HB; clear hw2
  replace M6 : RowKit.Hid (Has yw14 (yw7.heap.size) #[.slice (some ⟨yw6.heap.size, 0, none⟩) 16 16] 113) := M6
  refine wpList_nil ?_
  obtain ⟨TB, hTB⟩ : ∃ B, B = yw6.heap.size := ⟨_, rfl⟩
  rw [← hTB] at T M6 ⊢
  obtain ⟨B6, hB6⟩ : ∃ B, B = yw7.heap.size := ⟨_, rfl⟩
  rw [← hB6] at M6 ⊢
  have gTB : B5 < TB := by omega
  have gB6 : TB < B6 := by omega
  clear hTB hB6
  repeat ((fail_if_success (with_reducible (show wpList _ _ _ _ _ _))); go_step)
  (refine wpList_step (fun K hK => ?_); go_simp; (try go_bits); refine hK _ _ ?_; clear hK K)
  refine wpList_nil ?_
  repeat ((fail_if_success (with_reducible (show wpList _ _ _ _ _ _))); go_step)
  go_loopw [7] (fun i wr => ∃ k : Nat, 1 ≤ k ∧ k ≤ 16 ∧ i = .int .i64 (k : Int) ∧ Has wr w.heap.size (pt x y z b) 53 ∧ Has wr (w.heap.size + 1) (k32 n) 24 ∧ HasN wr (w.heap.size + 1 + 1) 13 53 ∧ Has wr B5 #[.func (.func 92) #[.agg (e4 d)] #[]] 111 ∧ Tab wr TB k p ∧ Has wr B6 #[.slice (some ⟨TB, 0, none⟩) 16 16] 113 ∧ Below w.heap.size w wr) (fun i _ => (16 - intOf i).toNat)
  case atStart => exact ⟨1, by omega, by omega, rfl, M2.out, M3.out, M4.out, M5.out, T.out, M6.out, HB.out⟩
  case round =>
    clear M2 M3 M4 M5 T M6 HB
    obtain ⟨k, hk1, hk2, rfl, m2, m3, m4, m5, t, m6, hB⟩ := hrel
    have M2 := Lib.hid m2; clear m2
    have M3 := Lib.hid m3; clear m3
    have M4 := Lib.hid m4; clear m4
    have M5 := Lib.hid m5; clear m5
    have T := Lib.hid t; clear t
    have M6 := Lib.hid m6; clear m6
    have HB := Lib.hid hB; clear hB
    rcases Nat.lt_or_ge k 16 with hk | hk
    · have kq : (k : Int) < 16 := by omega
      repeat ((fail_if_success (with_reducible (show wpList _ _ _ _ _ _))); go_step)
      (refine wpList_step (fun K hK => ?_); go_simp; (try go_bits); refine hK _ _ ?_; clear hK K)
      refine wpList_load1 (by rfl) 113 _ rfl (B6) rfl (.slice (some ⟨TB, 0, none⟩) 16 16) _ M6.out.one Try.underlying113 rfl 17 rfl ?_
      (try simp only [Act.put, sI, sS, sZ])
      iterate 2 (refine wpList_step (fun K hK => ?_); go_simp; (try go_bits); refine hK _ _ ?_; clear hK K)
      refine wpList_nil ?_
      repeat ((fail_if_success (with_reducible (show wpList _ _ _ _ _ _))); go_step)
      obtain ⟨j, rfl⟩ : ∃ j, k = j + 1 := ⟨k - 1, by omega⟩
      have hj : j < 16 := by omega
      have kq0 : ((j + 1 : Nat) : Int) = (j : Int) + 1 := by omega
      obtain ⟨x1, y1, z1, b1, hq1, hrg⟩ := T.out.at_ j (by omega)
      have Hq1 := Lib.hid hq1; clear hq1
      have Hrg := Lib.hid hrg; clear hrg
      have Kq0 := Lib.hid kq0; clear kq0
      have hl1 := ptl_len x1 y1 z1 b1
      refine wp_region_noPanic ?_
      refine wp_region_goS (fun w' => Has w' (w.heap.size) (pt x y z b) 53 ∧ Has w' (B5) (#[.func (.func 92) #[.agg (e4 d)] #[]]) 111 ∧ Has w' (B6) (#[.slice (some ⟨TB, 0, none⟩) 16 16]) 113 ∧ Rng w' (TB) (j * 13) (ptl x1 y1 z1 b1)) 99 12 #[ff,ff,ff,ff,ff,ff,ff,ff,ff,ff,ff,ff] (by kernel_rfl) rfl rfl ?_
      replace M2 := Lib.hid (M2.out.drew)
      replace M3 := Lib.hid (M3.out.drew)
      replace M4 := Lib.hid (M4.out.drew)
      replace M5 := Lib.hid (M5.out.drew)
      replace T := Lib.hid (T.out.drew)
      replace M6 := Lib.hid (M6.out.drew)
      replace Hrg := Lib.hid (Hrg.out.drew)
      replace HB := Lib.hid (below_drewN HB.out 1)
      obtain ⟨yw101, hwyw101⟩ : ∃ ww, ww = wr.drew := ⟨_, rfl⟩
      rw [← hwyw101] at M2 M3 M4 M5 T M6 Hrg ⊢
      have kq : Below w.heap.size w yw101 := by rw [hwyw101]; exact HB.out
      clear HB; have HB := Lib.hid kq; clear kq hwyw101
      refine go_take2 0 22 #[tt,ff,ff,ff,ff,ff,ff,ff,ff,ff,ff,ff] rfl rfl rfl (by kernel_rfl) (yieldsIf_load1 (by rfl) 113 _ rfl (B6) rfl (.slice (some ⟨TB, 0, none⟩) 16 16) _ (fun _ h => Has.one (h.2.2.1)) Try.underlying113 rfl) (⟨M2.out, M5.out, M6.out, Hrg.out⟩) ?_
      (try simp only [sI, sS, sZ])
      refine go_take2 1 23 #[tt,tt,ff,ff,ff,ff,ff,ff,ff,ff,ff,ff] (v := ?uv1) rfl rfl rfl (by kernel_rfl) (Or.inl ⟨by rfl, ?uy1⟩) (⟨M2.out, M5.out, M6.out, Hrg.out⟩) ?urest1
      case uy1 => (intro _ _; go_simp; try with_reducible rfl)
      (try simp only [sI, sS, sZ])
      refine go_take2 2 24 #[tt,tt,tt,ff,ff,ff,ff,ff,ff,ff,ff,ff] rfl rfl rfl (by kernel_rfl) (yieldsIf_load1 (by rfl) 111 _ rfl (B5) rfl (.func (.func 92) #[.agg (e4 d)] #[]) _ (fun _ h => Has.one (h.2.1)) Try.underlying111 rfl) (⟨M2.out, M5.out, M6.out, Hrg.out⟩) ?_
      (try simp only [sI, sS, sZ])
      refine go_take2 3 25 #[tt,tt,tt,tt,ff,ff,ff,ff,ff,ff,ff,ff] rfl rfl rfl (by kernel_rfl) (yieldsIf_load1 (by rfl) 113 _ rfl (B6) rfl (.slice (some ⟨TB, 0, none⟩) 16 16) _ (fun _ h => Has.one (h.2.2.1)) Try.underlying113 rfl) (⟨M2.out, M5.out, M6.out, Hrg.out⟩) ?_
      (try simp only [sI, sS, sZ])
      refine go_take2 4 26 #[tt,tt,tt,tt,tt,ff,ff,ff,ff,ff,ff,ff] (v := ?uv2) rfl rfl rfl (by kernel_rfl) (Or.inl ⟨by rfl, ?uy2⟩) (⟨M2.out, M5.out, M6.out, Hrg.out⟩) ?urest2
      case uy2 => (intro _ _; go_simp; try with_reducible rfl)
      (try simp only [sI, sS, sZ])
      refine go_take2 5 27 #[tt,tt,tt,tt,tt,tt,ff,ff,ff,ff,ff,ff] (v := ?uv3) rfl rfl rfl (by kernel_rfl) (Or.inl ⟨by rfl, ?uy3⟩) (⟨M2.out, M5.out, M6.out, Hrg.out⟩) ?urest3
      case uy3 => (intro _ _; go_simp; try with_reducible rfl)
      (try simp only [sI, sS, sZ])
      refine go_take2 6 28 #[tt,tt,tt,tt,tt,tt,tt,ff,ff,ff,ff,ff] rfl rfl rfl (by kernel_rfl) (idx53 (by rfl) _ _ rfl (TB) _ _ rfl _ _ (by rfl) (j) (by rw [IntKind.wrap_i64]; omega) (by omega) (j * 13) (rfl)) (⟨M2.out, M5.out, M6.out, Hrg.out⟩) ?_
      (try simp only [sI, sS, sZ])
      refine go_take2 7 29 #[tt,tt,tt,tt,tt,tt,tt,tt,ff,ff,ff,ff] rfl rfl rfl (by kernel_rfl) (yieldsIf_loadm (by rfl) 53 _ rfl (TB) (j * 13) rfl (ptl x1 y1 z1 b1) (pt x1 y1 z1 b1) (ptl_arr ..) (fun _ h => Rng.at_ (h.2.2.2)) _ Try.underlying53 rfl (by rw [ptl_len]; kernel_rfl)) (⟨M2.out, M5.out, M6.out, Hrg.out⟩) ?_
      (try simp only [sI, sS, sZ])
      refine go_take2 8 30 #[tt,tt,tt,tt,tt,tt,tt,tt,tt,ff,ff,ff] rfl rfl rfl (by kernel_rfl) (yieldsIf_load_row (by rfl) 53 _ rfl (w.heap.size) rfl 53 (pt x y z b) (fun _ h => h.1) Try.underlying53 rfl (by rw [pt_size]; kernel_rfl)) (⟨M2.out, M5.out, M6.out, Hrg.out⟩) ?_
      (try simp only [sI, sS, sZ])
      refine wpBut_r1 (i := 9) (by kernel_rfl) ?_
      refine go_callB 9 31 #[tt,tt,tt,tt,tt,tt,tt,tt,tt,tt,ff,ff] rfl rfl rfl (by rfl) rfl rfl (by rfl) ent92 (by rfl) (sum_pta d hd hdr x1 y1 z1 b1 _ Hq1.out x y z b _ Hp.out _) ?_
      rintro e uw101 ⟨x3, y3, z3, b3, hq3, rfl, hb⟩
      replace M2 := Lib.hid (M2.out.call hb)
      replace M3 := Lib.hid (M3.out.call hb)
      replace M4 := Lib.hid (M4.out.call hb)
      replace M5 := Lib.hid (M5.out.call hb)
      replace T := Lib.hid (T.out.call hb)
      replace M6 := Lib.hid (M6.out.call hb)
      replace Hrg := Lib.hid (Hrg.out.call hb)
      replace HB := Lib.hid (held_next HB.out hb)
      have Hq3 := Lib.hid hq3; clear hq3
      refine ⟨_, rfl, fun _ => ⟨M2.out, M5.out, M6.out, Hrg.out⟩, ?_⟩
      clear hb
      (try simp only [sI, sS, sZ])
      refine go_take2 10 32 #[tt,tt,tt,tt,tt,tt,tt,tt,tt,tt,tt,ff] rfl rfl rfl (by kernel_rfl) (idx53 (by rfl) _ _ rfl (TB) _ _ rfl _ _ (by rfl) (j + 1) (rfl) (by omega) ((j + 1) * 13) (rfl)) (⟨M2.out, M5.out, M6.out, Hrg.out⟩) ?_
      (try simp only [sI, sS, sZ])
      refine wpBut_r1 (i := 11) (by kernel_rfl) ?_
      refine go_storem 11 #[tt,tt,tt,tt,tt,tt,tt,tt,tt,tt,tt,tt] rfl rfl rfl (by rfl) 53 _ _ rfl (TB) ((j + 1) * 13) (pt x3 y3 z3 b3) rfl rfl (T.out.has.there2 _ _ (by rw [pt_size]; omega)) (by rw [pt_size]; kernel_rfl) (pt_one _ _ _ _) ?_
      intro yw102 hw2
      replace M2 := Lib.hid (M2.out.setCells_other (TB) ((j + 1) * 13) ((pt x3 y3 z3 b3).toList) (by omega))
      replace M3 := Lib.hid (M3.out.setCells_other (TB) ((j + 1) * 13) ((pt x3 y3 z3 b3).toList) (by omega))
      replace M4 := Lib.hid (M4.out.setCells_other (TB) ((j + 1) * 13) ((pt x3 y3 z3 b3).toList) (by omega))
      replace M5 := Lib.hid (M5.out.setCells_other (TB) ((j + 1) * 13) ((pt x3 y3 z3 b3).toList) (by omega))
      replace M6 := Lib.hid (M6.out.setCells_other (TB) ((j + 1) * 13) ((pt x3 y3 z3 b3).toList) (by omega))
      replace Hrg := Lib.hid (Hrg.out.setCells_other (TB) ((j + 1) * 13) ((pt x3 y3 z3 b3).toList) (by omega))
      replace T := Lib.hid ((show Tab (uw101.setCells TB ((j + 1) * 13) (pt x3 y3 z3 b3).toList) TB (j + 1 + 1) p from T.out.next hk x3 y3 z3 b3 Hq3.out))
      replace HB := Lib.hid (below_setCells2 (show w.heap.size ≤ TB by omega) ((pt x3 y3 z3 b3).toList) ((j + 1) * 13) _ HB.out)
      rw [← hw2] at M2 M3 M4 M5 M6 Hrg T HB; clear hw2
      refine ⟨fun _ => ⟨M2.out, M5.out, M6.out, Hrg.out⟩, ?_⟩
      (try simp only [sI, sS, sZ])
      refine wpBut_done (by kernel_rfl) (NoPanic.normal ?_)
      clear Hrg
      repeat ((fail_if_success (with_reducible (show wpList _ _ _ _ _ _))); go_step)
      iterate 3 (refine wpList_step (fun K hK => ?_); go_simp; (try go_bits); refine hK _ _ ?_; clear hK K)
      refine wpList_nil ?_
      go_roundw
      case measure => simp [intOf]; omega
      case rel => exact ⟨_, _, _, _, _, _, _, _, _, _, _, _, _, _, _, _, _, _, ⟨j + 1 + 1, by omega, by omega, rfl, M2.out, M3.out, M4.out, M5.out, T.out, M6.out, HB.out⟩, rfl⟩
    · have hk16 : k = 16 := by omega
      subst hk16
      clear hk hk1 hk2
      repeat ((fail_if_success (with_reducible (show wpList _ _ _ _ _ _))); go_step)
      (refine wpList_step (fun K hK => ?_); go_simp; (try go_bits); refine hK _ _ ?_; clear hK K)
      refine wpList_load1 (by rfl) 113 _ rfl (B6) rfl (.slice (some ⟨TB, 0, none⟩) 16 16) _ M6.out.one Try.underlying113 rfl 17 rfl ?_
      (try simp only [Act.put, sI, sS, sZ])
      iterate 2 (refine wpList_step (fun K hK => ?_); go_simp; (try go_bits); refine hK _ _ ?_; clear hK K)
      refine wpList_nil ?_
      repeat ((fail_if_success (with_reducible (show wpList _ _ _ _ _ _))); go_step)
      refine wpList_alloc (by rfl) 53 rfl _ al53 8 rfl ?_
      intro yw101 hw2
      have hlt102 := M2.out.lt
      have hlt103 := M3.out.lt
      have hlt104 := M4.out.lt
      have hlt105 := M5.out.lt
      have hlt106 := T.out.lt
      have hlt107 := M6.out.lt
      have hsz := HB.out.size
      replace M2 := Lib.hid (M2.out.alloc (.cells z53 53))
      replace M3 := Lib.hid (M3.out.alloc (.cells z53 53))
      replace M4 := Lib.hid (M4.out.alloc (.cells z53 53))
      replace M5 := Lib.hid (M5.out.alloc (.cells z53 53))
      replace T := Lib.hid (T.out.alloc (.cells z53 53))
      replace M6 := Lib.hid (M6.out.alloc (.cells z53 53))
      have M8 := Lib.hid (Has.new wr z53 53)
      replace HB := Lib.hid (HB.out.alloc hsz (.cells z53 53))
      rw [← hw2] at M2 M3 M4 M5 T M6 M8 HB; clear hw2
      (try simp only [Act.put, sI, sS, sZ])
      refine wpList_nil ?_
      obtain ⟨B8, hB8⟩ : ∃ B, B = wr.heap.size := ⟨_, rfl⟩
      have gB8 : B6 < B8 := by omega
      rw [← hB8] at M8 ⊢
      clear hB8
      repeat ((fail_if_success (with_reducible (show wpList _ _ _ _ _ _))); go_step)
      have hl8b := M8.out.lt
      (refine wpList_step (fun K hK => ?_); go_simp; (try go_bits); refine hK _ _ ?_; clear hK K)
      refine wpList_call (by rfl) rfl rfl (by rfl) ent94 (by rfl) (bkw_call _ _ _ _) 34 rfl ?_
      rintro e uw101 ⟨⟨rfl, hbs⟩, hb⟩
      replace M2 := Lib.hid (M2.out.call hb)
      replace M3 := Lib.hid (M3.out.call hb)
      replace M4 := Lib.hid (M4.out.call hb)
      replace M5 := Lib.hid (M5.out.call hb)
      replace T := Lib.hid (T.out.call hb)
      replace M6 := Lib.hid (M6.out.call hb)
      replace M8 := Lib.hid (M8.out.call hb)
      replace HB := Lib.hid (held_next HB.out hb)
      have MS := Lib.hid hbs; clear hbs
      refine ⟨_, rfl, ?_⟩
      clear hb
      (try simp only [Act.put, sI, sS, sZ])
      refine wpList_nil ?_
      obtain ⟨BS, hBS⟩ : ∃ B, B = yw101.heap.size := ⟨_, rfl⟩
      rw [← hBS] at MS ⊢
      have gBS : B8 < BS := by omega
      clear hBS
      repeat ((fail_if_success (with_reducible (show wpList _ _ _ _ _ _))); go_step)
      have hlS := MS.out.lt
      have hl3 := M3.out.lt
      have hl8 := M8.out.lt
      have hI := ownI_from (β := List Nat) (A := uw101) (B := B8) (t := 53) (C := fun pre c => ∃ x y z b, c = pt x y z b ∧ PtA x y z b (mulA finv fd p (vl n pre))) (by omega)
      have hst := bkw_stops 2 (by decide) BS (w.heap.size + 1) 32 32 (dg 256 n) (by decide) uw101 hlS hl3 MS.out.one (fun j hj => M3.out.cell j hj)
      have hz : OwnI uw101 B8 53 (fun (pre : List Nat) c => ∃ x y z b, c = pt x y z b ∧ PtA x y z b (mulA finv fd p (vl n pre))) [] uw101 :=
        ⟨z53, ⟨0, 0, 0, false, by kernel_rfl, zero_pta⟩, M8.out, But.refl _ _⟩
      have hf : ∀ (x : Nat) (t : Array Value), ((#[35, 36] : Array Tmp).zip #[Value.int .i64 (x : Int), Value.int .u8 (dg 256 n x)]).foldl (fun t (p, v) => t.setIfInBounds p v) t = (t.setIfInBounds 35 (.int .i64 x)).setIfInBounds 36 (.int .u8 (dg 256 n x)) := fun x t => by simp
      refine range_wide (α := Nat) (n := 3) (by decide) (gf := 111) (lb := #[.pointer (some ⟨BS, 0, none⟩)]) rfl ent111 hst (fun h k => keep2_t h k) (keep2_b hlS hl3) (Below.refl _ _) (fun _ => rfl) _ hI hz
        (fun x t => t.setIfInBounds 10 (.int .u8 (dg 256 n x))) ?assign ?body ?done
      case assign =>
        intro l x W K hK
        simp only [hf, sI, sS, sZ] at hK ⊢
        gi_wp2
        exact hK
      case body =>
        rintro l pre x0 W ⟨c, ⟨x5, y5, z5, b5, rfl, hq5⟩, m8, hb8⟩ _
        have m5 := M5.out.but hb8 (by omega)
        have t1 := T.out.but hb8 (by omega)
        have m6 := M6.out.but hb8 (by omega)
        have hB := below_but HB.out hb8 (by omega) HB.out.size
        have kO := But.refl B8 W
        obtain ⟨q, hqv⟩ : ∃ q : Nat, q = n / 256 ^ x0 % 256 := ⟨_, rfl⟩
        have hq256 : q < 256 := by rw [hqv]; exact Nat.mod_lt _ (by decide)
        have hqd : dg 256 n x0 = (q : Int) := by rw [hqv]; rfl
        have hsn := vl_snoc n pre x0
        rw [← hqv] at hsn
        obtain ⟨V, hV⟩ : ∃ V, V = vl n pre := ⟨_, rfl⟩
        rw [← hV] at hsn hq5
        have hlW := Nat.lt_of_lt_of_le hlS hb8.size
        have hW8 := m8
        simp only [hf, hqd, sI, sS, sZ]
        clear hf hz hI hst hlS hl3 hl8 hl8b M2 M3 M4 M5 T M6 M8 MS HB
        have M5 := Lib.hid m5; clear m5
        have T1 := Lib.hid t1; clear t1
        have M6 := Lib.hid m6; clear m6
        have HB := Lib.hid hB; clear hB
        have KO := Lib.hid kO; clear kO
        have M8 := Lib.hid m8; clear m8
        have Hb8 := Lib.hid hb8; clear hb8
        have Hq5 := Lib.hid hq5; clear hq5
        have Hqd := Lib.hid hqd; clear hqd
        have Hqv := Lib.hid hqv; clear hqv
        have HV := Lib.hid hV; clear hV
        have Hsn := Lib.hid hsn; clear hsn
        have HW8 := Lib.hid hW8; clear hW8
        repeat ((fail_if_success (with_reducible (show wpListIn _ _ _ _ _ _ _ _))); gi_step)
        refine wpr_lit (by kernel_rfl) ?_
        iterate 6 (refine wpList_step (fun K hK => ?_); go_simp; (try go_bits); refine hK _ _ ?_; clear hK K)
        refine wpList_nil ?_
        obtain ⟨r1, r2, hr1, hr2, hrq⟩ : ∃ r1 r2 : Nat, r1 < 16 ∧ r2 < 16 ∧ q = 16 * r1 + r2 := ⟨q / 16, q % 16, by omega, by omega, by omega⟩
        have e1 : (q : Int) / 16 = (r1 : Int) := by omega
        have e2 : (q : Int) % 16 = (r2 : Int) := by omega
        rw [e1, e2]
        clear e1 e2
        have Hrq := Lib.hid hrq; clear hrq
        repeat ((fail_if_success (with_reducible (show wpListIn _ _ _ _ _ _ _ _))); gi_step)
        gi_loopw [42] (fun i wr => ∃ m x6 y6 z6 : Nat, ∃ b6, m ≤ 2 ∧ i = .int .i64 (m : Int) ∧ PtA x6 y6 z6 b6 (mulA finv fd p (if m = 0 then V else if m = 1 then 16 * V + r1 else 16 * (16 * V + r1) + r2)) ∧ Has wr B8 (pt x6 y6 z6 b6) 53 ∧ Has wr B5 #[.func (.func 92) #[.agg (e4 d)] #[]] 111 ∧ Tab wr TB 16 p ∧ Has wr B6 #[.slice (some ⟨TB, 0, none⟩) 16 16] 113 ∧ But B8 W wr ∧ Below w.heap.size w wr) (fun i _ => (2 - intOf i).toNat)
        case atStart => exact ⟨0, x5, y5, z5, b5, by omega, rfl, Hq5.out, M8.out, M5.out, T1.out, M6.out, KO.out, HB.out⟩
        case round =>
          clear M5 T1 M6 M8 KO HB
          obtain ⟨m, x6, y6, z6, b6, hm, rfl, hq6, m8, m5, t1, m6, kO, hB⟩ := hrel
          have M5 := Lib.hid m5; clear m5
          have T1 := Lib.hid t1; clear t1
          have M6 := Lib.hid m6; clear m6
          have HB := Lib.hid hB; clear hB
          have KO := Lib.hid kO; clear kO
          have M8 := Lib.hid m8; clear m8
          rcases (show m = 0 ∨ m = 1 ∨ m = 2 by omega) with rfl | rfl | rfl
          · have Hq6 := Lib.hid hq6; clear hq6
            obtain ⟨a, ha⟩ : ∃ a, a = if (0 : Nat) = 0 then V else if (0 : Nat) = 1 then 16 * V + r1 else 16 * (16 * V + r1) + r2 := ⟨_, rfl⟩
            rw [← ha] at Hq6
            have Ha := Lib.hid ha; clear ha
            repeat ((fail_if_success (with_reducible (show wpListIn _ _ _ _ _ _ _ _))); gi_step)
            refine wpr_lit (by kernel_rfl) ?_
            (refine wpList_step (fun K hK => ?_); go_simp; (try go_bits); refine hK _ _ ?_; clear hK K)
            refine wpList_nil ?_
            repeat ((fail_if_success (with_reducible (show wpListIn _ _ _ _ _ _ _ _))); gi_step)
            refine wpr_lit (by kernel_rfl) ?_
            iterate 2 (refine wpList_step (fun K hK => ?_); go_simp; (try go_bits); refine hK _ _ ?_; clear hK K)
            refine wpList_nil ?_
            repeat ((fail_if_success (with_reducible (show wpListIn _ _ _ _ _ _ _ _))); gi_step)
            refine wpr_lit (by kernel_rfl) ?_
            (refine wpList_step (fun K hK => ?_); go_simp; (try go_bits); refine hK _ _ ?_; clear hK K)
            refine wpList_nil ?_
            repeat ((fail_if_success (with_reducible (show wpListIn _ _ _ _ _ _ _ _))); gi_step)
            gi_loopw [45] (fun i wr => ∃ s x7 y7 z7 : Nat, ∃ b7, s ≤ 4 ∧ i = .int .i64 (s : Int) ∧ PtA x7 y7 z7 b7 (mulA finv fd p (2 ^ s * a)) ∧ Has wr B8 (pt x7 y7 z7 b7) 53 ∧ Has wr B5 #[.func (.func 92) #[.agg (e4 d)] #[]] 111 ∧ Tab wr TB 16 p ∧ Has wr B6 #[.slice (some ⟨TB, 0, none⟩) 16 16] 113 ∧ But B8 W wr ∧ Below w.heap.size w wr) (fun i _ => (4 - intOf i).toNat)
            case atStart => exact ⟨0, x6, y6, z6, b6, by omega, rfl, by rw [Nat.pow_zero, Nat.one_mul]; exact Hq6.out, M8.out, M5.out, T1.out, M6.out, KO.out, HB.out⟩
            case round =>
              clear M5 T1 M6 M8 KO HB Hq6
              rename_i wr2
              obtain ⟨s, x7, y7, z7, b7, hs, rfl, hq7, m8, m5, t1, m6, kO, hB⟩ := hrel
              have M5 := Lib.hid m5; clear m5
              have T1 := Lib.hid t1; clear t1
              have M6 := Lib.hid m6; clear m6
              have HB := Lib.hid hB; clear hB
              have KO := Lib.hid kO; clear kO
              have M8 := Lib.hid m8; clear m8
              have Hq7 := Lib.hid hq7; clear hq7
              rcases Nat.lt_or_ge s 4 with hs4 | hs4
              · have sq : (s : Int) < 4 := by omega
                repeat ((fail_if_success (with_reducible (show wpListIn _ _ _ _ _ _ _ _))); gi_step)
                refine wpr_lit (by kernel_rfl) ?_
                (refine wpList_step (fun K hK => ?_); go_simp; (try go_bits); refine hK _ _ ?_; clear hK K)
                refine wpList_nil ?_
                repeat ((fail_if_success (with_reducible (show wpListIn _ _ _ _ _ _ _ _))); gi_step)
                refine wpr_lit (by kernel_rfl) ?_
                refine wpList_load1 (by rfl) 111 _ rfl (B5) rfl (.func (.func 92) #[.agg (e4 d)] #[]) _ M5.out.one Try.underlying111 rfl 47 rfl ?_
                (try simp only [Act.put, sI, sS, sZ])
                refine wpList_load (by rfl) 53 _ rfl (B8) rfl 53 (pt x7 y7 z7 b7) M8.out Try.underlying53 rfl (by rw [pt_size]; kernel_rfl) 48 rfl ?_
                (try simp only [Act.put, sI, sS, sZ])
                refine wpList_load (by rfl) 53 _ rfl (B8) rfl 53 (pt x7 y7 z7 b7) M8.out Try.underlying53 rfl (by rw [pt_size]; kernel_rfl) 49 rfl ?_
                (try simp only [Act.put, sI, sS, sZ])
                refine wpList_callB (by rfl) rfl rfl (by rfl) ent92 (by rfl) (sum_pta d hd hdr x7 y7 z7 b7 _ Hq7.out x7 y7 z7 b7 _ Hq7.out _) 50 rfl ?_
                rintro e uw301 ⟨x8, y8, z8, b8, hq8, rfl, hb⟩
                replace M5 := Lib.hid (M5.out.call hb)
                replace T1 := Lib.hid (T1.out.call hb)
                replace M6 := Lib.hid (M6.out.call hb)
                replace M8 := Lib.hid (M8.out.call hb)
                replace KO := Lib.hid (KO.out.call hb)
                replace HB := Lib.hid (held_next HB.out hb)
                rw [← fld.mul_add p Hop.out] at hq8
                have Hq8 := Lib.hid hq8; clear hq8
                refine ⟨_, rfl, ?_⟩
                clear hb
                (try simp only [Act.put, sI, sS, sZ])
                first | (obtain ⟨Zq, hZ, mZ⟩ := M8.out) | (obtain ⟨Zq, hZ, mZ⟩ := M8.out.toN (pt_size ..))
                refine wpList_store2 (by rfl) 53 _ _ rfl rfl (B8) (pt x8 y8 z8 b8) rfl rfl 53 Zq mZ (by rw [pt_size]; kernel_rfl) (hZ.trans (pt_size ..).symm) (pt_one _ _ _ _) ?_
                intro yw301 hw2
                replace M5 := Lib.hid (M5.out.setRow_other (B8) (pt x8 y8 z8 b8) (by omega))
                replace T1 := Lib.hid (T1.out.setRow_other (B8) (pt x8 y8 z8 b8) (by omega))
                replace M6 := Lib.hid (M6.out.setRow_other (B8) (pt x8 y8 z8 b8) (by omega))
                replace KO := Lib.hid (KO.out.setRow_other (B8) (pt x8 y8 z8 b8) (by omega))
                replace M8 := Lib.hid (mZ.setRow (pt x8 y8 z8 b8))
                replace HB := Lib.hid (below_setRow HB.out (B8) (pt x8 y8 z8 b8) (by omega))
                rw [← hw2] at M5 T1 M6 KO M8 HB; clear mZ hZ hw2
                refine wpList_nil ?_
                repeat ((fail_if_success (with_reducible (show wpListIn _ _ _ _ _ _ _ _))); gi_step)
                refine wpr_lit (by kernel_rfl) ?_
                iterate 2 (refine wpList_step (fun K hK => ?_); go_simp; (try go_bits); refine hK _ _ ?_; clear hK K)
                refine wpList_nil ?_
                go_roundw
                case measure => simp [intOf]; omega
                case rel => exact ⟨_, _, _, _, _, _, _, ⟨s + 1, x8, y8, z8, b8, by omega, rfl, by rw [show 2 ^ (s + 1) * a = 2 ^ s * a + 2 ^ s * a by rw [Nat.pow_succ, Nat.mul_assoc, Nat.mul_comm 2 a, ← Nat.mul_assoc, Nat.mul_two]]; exact Hq8.out, M8.out, M5.out, T1.out, M6.out, KO.out, HB.out⟩, rfl⟩
              · have hs4' : s = 4 := by omega
                subst hs4'
                clear hs hs4
                repeat ((fail_if_success (with_reducible (show wpListIn _ _ _ _ _ _ _ _))); gi_step)
                refine wpr_lit (by kernel_rfl) ?_
                (refine wpList_step (fun K hK => ?_); go_simp; (try go_bits); refine hK _ _ ?_; clear hK K)
                refine wpList_nil ?_
                repeat ((fail_if_success (with_reducible (show wpListIn _ _ _ _ _ _ _ _))); gi_step)
                obtain ⟨x1, y1, z1, b1, hq1, hrg⟩ := T1.out.at_ r1 hr1
                have Hq1 := Lib.hid hq1; clear hq1
                have Hrg := Lib.hid hrg; clear hrg
                refine wpr_noPanic ?_
                refine wpr_goS (fun w' => Has w' (B5) (#[.func (.func 92) #[.agg (e4 d)] #[]]) 111 ∧ Has w' (B8) (pt x7 y7 z7 b7) 53 ∧ Has w' (B6) (#[.slice (some ⟨TB, 0, none⟩) 16 16]) 113 ∧ Rng w' (TB) (r1 * 13) (ptl x1 y1 z1 b1)) 7 8 #[ff,ff,ff,ff,ff,ff,ff,ff] (by kernel_rfl) rfl rfl ?_
                replace M5 := Lib.hid (M5.out.drew)
                replace T1 := Lib.hid (T1.out.drew)
                replace M6 := Lib.hid (M6.out.drew)
                replace M8 := Lib.hid (M8.out.drew)
                replace KO := Lib.hid (KO.out.drew)
                replace Hrg := Lib.hid (Hrg.out.drew)
                replace HB := Lib.hid (below_drewN HB.out 1)
                obtain ⟨yw301, hwyw301⟩ : ∃ ww, ww = wr.drew := ⟨_, rfl⟩
                rw [← hwyw301] at M5 T1 M6 M8 KO Hrg ⊢
                have kq : Below w.heap.size w yw301 := by rw [hwyw301]; exact HB.out
                clear HB; have HB := Lib.hid kq; clear kq hwyw301
                refine go_take2 0 52 #[tt,ff,ff,ff,ff,ff,ff,ff] rfl rfl rfl (by kernel_rfl) (yieldsIf_load1 (by rfl) 111 _ rfl (B5) rfl (.func (.func 92) #[.agg (e4 d)] #[]) _ (fun _ h => Has.one (h.1)) Try.underlying111 rfl) (⟨M5.out, M8.out, M6.out, Hrg.out⟩) ?_
                (try simp only [sI, sS, sZ])
                refine go_take2 1 53 #[tt,tt,ff,ff,ff,ff,ff,ff] rfl rfl rfl (by kernel_rfl) (yieldsIf_load_row (by rfl) 53 _ rfl (B8) rfl 53 (pt x7 y7 z7 b7) (fun _ h => h.2.1) Try.underlying53 rfl (by rw [pt_size]; kernel_rfl)) (⟨M5.out, M8.out, M6.out, Hrg.out⟩) ?_
                (try simp only [sI, sS, sZ])
                refine go_take2 2 54 #[tt,tt,tt,ff,ff,ff,ff,ff] rfl rfl rfl (by kernel_rfl) (yieldsIf_load1 (by rfl) 113 _ rfl (B6) rfl (.slice (some ⟨TB, 0, none⟩) 16 16) _ (fun _ h => Has.one (h.2.2.1)) Try.underlying113 rfl) (⟨M5.out, M8.out, M6.out, Hrg.out⟩) ?_
                (try simp only [sI, sS, sZ])
                refine go_take2 3 55 #[tt,tt,tt,tt,ff,ff,ff,ff] (v := ?uv4) rfl rfl rfl (by kernel_rfl) (Or.inl ⟨by rfl, ?uy4⟩) (⟨M5.out, M8.out, M6.out, Hrg.out⟩) ?urest4
                case uy4 => (intro _ _; go_simp; try with_reducible rfl)
                (try simp only [sI, sS, sZ])
                refine go_take2 4 56 #[tt,tt,tt,tt,tt,ff,ff,ff] rfl rfl rfl (by kernel_rfl) (idx53 (by rfl) _ _ rfl (TB) _ _ rfl _ _ (by rfl) (r1) (rfl) (by omega) (r1 * 13) (rfl)) (⟨M5.out, M8.out, M6.out, Hrg.out⟩) ?_
                (try simp only [sI, sS, sZ])
                refine go_take2 5 57 #[tt,tt,tt,tt,tt,tt,ff,ff] rfl rfl rfl (by kernel_rfl) (yieldsIf_loadm (by rfl) 53 _ rfl (TB) (r1 * 13) rfl (ptl x1 y1 z1 b1) (pt x1 y1 z1 b1) (ptl_arr ..) (fun _ h => Rng.at_ (h.2.2.2)) _ Try.underlying53 rfl (by rw [ptl_len]; kernel_rfl)) (⟨M5.out, M8.out, M6.out, Hrg.out⟩) ?_
                (try simp only [sI, sS, sZ])
                refine wpBut_r1 (i := 6) (by kernel_rfl) ?_
                refine go_callB 6 58 #[tt,tt,tt,tt,tt,tt,tt,ff] rfl rfl rfl (by rfl) rfl rfl (by rfl) ent92 (by rfl) (sum_pta d hd hdr x7 y7 z7 b7 _ Hq7.out x1 y1 z1 b1 _ Hq1.out _) ?_
                rintro e uw301 ⟨x8, y8, z8, b8, hq8, rfl, hb⟩
                replace M5 := Lib.hid (M5.out.call hb)
                replace T1 := Lib.hid (T1.out.call hb)
                replace M6 := Lib.hid (M6.out.call hb)
                replace M8 := Lib.hid (M8.out.call hb)
                replace KO := Lib.hid (KO.out.call hb)
                replace Hrg := Lib.hid (Hrg.out.call hb)
                replace HB := Lib.hid (held_next HB.out hb)
                rw [← fld.mul_add p Hop.out] at hq8
                have Hq8 := Lib.hid hq8; clear hq8
                refine ⟨_, rfl, fun _ => ⟨M5.out, M8.out, M6.out, Hrg.out⟩, ?_⟩
                clear hb
                (try simp only [sI, sS, sZ])
                refine wpBut_r1 (i := 7) (by kernel_rfl) ?_
                first | (obtain ⟨Zq, hZ, mZ⟩ := M8.out) | (obtain ⟨Zq, hZ, mZ⟩ := M8.out.toN (pt_size ..))
                refine go_store2 7 #[tt,tt,tt,tt,tt,tt,tt,tt] rfl rfl rfl (by rfl) 53 _ _ rfl (B8) (pt x8 y8 z8 b8) rfl rfl 53 Zq mZ (by rw [pt_size]; kernel_rfl) (hZ.trans (pt_size ..).symm) (pt_one _ _ _ _) ?_
                intro yw302 hw2
                replace M5 := Lib.hid (M5.out.setRow_other (B8) (pt x8 y8 z8 b8) (by omega))
                replace T1 := Lib.hid (T1.out.setRow_other (B8) (pt x8 y8 z8 b8) (by omega))
                replace M6 := Lib.hid (M6.out.setRow_other (B8) (pt x8 y8 z8 b8) (by omega))
                replace KO := Lib.hid (KO.out.setRow_other (B8) (pt x8 y8 z8 b8) (by omega))
                replace Hrg := Lib.hid (Hrg.out.setRow_other (B8) (pt x8 y8 z8 b8) (by omega))
                replace M8 := Lib.hid (mZ.setRow (pt x8 y8 z8 b8))
                replace HB := Lib.hid (below_setRow HB.out (B8) (pt x8 y8 z8 b8) (by omega))
                rw [← hw2] at M5 T1 M6 KO Hrg M8 HB; clear mZ hZ hw2
                refine ⟨fun h => (h rfl).elim, ?_⟩
                (try simp only [sI, sS, sZ])
                refine wpBut_done (by kernel_rfl) (NoPanic.normal ?_)
                clear Hrg
                repeat ((fail_if_success (with_reducible (show wpListIn _ _ _ _ _ _ _ _))); gi_step)
                refine wpr_lit (by kernel_rfl) ?_
                iterate 2 (refine wpList_step (fun K hK => ?_); go_simp; (try go_bits); refine hK _ _ ?_; clear hK K)
                refine wpList_nil ?_
                go_roundw
                case measure => simp [intOf]
                case rel => exact ⟨_, _, _, _, _, _, _, _, _, _, _, _, _, _, _, _, _, _, _, ⟨1, x8, y8, z8, b8, by omega, rfl, by have h := Hq8.out; rw [Ha.out] at h; exact h, M8.out, M5.out, T1.out, M6.out, KO.out, HB.out⟩, rfl⟩
          · have Hq6 := Lib.hid hq6; clear hq6
            obtain ⟨a, ha⟩ : ∃ a, a = if (1 : Nat) = 0 then V else if (1 : Nat) = 1 then 16 * V + r1 else 16 * (16 * V + r1) + r2 := ⟨_, rfl⟩
            rw [← ha] at Hq6
            have Ha := Lib.hid ha; clear ha
            repeat ((fail_if_success (with_reducible (show wpListIn _ _ _ _ _ _ _ _))); gi_step)
            refine wpr_lit (by kernel_rfl) ?_
            (refine wpList_step (fun K hK => ?_); go_simp; (try go_bits); refine hK _ _ ?_; clear hK K)
            refine wpList_nil ?_
            repeat ((fail_if_success (with_reducible (show wpListIn _ _ _ _ _ _ _ _))); gi_step)
            refine wpr_lit (by kernel_rfl) ?_
            iterate 2 (refine wpList_step (fun K hK => ?_); go_simp; (try go_bits); refine hK _ _ ?_; clear hK K)
            refine wpList_nil ?_
            repeat ((fail_if_success (with_reducible (show wpListIn _ _ _ _ _ _ _ _))); gi_step)
            refine wpr_lit (by kernel_rfl) ?_
            (refine wpList_step (fun K hK => ?_); go_simp; (try go_bits); refine hK _ _ ?_; clear hK K)
            refine wpList_nil ?_
            repeat ((fail_if_success (with_reducible (show wpListIn _ _ _ _ _ _ _ _))); gi_step)
            gi_loopw [45] (fun i wr => ∃ s x7 y7 z7 : Nat, ∃ b7, s ≤ 4 ∧ i = .int .i64 (s : Int) ∧ PtA x7 y7 z7 b7 (mulA finv fd p (2 ^ s * a)) ∧ Has wr B8 (pt x7 y7 z7 b7) 53 ∧ Has wr B5 #[.func (.func 92) #[.agg (e4 d)] #[]] 111 ∧ Tab wr TB 16 p ∧ Has wr B6 #[.slice (some ⟨TB, 0, none⟩) 16 16] 113 ∧ But B8 W wr ∧ Below w.heap.size w wr) (fun i _ => (4 - intOf i).toNat)
            case atStart => exact ⟨0, x6, y6, z6, b6, by omega, rfl, by rw [Nat.pow_zero, Nat.one_mul]; exact Hq6.out, M8.out, M5.out, T1.out, M6.out, KO.out, HB.out⟩
            case round =>
              clear M5 T1 M6 M8 KO HB Hq6
              rename_i wr2
              obtain ⟨s, x7, y7, z7, b7, hs, rfl, hq7, m8, m5, t1, m6, kO, hB⟩ := hrel
              have M5 := Lib.hid m5; clear m5
              have T1 := Lib.hid t1; clear t1
              have M6 := Lib.hid m6; clear m6
              have HB := Lib.hid hB; clear hB
              have KO := Lib.hid kO; clear kO
              have M8 := Lib.hid m8; clear m8
              have Hq7 := Lib.hid hq7; clear hq7
              rcases Nat.lt_or_ge s 4 with hs4 | hs4
              · have sq : (s : Int) < 4 := by omega
                repeat ((fail_if_success (with_reducible (show wpListIn _ _ _ _ _ _ _ _))); gi_step)
                refine wpr_lit (by kernel_rfl) ?_
                (refine wpList_step (fun K hK => ?_); go_simp; (try go_bits); refine hK _ _ ?_; clear hK K)
                refine wpList_nil ?_
                repeat ((fail_if_success (with_reducible (show wpListIn _ _ _ _ _ _ _ _))); gi_step)
                refine wpr_lit (by kernel_rfl) ?_
                refine wpList_load1 (by rfl) 111 _ rfl (B5) rfl (.func (.func 92) #[.agg (e4 d)] #[]) _ M5.out.one Try.underlying111 rfl 47 rfl ?_
                (try simp only [Act.put, sI, sS, sZ])
                refine wpList_load (by rfl) 53 _ rfl (B8) rfl 53 (pt x7 y7 z7 b7) M8.out Try.underlying53 rfl (by rw [pt_size]; kernel_rfl) 48 rfl ?_
                (try simp only [Act.put, sI, sS, sZ])
                refine wpList_load (by rfl) 53 _ rfl (B8) rfl 53 (pt x7 y7 z7 b7) M8.out Try.underlying53 rfl (by rw [pt_size]; kernel_rfl) 49 rfl ?_
                (try simp only [Act.put, sI, sS, sZ])
                refine wpList_callB (by rfl) rfl rfl (by rfl) ent92 (by rfl) (sum_pta d hd hdr x7 y7 z7 b7 _ Hq7.out x7 y7 z7 b7 _ Hq7.out _) 50 rfl ?_
                rintro e uw301 ⟨x8, y8, z8, b8, hq8, rfl, hb⟩
                replace M5 := Lib.hid (M5.out.call hb)
                replace T1 := Lib.hid (T1.out.call hb)
                replace M6 := Lib.hid (M6.out.call hb)
                replace M8 := Lib.hid (M8.out.call hb)
                replace KO := Lib.hid (KO.out.call hb)
                replace HB := Lib.hid (held_next HB.out hb)
                rw [← fld.mul_add p Hop.out] at hq8
                have Hq8 := Lib.hid hq8; clear hq8
                refine ⟨_, rfl, ?_⟩
                clear hb
                (try simp only [Act.put, sI, sS, sZ])
                first | (obtain ⟨Zq, hZ, mZ⟩ := M8.out) | (obtain ⟨Zq, hZ, mZ⟩ := M8.out.toN (pt_size ..))
                refine wpList_store2 (by rfl) 53 _ _ rfl rfl (B8) (pt x8 y8 z8 b8) rfl rfl 53 Zq mZ (by rw [pt_size]; kernel_rfl) (hZ.trans (pt_size ..).symm) (pt_one _ _ _ _) ?_
                intro yw301 hw2
                replace M5 := Lib.hid (M5.out.setRow_other (B8) (pt x8 y8 z8 b8) (by omega))
                replace T1 := Lib.hid (T1.out.setRow_other (B8) (pt x8 y8 z8 b8) (by omega))
                replace M6 := Lib.hid (M6.out.setRow_other (B8) (pt x8 y8 z8 b8) (by omega))
                replace KO := Lib.hid (KO.out.setRow_other (B8) (pt x8 y8 z8 b8) (by omega))
                replace M8 := Lib.hid (mZ.setRow (pt x8 y8 z8 b8))
                replace HB := Lib.hid (below_setRow HB.out (B8) (pt x8 y8 z8 b8) (by omega))
                rw [← hw2] at M5 T1 M6 KO M8 HB; clear mZ hZ hw2
                refine wpList_nil ?_
                repeat ((fail_if_success (with_reducible (show wpListIn _ _ _ _ _ _ _ _))); gi_step)
                refine wpr_lit (by kernel_rfl) ?_
                iterate 2 (refine wpList_step (fun K hK => ?_); go_simp; (try go_bits); refine hK _ _ ?_; clear hK K)
                refine wpList_nil ?_
                go_roundw
                case measure => simp [intOf]; omega
                case rel => exact ⟨_, _, _, _, _, _, _, ⟨s + 1, x8, y8, z8, b8, by omega, rfl, by rw [show 2 ^ (s + 1) * a = 2 ^ s * a + 2 ^ s * a by rw [Nat.pow_succ, Nat.mul_assoc, Nat.mul_comm 2 a, ← Nat.mul_assoc, Nat.mul_two]]; exact Hq8.out, M8.out, M5.out, T1.out, M6.out, KO.out, HB.out⟩, rfl⟩
              · have hs4' : s = 4 := by omega
                subst hs4'
                clear hs hs4
                repeat ((fail_if_success (with_reducible (show wpListIn _ _ _ _ _ _ _ _))); gi_step)
                refine wpr_lit (by kernel_rfl) ?_
                (refine wpList_step (fun K hK => ?_); go_simp; (try go_bits); refine hK _ _ ?_; clear hK K)
                refine wpList_nil ?_
                repeat ((fail_if_success (with_reducible (show wpListIn _ _ _ _ _ _ _ _))); gi_step)
                obtain ⟨x1, y1, z1, b1, hq1, hrg⟩ := T1.out.at_ r2 hr2
                have Hq1 := Lib.hid hq1; clear hq1
                have Hrg := Lib.hid hrg; clear hrg
                refine wpr_noPanic ?_
                refine wpr_goS (fun w' => Has w' (B5) (#[.func (.func 92) #[.agg (e4 d)] #[]]) 111 ∧ Has w' (B8) (pt x7 y7 z7 b7) 53 ∧ Has w' (B6) (#[.slice (some ⟨TB, 0, none⟩) 16 16]) 113 ∧ Rng w' (TB) (r2 * 13) (ptl x1 y1 z1 b1)) 7 8 #[ff,ff,ff,ff,ff,ff,ff,ff] (by kernel_rfl) rfl rfl ?_
                replace M5 := Lib.hid (M5.out.drew)
                replace T1 := Lib.hid (T1.out.drew)
                replace M6 := Lib.hid (M6.out.drew)
                replace M8 := Lib.hid (M8.out.drew)
                replace KO := Lib.hid (KO.out.drew)
                replace Hrg := Lib.hid (Hrg.out.drew)
                replace HB := Lib.hid (below_drewN HB.out 1)
                obtain ⟨yw301, hwyw301⟩ : ∃ ww, ww = wr.drew := ⟨_, rfl⟩
                rw [← hwyw301] at M5 T1 M6 M8 KO Hrg ⊢
                have kq : Below w.heap.size w yw301 := by rw [hwyw301]; exact HB.out
                clear HB; have HB := Lib.hid kq; clear kq hwyw301
                refine go_take2 0 52 #[tt,ff,ff,ff,ff,ff,ff,ff] rfl rfl rfl (by kernel_rfl) (yieldsIf_load1 (by rfl) 111 _ rfl (B5) rfl (.func (.func 92) #[.agg (e4 d)] #[]) _ (fun _ h => Has.one (h.1)) Try.underlying111 rfl) (⟨M5.out, M8.out, M6.out, Hrg.out⟩) ?_
                (try simp only [sI, sS, sZ])
                refine go_take2 1 53 #[tt,tt,ff,ff,ff,ff,ff,ff] rfl rfl rfl (by kernel_rfl) (yieldsIf_load_row (by rfl) 53 _ rfl (B8) rfl 53 (pt x7 y7 z7 b7) (fun _ h => h.2.1) Try.underlying53 rfl (by rw [pt_size]; kernel_rfl)) (⟨M5.out, M8.out, M6.out, Hrg.out⟩) ?_
                (try simp only [sI, sS, sZ])
                refine go_take2 2 54 #[tt,tt,tt,ff,ff,ff,ff,ff] rfl rfl rfl (by kernel_rfl) (yieldsIf_load1 (by rfl) 113 _ rfl (B6) rfl (.slice (some ⟨TB, 0, none⟩) 16 16) _ (fun _ h => Has.one (h.2.2.1)) Try.underlying113 rfl) (⟨M5.out, M8.out, M6.out, Hrg.out⟩) ?_
                (try simp only [sI, sS, sZ])
                refine go_take2 3 55 #[tt,tt,tt,tt,ff,ff,ff,ff] (v := ?uv5) rfl rfl rfl (by kernel_rfl) (Or.inl ⟨by rfl, ?uy5⟩) (⟨M5.out, M8.out, M6.out, Hrg.out⟩) ?urest5
                case uy5 => (intro _ _; go_simp; try with_reducible rfl)
                (try simp only [sI, sS, sZ])
                refine go_take2 4 56 #[tt,tt,tt,tt,tt,ff,ff,ff] rfl rfl rfl (by kernel_rfl) (idx53 (by rfl) _ _ rfl (TB) _ _ rfl _ _ (by rfl) (r2) (rfl) (by omega) (r2 * 13) (rfl)) (⟨M5.out, M8.out, M6.out, Hrg.out⟩) ?_
                (try simp only [sI, sS, sZ])
                refine go_take2 5 57 #[tt,tt,tt,tt,tt,tt,ff,ff] rfl rfl rfl (by kernel_rfl) (yieldsIf_loadm (by rfl) 53 _ rfl (TB) (r2 * 13) rfl (ptl x1 y1 z1 b1) (pt x1 y1 z1 b1) (ptl_arr ..) (fun _ h => Rng.at_ (h.2.2.2)) _ Try.underlying53 rfl (by rw [ptl_len]; kernel_rfl)) (⟨M5.out, M8.out, M6.out, Hrg.out⟩) ?_
                (try simp only [sI, sS, sZ])
                refine wpBut_r1 (i := 6) (by kernel_rfl) ?_
                refine go_callB 6 58 #[tt,tt,tt,tt,tt,tt,tt,ff] rfl rfl rfl (by rfl) rfl rfl (by rfl) ent92 (by rfl) (sum_pta d hd hdr x7 y7 z7 b7 _ Hq7.out x1 y1 z1 b1 _ Hq1.out _) ?_
                rintro e uw301 ⟨x8, y8, z8, b8, hq8, rfl, hb⟩
                replace M5 := Lib.hid (M5.out.call hb)
                replace T1 := Lib.hid (T1.out.call hb)
                replace M6 := Lib.hid (M6.out.call hb)
                replace M8 := Lib.hid (M8.out.call hb)
                replace KO := Lib.hid (KO.out.call hb)
                replace Hrg := Lib.hid (Hrg.out.call hb)
                replace HB := Lib.hid (held_next HB.out hb)
                rw [← fld.mul_add p Hop.out] at hq8
                have Hq8 := Lib.hid hq8; clear hq8
                refine ⟨_, rfl, fun _ => ⟨M5.out, M8.out, M6.out, Hrg.out⟩, ?_⟩
                clear hb
                (try simp only [sI, sS, sZ])
                refine wpBut_r1 (i := 7) (by kernel_rfl) ?_
                first | (obtain ⟨Zq, hZ, mZ⟩ := M8.out) | (obtain ⟨Zq, hZ, mZ⟩ := M8.out.toN (pt_size ..))
                refine go_store2 7 #[tt,tt,tt,tt,tt,tt,tt,tt] rfl rfl rfl (by rfl) 53 _ _ rfl (B8) (pt x8 y8 z8 b8) rfl rfl 53 Zq mZ (by rw [pt_size]; kernel_rfl) (hZ.trans (pt_size ..).symm) (pt_one _ _ _ _) ?_
                intro yw302 hw2
                replace M5 := Lib.hid (M5.out.setRow_other (B8) (pt x8 y8 z8 b8) (by omega))
                replace T1 := Lib.hid (T1.out.setRow_other (B8) (pt x8 y8 z8 b8) (by omega))
                replace M6 := Lib.hid (M6.out.setRow_other (B8) (pt x8 y8 z8 b8) (by omega))
                replace KO := Lib.hid (KO.out.setRow_other (B8) (pt x8 y8 z8 b8) (by omega))
                replace Hrg := Lib.hid (Hrg.out.setRow_other (B8) (pt x8 y8 z8 b8) (by omega))
                replace M8 := Lib.hid (mZ.setRow (pt x8 y8 z8 b8))
                replace HB := Lib.hid (below_setRow HB.out (B8) (pt x8 y8 z8 b8) (by omega))
                rw [← hw2] at M5 T1 M6 KO Hrg M8 HB; clear mZ hZ hw2
                refine ⟨fun h => (h rfl).elim, ?_⟩
                (try simp only [sI, sS, sZ])
                refine wpBut_done (by kernel_rfl) (NoPanic.normal ?_)
                clear Hrg
                repeat ((fail_if_success (with_reducible (show wpListIn _ _ _ _ _ _ _ _))); gi_step)
                refine wpr_lit (by kernel_rfl) ?_
                iterate 2 (refine wpList_step (fun K hK => ?_); go_simp; (try go_bits); refine hK _ _ ?_; clear hK K)
                refine wpList_nil ?_
                go_roundw
                case measure => simp [intOf]
                case rel => exact ⟨_, _, _, _, _, _, _, _, _, _, _, _, _, _, _, _, _, _, _, ⟨2, x8, y8, z8, b8, by omega, rfl, by have h := Hq8.out; rw [Ha.out] at h; exact h, M8.out, M5.out, T1.out, M6.out, KO.out, HB.out⟩, rfl⟩
          · repeat ((fail_if_success (with_reducible (show wpListIn _ _ _ _ _ _ _ _))); gi_step)
            refine wpr_lit (by kernel_rfl) ?_
            (refine wpList_step (fun K hK => ?_); go_simp; (try go_bits); refine hK _ _ ?_; clear hK K)
            refine wpList_nil ?_
            repeat ((fail_if_success (with_reducible (show wpListIn _ _ _ _ _ _ _ _))); gi_step)
            refine ⟨KO.out.others HW8.out, KO.out.keep2 (by omega) (by omega) hlW (by omega), _, ⟨x6, y6, z6, b6, rfl, ?_⟩, M8.out, But.trans Hb8.out KO.out⟩
            have h := hq6
            rw [Hsn.out, show 256 * V + q = 16 * (16 * V + r1) + r2 by rw [Hrq.out]; omega]
            exact h
      case done =>
        rintro D xs W hD rfl ⟨c, ⟨x2, y2, z2, b2, rfl, hq2⟩, m8, hb8⟩ hK
        rw [vl_all n Hn.out] at hq2
        have m4 := M4.out.but hb8 (by omega)
        have hB := below_but HB.out hb8 (by omega) HB.out.size
        have gD : B8 < D := by omega
        have hD2 : DefAt W D := hK
        clear hf hz hI hst hlS hl3 hl8 hl8b M2 M3 M4 M5 T M6 M8 MS HB hK hb8
        have M4 := Lib.hid m4; clear m4
        have HB := Lib.hid hB; clear hB
        have M8 := Lib.hid m8; clear m8
        have HD2 := Lib.hid hD2; clear hD2
        have Hq2 := Lib.hid hq2; clear hq2
        repeat ((fail_if_success (with_reducible (show wpList _ _ _ _ _ _))); go_step)
        refine wpList_load (by rfl) 53 _ rfl (B8) rfl 53 (pt x2 y2 z2 b2) M8.out Try.underlying53 rfl (by rw [pt_size]; kernel_rfl) 60 rfl ?_
        (try simp only [Act.put, sI, sS, sZ])
        first | (obtain ⟨Zq, hZ, mZ⟩ := M4.out) | (obtain ⟨Zq, hZ, mZ⟩ := M4.out.toN (pt_size ..))
        refine wpList_store2 (by rfl) 53 _ _ rfl rfl (w.heap.size + 1 + 1) (pt x2 y2 z2 b2) rfl rfl 53 Zq mZ (by rw [pt_size]; kernel_rfl) (hZ.trans (pt_size ..).symm) (pt_one _ _ _ _) ?_
        intro yw201 hw2
        replace M8 := Lib.hid (M8.out.setRow_other (w.heap.size + 1 + 1) (pt x2 y2 z2 b2) (by omega))
        replace HD2 := Lib.hid (HD2.out.setRow_other (w.heap.size + 1 + 1) (pt x2 y2 z2 b2) (by omega))
        replace M4 := Lib.hid (mZ.setRow (pt x2 y2 z2 b2))
        replace HB := Lib.hid (below_setRow HB.out (w.heap.size + 1 + 1) (pt x2 y2 z2 b2) (by omega))
        rw [← hw2] at M8 HD2 M4 HB; clear mZ hZ hw2
        refine wpList_nil ?_
        repeat ((fail_if_success (with_reducible (show wpList _ _ _ _ _ _))); go_step)
        refine ⟨by simp, .inl ⟨_, _, rfl, run_takeDeferred HD2.out, ?_⟩⟩
        have m4' := M4.out.putObj (D := D) (.deferred none) (by omega)
        have hBD : Below w.heap.size w (World.putObj yw201 D (.deferred none)) := HB.out.trans (belowK_b (w := w) (Nat.le_refl _) _ D _ _ (by omega) HD2.out rfl rfl)
        refine ⟨.agg (pt x2 y2 z2 b2), results_cell_row (t := 53) (by rfl) _ _ (w.heap.size + 1 + 1) _ _ _ rfl m4' Try.underlying53 rfl (by rw [pt_size]; kernel_rfl), x2, y2, z2, b2, Hq2.out, rfl, hBD⟩
end Go.Proofs.Ytjiagjonlcadiaa
end
section
namespace Go.Proofs.Ytjiagjonlcadiaa
open Go.RowKit Go.Lib

end Go.Proofs.Ytjiagjonlcadiaa
end
section
namespace Go.Proofs.Ytjiagjonlcadiaa
open Go.RowKit Go.Lib


end Go.Proofs.Ytjiagjonlcadiaa
end
section
namespace Go.Proofs.Ytjiagjonlcadiaa
open Go.RowKit Go.Lib
end Go.Proofs.Ytjiagjonlcadiaa
end
section
namespace Go.Proofs.Ytjiagjonlcadiaa
open Go.RowKit Go.Lib



end Go.Proofs.Ytjiagjonlcadiaa
end
section
namespace Go.Proofs.Ytjiagjonlcadiaa
open Go.RowKit Go.Lib

/-- a point's opposite -/
def negA (p : Fin PP × Fin PP) : Fin PP × Fin PP := (-p.1, p.2)
/-- a point comes back: this one of the group -/
def PtG (p : Fin PP × Fin PP) (w : World) (e : Ending) (w' : World) : Prop := ∃ x y z b, PtA x y z b p ∧ e = .returned (.agg (pt x y z b)) ∧ Below w.heap.size w w'
theorem ptp_g {X Y Z : Nat} {p : Fin PP × Fin PP} (h : Rep X Y Z p) {w w' : World} {e : Ending} (hp : PtP X Y Z w e w') : PtG p w e w' :=
  let ⟨x, y, z, b, h1, h2, h3⟩ := hp; ⟨x, y, z, b, ⟨X, Y, Z, h1, h⟩, h2, h3⟩
theorem g_gen (w : World) : Calls Try.prog 58 #[] w (PtG gG w) := (gen_any w).mono fun _ _ h => ptp_g gen_rep h
theorem g_plus (x1 y1 z1 : Nat) (b1 : Bool) (p : Fin PP × Fin PP) (h1 : PtA x1 y1 z1 b1 p) (x2 y2 z2 : Nat) (b2 : Bool) (q : Fin PP × Fin PP) (h2 : PtA x2 y2 z2 b2 q) (w : World) :
    Calls Try.prog 51 #[.agg (pt x1 y1 z1 b1), .agg (pt x2 y2 z2 b2)] w (PtG (padA finv fd p q) w) := by
  obtain ⟨X1, Y1, Z1, i1, r1⟩ := h1
  obtain ⟨X2, Y2, Z2, i2, r2⟩ := h2
  exact (pplus_any x1 y1 z1 b1 X1 Y1 Z1 i1 x2 y2 z2 b2 X2 Y2 Z2 i2 w).mono fun _ _ h => ptp_g (padd_rep _ _ _ _ _ _ p q r1 r2) h
theorem ispt_lt {x y z : Nat} {b : Bool} {X Y Z : Nat} (h : IsPt x y z b X Y Z) : X < PP := by
  obtain ⟨_, ⟨_, hx, _⟩ | ⟨_, hx, _⟩⟩ := h <;> (rw [← hx]; exact Nat.mod_lt _ PP_pos)
theorem g_minus (x1 y1 z1 : Nat) (b1 : Bool) (p : Fin PP × Fin PP) (h1 : PtA x1 y1 z1 b1 p) (x2 y2 z2 : Nat) (b2 : Bool) (q : Fin PP × Fin PP) (h2 : PtA x2 y2 z2 b2 q) (w : World) :
    Calls Try.prog 53 #[.agg (pt x1 y1 z1 b1), .agg (pt x2 y2 z2 b2)] w (PtG (padA finv fd p (negA q)) w) := by
  obtain ⟨X1, Y1, Z1, i1, r1⟩ := h1
  obtain ⟨X2, Y2, Z2, i2, r2⟩ := h2
  exact (pminus_any x1 y1 z1 b1 X1 Y1 Z1 i1 x2 y2 z2 b2 X2 Y2 Z2 i2 w).mono fun _ _ h => ptp_g (padd_rep _ _ _ _ _ _ p (negA q) r1 (neg_rep X2 Y2 Z2 q r2 (ispt_lt i2))) h
theorem g_key (x y z : Nat) (b : Bool) (p : Fin PP × Fin PP) (h : PtA x y z b p) (w : World) :
    Calls Try.prog 49 #[.agg (pt x y z b)] w fun e w' => e = .returned (.agg (k32 (keyP p))) ∧ Below w.heap.size w w' := by
  obtain ⟨X, Y, Z, i, r⟩ := h
  have := pkey_any x y z b X Y Z i w
  rw [keyn_rep X Y Z p r] at this
  exact this
theorem g_is (x1 y1 z1 : Nat) (b1 : Bool) (p : Fin PP × Fin PP) (h1 : PtA x1 y1 z1 b1 p) (x2 y2 z2 : Nat) (b2 : Bool) (q : Fin PP × Fin PP) (h2 : PtA x2 y2 z2 b2 q) (w : World) :
    Calls Try.prog 55 #[.agg (pt x1 y1 z1 b1), .agg (pt x2 y2 z2 b2)] w fun e w' => e = .returned (.bool (decide (p = q))) ∧ Below w.heap.size w w' := by
  obtain ⟨X1, Y1, Z1, i1, r1⟩ := h1
  obtain ⟨X2, Y2, Z2, i2, r2⟩ := h2
  have := pis_any x1 y1 z1 b1 X1 Y1 Z1 i1 x2 y2 z2 b2 X2 Y2 Z2 i2 w
  rw [is_rep X1 Y1 Z1 X2 Y2 Z2 p q r1 r2] at this
  exact this
theorem keyP_lt (p : Fin PP × Fin PP) : keyP p < 115792089237316195423570985008687907853269984665640564039457584007913129639936 := by
  have h1 := p.2.isLt
  have h2 : p.1.val % 2 < 2 := Nat.mod_lt _ (by decide)
  have := PP_255
  unfold keyP; omega
/-- the point of a text, the origin where there is none -/
def cofP (n : Nat) : Fin PP × Fin PP := (fi (cof n).2.1, fi (cof n).2.2)
theorem cofP_key (p : Fin PP × Fin PP) (h : OnP fd p) : cofP (keyP p) = p := by
  unfold cofP; rw [cof_keyP p h]; exact Prod.ext (fi_val _) (fi_val _)
theorem g_of (n : Nat) (hn : n < 115792089237316195423570985008687907853269984665640564039457584007913129639936) (w : World) :
    Calls Try.prog 47 #[.agg (k32 n)] w fun e w' => ∃ x y z b, PtA x y z b (cofP n) ∧ e = .returned (.tuple #[.agg (pt x y z b), .bool (cof n).1]) ∧ Below w.heap.size w w' := by
  refine (pof_any n hn w).mono ?_
  rintro e w' ⟨x, y, z, b, h1, h2, h3⟩
  rw [one_PP] at h1
  exact ⟨x, y, z, b, ⟨_, _, _, h1, cof_rep n⟩, h2, h3⟩
theorem g_ofk (p : Fin PP × Fin PP) (h : OnP fd p) (w : World) :
    Calls Try.prog 47 #[.agg (k32 (keyP p))] w fun e w' => ∃ x y z b, PtA x y z b p ∧ e = .returned (.tuple #[.agg (pt x y z b), .bool true]) ∧ Below w.heap.size w w' := by
  have := g_of (keyP p) (keyP_lt p) w
  rw [cofP_key p h, show (cof (keyP p)).1 = true by rw [cof_keyP p h]] at this
  exact this
theorem g_many (x y z n : Nat) (b : Bool) (p : Fin PP × Fin PP) (hp : PtA x y z b p) (hn : n < 115792089237316195423570985008687907853269984665640564039457584007913129639936) (w : World) :
    Calls Try.prog 56 #[.agg (pt x y z b), .agg (k32 n)] w (PtG (mulA finv fd p n) w) := pmany_any x y z n b p hp hn w
/-- the generator's multiples: only the rest by the order counts -/
theorem gG_on : OnP fd gG := gen_rep.2.2.2
theorem mul_LL : mulA finv fd gG LL = (0, 1) := by
  have h := pmul_rep (GX, GY, 1) gG gen_rep 253 LL (by decide +kernel)
  obtain ⟨hx, hy, hz, _⟩ := h
  obtain ⟨o1, o2⟩ := order_val
  have e1 : fi (pmul (GX, GY, 1) 253 LL).1 = 0 := by rw [← fi_zero]; exact (fi_eq _ _).2 (o1.trans (Nat.zero_mod _).symm)
  have e2 : fi (pmul (GX, GY, 1) 253 LL).2.1 = fi (pmul (GX, GY, 1) 253 LL).2.2 := (fi_eq _ _).2 o2
  rw [e1] at hx
  rw [e2] at hy
  refine Prod.ext ?_ ?_
  · exact (fld.dom _ _ hx.symm).resolve_right hz
  · exact fld.cancel _ _ _ hz (by rw [← hy]; grind)
theorem mul_rest (n : Nat) : mulA finv fd gG (n % LL) = mulA finv fd gG n := by
  have h : mulA finv fd gG n = padA finv fd (mulA finv fd gG (LL * (n / LL))) (mulA finv fd gG (n % LL)) := by
    rw [← fld.mul_add gG gG_on, Nat.div_add_mod]
  rw [h, ← fld.mul_mul gG gG_on, mul_LL]
  have h0 : ∀ k, mulA finv fd ((0, 1) : Fin PP × Fin PP) k = (0, 1) := by
    intro k
    induction k with
    | zero => rfl
    | succ k ih => show padA finv fd (mulA finv fd (0, 1) k) (0, 1) = (0, 1); rw [ih, fld.add_zero _ on_zero]
  rw [h0, fld.zero_add _ (fld.on_mul gG gG_on _)]
end Go.Proofs.Ytjiagjonlcadiaa
end
section
namespace Go
open Go.RowKit
variable {P : Program}

/-- B is A but for blocks from lo to hi -/
structure Zone (lo hi : Nat) (A B : World) : Prop where
  os : B.os = A.os
  tape : B.tape = A.tape
  output : B.output = A.output
  size : B.heap.size = A.heap.size
  block : ∀ k, ¬ (lo ≤ k ∧ k < hi) → B.heap[k]? = A.heap[k]?
theorem Zone.put {lo hi : Nat} (A : World) (l : Nat) (o : Obj) (h1 : lo ≤ l) (h2 : l < hi) : Zone lo hi A (A.putObj l o) :=
  ⟨rfl, rfl, rfl, World.putObj_size, fun k hk => World.putObj_heap_other (fun e => hk (by omega))⟩
theorem Zone.wide {lo lo' hi : Nat} {A B : World} (h : Zone lo hi A B) (hl : lo' ≤ lo) : Zone lo' hi A B :=
  ⟨h.os, h.tape, h.output, h.size, fun k hk => h.block k (fun ⟨a, b⟩ => hk ⟨by omega, b⟩)⟩
theorem Zone.below {lo hi n0 : Nat} {w A B : World} (hb : Below n0 w A) (h : Zone lo hi A B) (hl : n0 ≤ lo) : Below n0 w B :=
  ⟨h.os.trans hb.os, h.tape.trans hb.tape, h.output.trans hb.output, by rw [h.size]; exact hb.size, fun k hk => (h.block k (fun ⟨a, _⟩ => by omega)).trans (hb.block k hk)⟩

/-- what a function that is ranged over promises: N rounds, one behind the other; each finds what it left, and leaves the blocks 'prot' and those that the function has laid before its first round -/
def SeqZ (P : Program) (g : Nat) (lb : Array Value) (encs : Nat → Array Value) (N : Nat) (prot : Nat → Prop) (w : World) : Prop :=
  ∀ (n l : Nat) (J : Nat → Nat → World → Prop) (W : World), 1 ≤ n → Below w.heap.size w W →
    (∀ W1, Below W.heap.size W W1 → J W1.heap.size 0 W1) →
    (∀ s k A B, J s k A → Zone W.heap.size s A B → J s k B) →
    (∀ m s k W1, W.heap.size ≤ s → s ≤ W1.heap.size → k < N → J s k W1 → YieldAt Fence.wide m P l (encs k) W1 fun e W' =>
      e = .returned (.bool true) ∧ J s (k + 1) W' ∧ W1.heap.size ≤ W'.heap.size ∧ ∀ j, (W.heap.size ≤ j ∧ j < s) ∨ prot j → W'.heap[j]? = W1.heap[j]?) →
    CallsIn Fence.wide n P g (#[.func (.yield l) #[] #[]] ++ lb) W fun e W' => (∃ v, e = .returned v) ∧ ∃ s, W.heap.size ≤ s ∧ s ≤ W'.heap.size ∧ J s N W'

/-- how a round's body is left -/
def ZPost (I : Nat → Nat → World → Prop) (lo s k : Nat) (prot : Nat → Prop) (W : World) : Exit → Act → World → Prop
  | .normal, _, W' => I s k W' ∧ W.heap.size ≤ W'.heap.size ∧ ∀ j, (lo ≤ j ∧ j < s) ∨ prot j → W'.heap[j]? = W.heap[j]?
  | _, _, _ => False

theorem range_z {g : Operand} {ps : Array Tmp} {assign body : Code} {Q : Exit → Act → World → Prop} {a : Act} {w : World} {gf : Nat} {lb : Array Value} (hg : a.eval g = .func (.func gf) #[] lb) (eg : ∀ args w, (callFunc gf args).run P w = .ok (.enter gf args) w)
    {encs : Nat → Array Value} {N : Nat} {prot : Nat → Prop} {w0 : World} (hseq : SeqZ P gf lb encs N prot w0) (hb0 : Below w0.heap.size w0 w) (hps : ∀ k, (encs k).size = ps.size) (hprot : ∀ j, prot j → j < w.heap.size)
    (I : Nat → Nat → World → Prop) (h0 : ∀ W1, Below w.heap.size w W1 → w.heap.size + 2 ≤ W1.heap.size → I W1.heap.size 0 W1) (hz : ∀ s k A B, I s k A → Zone w.heap.size s A B → I s k B)
    (asg : Nat → Array Value → Array Value)
    (hassign : ∀ (m l k : Nat) (W : World) (K : Act → World → Prop), K { tmps := asg k ((ps.zip (encs k)).foldl (fun t (p, v) => t.setIfInBounds p v) a.tmps), defers := [] } W →
      assign.wpIn (Fence.wide.inRound l) m P (Exit.then K (fun _ _ _ => False)) { tmps := (ps.zip (encs k)).foldl (fun t (p, v) => t.setIfInBounds p v) a.tmps, defers := [] } W)
    (hbody : ∀ (m l s k : Nat) (W : World), w.heap.size + 2 ≤ s → s ≤ W.heap.size → k < N → I s k W →
      body.wpIn (Fence.wide.inRound l) m P (ZPost I w.heap.size s (k + 1) prot W) { tmps := asg k ((ps.zip (encs k)).foldl (fun t (p, v) => t.setIfInBounds p v) a.tmps), defers := [] } W)
    (hdone : ∀ (s : Nat) (W : World), w.heap.size + 2 ≤ s → s ≤ W.heap.size → I s N W → W.heap[w.heap.size]? = some (.deferred (some [])) → Q .normal { a with defers := { target := .collected w.heap.size, args := #[] } :: a.defers } W) :
    (Code.rangeFunc g ps assign body).wp P Q a w := by
  refine (wpIn_wide (n := 3)).1 (wpIn_rangeFunc fun fn hfn => ?_)
  obtain ⟨rec, hrec⟩ : ∃ rec : LoopState → Option Code → Loop, rec = fun st pe => { state := st, pending := pe, fn, tmps := a.tmps, params := ps, assign, body, defers := w.heap.size } := ⟨_, rfl⟩
  obtain ⟨W1, hW1⟩ : ∃ W1, (w.alloc (.deferred (some []))).alloc (.loop (rec .ready none)) = W1 := ⟨_, rfl⟩
  have hs1 : W1.heap.size = w.heap.size + 2 := by rw [← hW1]; simp
  have hL1 : W1.heap[w.heap.size + 1]? = some (.loop (rec .ready none)) := by
    have := World.alloc_heap_new (w.alloc (.deferred (some []))) (.loop (rec .ready none))
    rw [World.size_alloc] at this
    rw [← hW1]; exact this
  have hb1 : Below w.heap.size w W1 := by rw [← hW1]; exact ((Below.refl _ w).alloc (Nat.le_refl _) _).alloc (by simp) _
  have hK1 : W1.heap[w.heap.size]? = some (.deferred (some [])) := by
    rw [← hW1]; exact (Below.heap_alloc _ _ _ (by simp)).trans (World.alloc_heap_new w _)
  refine ⟨w.heap.size + 1, [{ target := .collected w.heap.size, args := #[] }], W1, { target := .fn (.func gf) lb, args := #[.func (.yield (w.heap.size + 1)) #[] #[]] }, W1, gf,
    #[.func (.yield (w.heap.size + 1)) #[] #[]] ++ lb, W1, ?_, ?_, fun _ _ => trivial, ?_, fun h => (by cases h), ?_⟩
  · rw [← hW1, hrec]; exact run_enterLoop_outer _ _ _ _ _
  · simp only [resolve, hg]
    simp [go_sem]
  · simp [invoke, go_sem, eg]
  · refine (hseq (3 - 1) (w.heap.size + 1)
      (fun s k W => I s k W ∧ w.heap.size + 2 ≤ s ∧ W.heap[w.heap.size + 1]? = some (.loop (rec .ready none)) ∧ W.heap[w.heap.size]? = some (.deferred (some []))) W1 (by decide) (hb0.trans (hb1.mono hb0.size)) ?_ ?_ ?_).mono ?_
    · intro W2 hb2
      have hz2 := hb2.size
      exact ⟨h0 W2 (hb1.trans (hb2.mono hb1.size)) (by omega), by omega, (hb2.block _ (by omega)).trans hL1, (hb2.block _ (by omega)).trans hK1⟩
    · rintro s k A B ⟨hi, hs, hl, hd⟩ hq
      exact ⟨hz s k A B hi (hq.wide (by omega)), hs, (hq.block _ (by omega)).trans hl, (hq.block _ (by omega)).trans hd⟩
    · rintro m s k W _ hs2 hk ⟨hi, hs, hl, hd⟩
      have hlt : w.heap.size + 1 < W.heap.size := (Array.getElem?_eq_some_iff.1 hl).1
      have hy := run_yield (P := P) (args := encs k) hl (by rw [hrec]; exact hps k)
      rw [hrec] at hy
      refine ⟨fn, _, assign, body, hy, roundIn_of_wpIn hfn (hassign m _ k W _ ?_)⟩
      clear hy
      refine ⟨_, run_beginRound hl (by rw [hrec]), ?_⟩
      have hl2 : (W.putObj (w.heap.size + 1) (.loop { rec .ready none with state := .busy })).heap[w.heap.size + 1]? = some (.loop { rec .ready none with state := .busy }) := World.putObj_heap_same hlt
      have hd2 : (W.putObj (w.heap.size + 1) (.loop { rec .ready none with state := .busy })).heap[w.heap.size]? = some (.deferred (some [])) := (World.putObj_heap_other (by omega)).trans hd
      have ho2 : ∀ j, j ≠ w.heap.size + 1 → (W.putObj (w.heap.size + 1) (.loop { rec .ready none with state := .busy })).heap[j]? = W.heap[j]? := fun j hj => World.putObj_heap_other hj
      have hi2 := hz s k _ _ hi (Zone.put W (w.heap.size + 1) (.loop { rec .ready none with state := .busy }) (by omega) (by omega))
      have hsz2 : (W.putObj (w.heap.size + 1) (.loop { rec .ready none with state := .busy })).heap.size = W.heap.size := World.putObj_size
      generalize W.putObj (w.heap.size + 1) (.loop { rec .ready none with state := .busy }) = W2 at *
      refine wpIn_mono (hbody m (w.heap.size + 1) s k W2 hs (by omega) hk hi2) ?_
      rintro e a3 W3 hp
      cases e with
      | normal =>
        obtain ⟨hi3, hsz3, hk3⟩ := hp
        have hl3 := (hk3 (w.heap.size + 1) (.inl ⟨by omega, by omega⟩)).trans hl2
        have hd3 := (hk3 w.heap.size (.inl ⟨by omega, by omega⟩)).trans hd2
        have hr := run_endRound (P := P) none hl3
        refine ⟨_, _, hr, rfl, ⟨hz _ _ _ _ hi3 (Zone.put W3 _ _ (by omega) (by omega)), hs, ?_, (World.putObj_heap_other (by omega)).trans hd3⟩, by rw [World.putObj_size]; omega, fun j hj => ?_⟩
        · subst hrec
          exact World.putObj_heap_same (Array.getElem?_eq_some_iff.1 hl3).1
        · have hj1 : j ≠ w.heap.size + 1 := by
            rcases hj with ⟨h1, _⟩ | h1
            · omega
            · have := hprot j h1; omega
          have hj2 : (w.heap.size ≤ j ∧ j < s) ∨ prot j := hj.imp (fun ⟨h1, h2⟩ => ⟨by omega, h2⟩) id
          exact (World.putObj_heap_other hj1).trans ((hk3 j hj2).trans (ho2 j hj1))
      | ret => exact hp.elim
      | exit id => exact hp.elim
      | goto t => exact hp.elim
      | panic ch => exact hp.elim
      | outgrown => exact hp.elim
    · rintro e W2 ⟨⟨v, rfl⟩, s, hs, hs', hi, hs2, hl, hd⟩
      refine ⟨none, _, by have := run_endLoop (P := P) hl (by rw [hrec]; simp); rw [hrec] at this; exact this, hdone s _ hs2 (by rw [World.putObj_size]; exact hs') (hz _ _ _ _ hi (Zone.put W2 _ _ (by omega) (by omega))) ((World.putObj_heap_other (by omega)).trans hd)⟩
end Go
end
section
namespace Go
theorem RoundIn.into {m l l2 : Nat} {P : Program} {f : FuncId} {tmps : Array Value} {assign body : Code} {w : World} {R : Ending → World → Prop}
    (h : RoundIn Fence.wide m P l f tmps assign body w R) : RoundIn (Fence.wide.inRound l2) m P l f tmps assign body w R := h
end Go
namespace Go.Proofs.Ytjiagjonlcadiaa
open Go.RowKit Go.Shelf

attribute [local go_sem] Oper.semAt_some

/-- block b holds these figures -/
def Figs (w : World) (b len : Nat) (g : Nat → Int) : Prop := b < w.heap.size ∧ ∀ j, j < len → w.cell? ⟨b, j, none⟩ = some (.int .u32 (g j))
section figs
variable {w w' : World} {b len : Nat} {g : Nat → Int}
theorem Figs.lt (h : Figs w b len g) : b < w.heap.size := h.1
theorem Figs.same (h : Figs w b len g) (he : w'.heap[b]? = w.heap[b]?) (hs : w.heap.size ≤ w'.heap.size) : Figs w' b len g :=
  ⟨Nat.lt_of_lt_of_le h.1 hs, fun j hj => (World.cell?_of_block (w := w) (w' := w') (a := ⟨b, j, none⟩) he).trans (h.2 j hj)⟩
theorem Figs.call (h : Figs w b len g) (hb : Below w.heap.size w w') : Figs w' b len g := h.same (hb.block _ h.1) hb.size
theorem Figs.drew (h : Figs w b len g) : Figs w.drew b len g := h
theorem Figs.alloc (h : Figs w b len g) (o : Obj) : Figs (w.alloc o) b len g := h.call ((Below.refl _ _).alloc (Nat.le_refl _) _)
theorem Figs.other (h : Figs w b len g) (a : Addr) (v : Value) (hb : b ≠ a.block) : Figs (w.setCell a v) b len g :=
  h.same (heap_setCell_other w a b v hb) ((Below.refl 0 w).setCell (p := a) (Nat.zero_le _) v).size
theorem Figs.setRow_other (h : Figs w b len g) (k : Nat) (c : Array Value) (hg : b ≠ k) : Figs (w.setRow k c) b len g :=
  h.same (Go.setRow_other w k b c hg) (below_setRow (Below.refl 0 w) k c (Nat.zero_le _)).size
theorem Has.figs {K : Nat} {f : Nat → Int} {t : TypeId} (h : Has w b (row .u32 K f) t) : Figs w b K f := ⟨h.lt, fun j hj => h.cell j hj⟩
end figs

set_option maxRecDepth 100000 in
set_option maxHeartbeats 2000000 in
theorem bku_seq (Bs b len cap : Nat) (g : Nat → Int) (hlen : len ≤ 1000000) (w : World) (hBs : Has w Bs #[.slice (some ⟨b, 0, none⟩) len cap] 86) (hc : Figs w b len g) :
    SeqZ Try.prog 126 #[.pointer (some ⟨Bs, 0, none⟩)] (fun k => #[Value.int .i64 ((len - 1 - k : Nat) : Int), Value.int .u32 (g (len - 1 - k))]) len (fun j => j = Bs ∨ j = b) w := by
  intro n l J W hn hW h0 hz hY
  have mBs := hBs.below hW hBs.lt
  have mc := hc.same (hW.block _ hc.lt) hW.size
  have hj0 := h0 W (Below.refl _ _)
  have MBs := Lib.hid mBs; clear mBs
  have Mc := Lib.hid mc; clear mc
  have H0 := Lib.hid h0; clear h0
  have Hz := Lib.hid hz; clear hz
  clear hBs hc hW
  refine callsIn_of_wp Try.func126 rfl trivial ?_ rfl
  simp only [Try.ntmps126, List.size_toArray, List.length_cons, List.length_nil, Nat.reduceAdd, Nat.reduceSub, Array.replicate_succ, Array.replicate_zero, List.push_toArray, List.append_toArray, List.nil_append, List.cons_append]
  have hBsW : W.cell? ⟨Bs, 0, none⟩ = some (.slice (some ⟨b, 0, none⟩) len cap) := by rw [MBs.out.cellAt]; rfl
  gi_wp2
  gi_loopw [3] (fun i wr => ∃ m : Nat, m ≤ len ∧ i = .int .i64 ((m : Int) - 1) ∧ J W.heap.size (len - m) wr ∧ Keep2 Bs b W wr ∧ W.heap.size ≤ wr.heap.size)
    (fun i _ => (intOf i + 1).toNat)
  case atStart => exact ⟨len, Nat.le_refl _, rfl, by rw [Nat.sub_self]; exact hj0, ⟨rfl, rfl⟩, Nat.le_refl _⟩
  case round =>
    obtain ⟨m, hm, rfl, hJs, hnx, hsz⟩ := hrel
    have hBs' := (World.cell?_of_block (w := W) (w' := wr) (a := ⟨Bs, 0, none⟩) hnx.1).trans hBsW
    rcases Nat.eq_zero_or_pos m with h0m | h0m
    · subst h0m
      gi_wp2
      go_end0
      exact ⟨⟨_, rfl⟩, _, Nat.le_refl _, hsz, hJs⟩
    · obtain ⟨j, rfl⟩ : ∃ j, m = j + 1 := ⟨m - 1, by omega⟩
      rw [show ((j + 1 : Nat) : Int) - 1 = (j : Int) by omega]
      have hj : j < len := by omega
      have hcx : wr.cell? ⟨b, j, none⟩ = some (.int .u32 (g j)) := (World.cell?_of_block (w := W) (w' := wr) (a := ⟨b, j, none⟩) hnx.2).trans (Mc.out.2 j hj)
      obtain ⟨fn, tmps, assign, body, hy, hR⟩ := hY (n - 1) W.heap.size (len - (j + 1)) wr (Nat.le_refl _) hsz (by omega) hJs
      rw [show len - 1 - (len - (j + 1)) = j by omega] at hy
      rw [show len - (j + 1) + 1 = len - j by omega] at hR
      gi_wp2
      refine hR.mono ?_
      rintro e W3 ⟨rfl, hJ3, hsz3, hk3⟩
      gi_wp2
      go_roundw
      case rel => exact ⟨j, by omega, rfl, hJ3, keep2_t hnx ⟨hk3 Bs (.inr (.inl rfl)), hk3 b (.inr (.inr rfl))⟩, by omega⟩
      case measure => simp [intOf]

set_option maxRecDepth 100000 in
set_option maxHeartbeats 1000000 in
theorem bku_call (a : Option Addr) (len cap : Nat) (w : World) : Calls Try.prog 116 #[.slice a len cap] w fun e w' => (e = .returned (.func (.func 126) #[] #[.pointer (some ⟨w.heap.size, 0, none⟩)]) ∧ Has w' w.heap.size #[.slice a len cap] 86) ∧ Below w.heap.size w w' := by
  refine (callsIn_wide (n := 0)).1 (callsIn_of_wp Try.func116 rfl trivial ?_ rfl)
  simp only [Try.ntmps116, List.size_toArray, List.length_cons, List.length_nil, Nat.reduceAdd, Nat.reduceSub, Array.replicate_succ, Array.replicate_zero, List.push_toArray, List.append_toArray, List.nil_append, List.cons_append]
  gi_wp2
  go_ret
  exact ⟨⟨rfl, Has.new w _ _⟩, below_1 w _⟩
set_option maxRecDepth 100000 in
set_option maxHeartbeats 1000000 in
theorem bkf_call (a : Option Addr) (len cap : Nat) (w : World) : Calls Try.prog 103 #[.slice a len cap] w fun e w' => (e = .returned (.func (.func 115) #[] #[.pointer (some ⟨w.heap.size, 0, none⟩)]) ∧ Has w' w.heap.size #[.slice a len cap] 86) ∧ Below w.heap.size w w' := by
  refine (callsIn_wide (n := 0)).1 (callsIn_of_wp Try.func103 rfl trivial ?_ rfl)
  simp only [Try.ntmps103, List.size_toArray, List.length_cons, List.length_nil, Nat.reduceAdd, Nat.reduceSub, Array.replicate_succ, Array.replicate_zero, List.push_toArray, List.append_toArray, List.nil_append, List.cons_append]
  gi_wp2
  go_ret
  exact ⟨⟨rfl, Has.new w _ _⟩, below_1 w _⟩
theorem ent116 : _root_.Go.Enters Try.prog 116 := ⟨_, Try.func116, by kernel_rfl, by kernel_rfl⟩
theorem ent103 : _root_.Go.Enters Try.prog 103 := ⟨_, Try.func103, by kernel_rfl, by kernel_rfl⟩
theorem ent126 : ∀ (args : Array Value) (w : World), (callFunc 126 args).run Try.prog w = .ok (.enter 126 args) w := Go.Proofs.enters_of Try.func126 (by kernel_rfl) rfl
theorem ent115 : ∀ (args : Array Value) (w : World), (callFunc 115 args).run Try.prog w = .ok (.enter 115 args) w := Go.Proofs.enters_of Try.func115 (by kernel_rfl) rfl

set_option maxRecDepth 100000 in
set_option linter.unusedSimpArgs false in
set_option maxHeartbeats 4000000 in
theorem bkf_seq (Bs b len cap : Nat) (g : Nat → Int) (hlen : len ≤ 1000000) (w0 : World) (hBs : Has w0 Bs #[.slice (some ⟨b, 0, none⟩) len cap] 86) (hc : Figs w0 b len g) :
    SeqZ Try.prog 115 #[.pointer (some ⟨Bs, 0, none⟩)] (fun k => #[Value.int .u32 (g (len - 1 - k))]) len (fun j => j = Bs ∨ j = b) w0 := by
  intro n l J w hn hW h0 hz hY
  have m1 := hBs.below hW hBs.lt
  have mc := hc.same (hW.block _ hc.lt) hW.size
  have lBs := m1.lt
  have lb := mc.lt
  have M1 := Lib.hid m1; clear m1
  have Mc := Lib.hid mc; clear mc
  clear hBs hc hW
  refine callsIn_of_wp_marks Try.func115 rfl trivial (wpIn_wide.2 ?_) rfl
  simp only [Try.ntmps115, List.size_toArray, List.length_cons, List.length_nil, Nat.reduceAdd, Nat.reduceSub, Array.replicate_succ, Array.replicate_zero, List.push_toArray, List.append_toArray, List.nil_append, List.cons_append]
  repeat ((fail_if_success (with_reducible (show wpList _ _ _ _ _ _))); go_step)
  (refine wpList_step (fun K hK => ?_); go_simp; (try go_bits); refine hK _ _ ?_; clear hK K)
  refine wpList_nil ?_
  have MY := Lib.hid (Has.new w #[.func (.yield l) #[] #[]] 142)
  have HB := Lib.hid (below_1 w (.cells #[.func (.yield l) #[] #[]] 142))
  replace M1 := Lib.hid (M1.out.alloc (.cells #[.func (.yield l) #[] #[]] 142))
  replace Mc := Lib.hid (Mc.out.alloc (.cells #[.func (.yield l) #[] #[]] 142))
  obtain ⟨yw1, hwyw1⟩ : ∃ ww, ww = w.alloc (.cells #[.func (.yield l) #[] #[]] 142) := ⟨_, rfl⟩
  rw [← hwyw1] at M1 Mc MY HB ⊢
  clear hwyw1
  repeat ((fail_if_success (with_reducible (show wpList _ _ _ _ _ _))); go_step)
  have MYl := MY.out.lt
  refine wpList_load1 (by rfl) 86 _ rfl (Bs) rfl (.slice (some ⟨b, 0, none⟩) len cap) _ M1.out.one Try.underlying86 rfl 5 rfl ?_
  (try simp only [Act.put, sI, sS, sZ])
  refine wpList_call (by rfl) rfl rfl (by rfl) ent116 (by rfl) (bku_call _ _ _ _) 6 rfl ?_
  rintro e uw1 ⟨⟨rfl, hbs⟩, hb⟩
  replace M1 := Lib.hid (M1.out.call hb)
  replace Mc := Lib.hid (Mc.out.call hb)
  replace MY := Lib.hid (MY.out.call hb)
  replace HB := Lib.hid (held_next HB.out hb)
  have MS := Lib.hid hbs; clear hbs
  refine ⟨_, rfl, ?_⟩
  clear hb
  (try simp only [Act.put, sI, sS, sZ])
  refine wpList_nil ?_
  have gY : w.heap.size < yw1.heap.size := MYl
  obtain ⟨BS, hBS⟩ : ∃ B, B = yw1.heap.size := ⟨_, rfl⟩
  rw [← hBS] at MS gY ⊢
  clear hBS
  repeat ((fail_if_success (with_reducible (show wpList _ _ _ _ _ _))); go_step)
  have hlS := MS.out.lt
  have hlb := Mc.out.lt
  have hsz := HB.out.size
  have hst := bku_seq BS b len cap g hlen uw1 MS.out Mc.out
  have hf : ∀ (k : Nat) (t : Array Value), ((#[7, 8] : Array Tmp).zip #[Value.int .i64 ((len - 1 - k : Nat) : Int), Value.int .u32 (g (len - 1 - k))]).foldl (fun t (p, v) => t.setIfInBounds p v) t = (t.setIfInBounds 7 (.int .i64 ((len - 1 - k : Nat) : Int))).setIfInBounds 8 (.int .u32 (g (len - 1 - k))) := fun k t => by simp
  refine range_z (gf := 126) (lb := #[.pointer (some ⟨BS, 0, none⟩)]) rfl ent126 hst (Below.refl _ _) (fun _ => rfl) (fun j hj => by rcases hj with rfl | rfl <;> omega)
    (fun s k V => uw1.heap.size ≤ s ∧ J s k V ∧ Has V w.heap.size #[.func (.yield l) #[] #[]] 142) ?h0 ?hz (fun k t => t.setIfInBounds 4 (.int .u32 (g (len - 1 - k)))) ?assign ?body ?done
  case h0 =>
    intro W1 hb hs
    exact ⟨hb.size, h0 W1 (HB.out.trans (hb.mono hsz)), MY.out.below hb (by omega)⟩
  case hz =>
    rintro s k A B ⟨h1, h2, h3⟩ hq
    exact ⟨h1, hz s k A B h2 (hq.wide hsz), (hq.block _ (by omega)).trans h3⟩
  case assign =>
    intro m l2 k V K hK
    simp only [hf, sI, sS, sZ] at hK ⊢
    gi_wp2
    exact hK
  case body =>
    rintro m l2 s k V hs hsV hk ⟨h1, h2, h3⟩
    have hcy := h3.one
    obtain ⟨fn, tmps, assign, body, hy, hR⟩ := hY (m - 1) s k V (by omega) hsV hk h2
    have hR' := hR.into (l2 := l2)
    clear hR hst hz h0 hY h2
    simp only [hf, sI, sS, sZ]
    clear hf
    gi_wp2
    refine ⟨fun h => (by cases h), hR'.mono ?_⟩
    rintro e V3 ⟨rfl, hJ3, hsz3, hk3⟩
    gi_wp2
    exact ⟨⟨h1, hJ3, (hk3 _ (.inl ⟨by omega, by omega⟩)).trans h3⟩, hsz3, fun j hj => hk3 j (by rcases hj with ⟨h4, h5⟩ | rfl | rfl <;> first | exact .inl ⟨by omega, by omega⟩ | exact .inr (.inr rfl))⟩
  case done =>
    rintro s V hs hsV ⟨h1, h2, h3⟩ hD
    have hD2 := Lib.hid hD
    clear hD
    repeat ((fail_if_success (with_reducible (show wpList _ _ _ _ _ _))); go_step)
    refine ⟨by simp, .inl ⟨_, _, rfl, run_takeDeferred hD2.out, ?_⟩⟩
    refine ⟨_, results_none rfl _ _ _, ⟨_, rfl⟩, s, by omega, by rw [World.putObj_size]; exact hsV, hz _ _ _ _ h2 (Zone.put V _ _ hsz (by omega))⟩
end Go.Proofs.Ytjiagjonlcadiaa
end
section
namespace Go
open Go.RowKit
theorem ownsRow_zone {A B : World} {lo s : Nat} {e : TypeId} {size : Nat} {v : Value} {n : Nat} {xs : List Value} (h : A.ownsRow s e size v n xs) (hq : Zone lo s A B) : B.ownsRow s e size v n xs := by
  obtain ⟨h1, h2⟩ := h
  refine ⟨h1, h2.imp id ?_⟩
  rintro ⟨g, cap, cur, hv, hb, hg, hr⟩
  exact ⟨g, cap, cur, hv, hb, (hq.block g (fun ⟨_, h⟩ => by omega)).trans hg, hr⟩
theorem ownsRow_base {A : World} {b s : Nat} {e : TypeId} {size : Nat} {v : Value} {n : Nat} {xs : List Value} (h : A.ownsRow s e size v n xs) (hb : b ≤ s) : A.ownsRow b e size v n xs := by
  obtain ⟨h1, h2⟩ := h
  refine ⟨h1, h2.imp id ?_⟩
  rintro ⟨g, cap, cur, hv, hb', hr⟩
  exact ⟨g, cap, cur, hv, by omega, hr⟩
theorem ownsRow_s {W : World} {base : Nat} {e : TypeId} {size n : Nat} {v : Value} {xs : List Value} (h : W.ownsRow base e size v (n + 1) xs) : ∃ g cap, v = .slice (some ⟨g, 0, none⟩) (n + 1) cap ∧ base ≤ g := by
  rcases h.2 with ⟨_, h⟩ | ⟨g, cap, cur, hv, hb, _⟩
  · omega
  · exact ⟨g, cap, hv, hb⟩
end Go
namespace Go.Proofs.Ytjiagjonlcadiaa
open Go.RowKit Go.Shelf

attribute [local go_sem] Oper.semAt_some

theorem info91 : (Try.prog.info? 91).map (fun i => (i.zero, i.size, i.bytes)) = some (some (.int .u32 0), 1, 4) := by kernel_rfl
/-- the first k figures, as values -/
def fvals (vals : Nat → Int) (k : Nat) : List Value := (List.range k).map fun j => Value.int .u32 (vals j)
theorem fvals_succ (vals : Nat → Int) (k : Nat) : fvals vals (k + 1) = fvals vals k ++ [.int .u32 (vals k)] := by simp [fvals, List.range_succ]

set_option maxRecDepth 100000 in
set_option linter.unusedSimpArgs false in
set_option maxHeartbeats 4000000 in
theorem apseq_any (gf : Nat) (lb : Array Value) (len : Nat) (hlen : len ≤ 1000000) (vals : Nat → Int) (prot : Nat → Prop) (eg : ∀ (args : Array Value) (w : World), (callFunc gf args).run Try.prog w = .ok (.enter gf args) w) (w : World)
    (hseq : SeqZ Try.prog gf lb (fun k => #[.int .u32 (vals k)]) len prot w) (hprot : ∀ j, prot j → j < w.heap.size) :
    Calls Try.prog 118 #[.slice none 0 0, .func (.func gf) #[] lb] w fun e w' => (∃ v, e = .returned v ∧ w'.ownsRow w.heap.size 91 1 v len (fvals vals len)) ∧ Below w.heap.size w w' := by
  obtain ⟨i0, hi, hz0, hz1, hz2⟩ := info_parts info91
  refine (callsIn_wide (n := 3)).1 (callsIn_of_wp_marks Try.func118 rfl trivial (wpIn_wide.2 ?_) rfl)
  simp only [Try.ntmps118, List.size_toArray, List.length_cons, List.length_nil, Nat.reduceAdd, Nat.reduceSub, Array.replicate_succ, Array.replicate_zero, List.push_toArray, List.append_toArray, List.nil_append, List.cons_append]
  repeat ((fail_if_success (with_reducible (show wpList _ _ _ _ _ _))); go_step)
  iterate 2 (refine wpList_step (fun K hK => ?_); go_simp; (try go_bits); refine hK _ _ ?_; clear hK K)
  refine wpList_nil ?_
  have M2 := Lib.hid (Has.new w  (#[.slice none 0 0]) 86)
  have HB := Lib.hid (below_1 w (.cells (#[.slice none 0 0]) 86))
  obtain ⟨yw1, hwyw1⟩ : ∃ ww, ww = (w.alloc (.cells (#[.slice none 0 0]) 86)) := ⟨_, rfl⟩
  rw [← hwyw1] at M2 HB ⊢
  clear hwyw1
  repeat ((fail_if_success (with_reducible (show wpList _ _ _ _ _ _))); go_step)
  (refine wpList_step (fun K hK => ?_); go_simp; (try go_bits); refine hK _ _ ?_; clear hK K)
  refine wpList_nil ?_
  repeat ((fail_if_success (with_reducible (show wpList _ _ _ _ _ _))); go_step)
  have hlt := M2.out.lt
  have hsz := HB.out.size
  have hf : ∀ (k : Nat) (t : Array Value), ((#[7] : Array Tmp).zip #[Value.int .u32 (vals k)]).foldl (fun t (p, v) => t.setIfInBounds p v) t = t.setIfInBounds 7 (.int .u32 (vals k)) := fun k t => by simp
  refine range_z (gf := gf) (lb := lb) rfl eg hseq HB.out (fun _ => rfl) (fun j hj => by have := hprot j hj; omega)
    (fun s k V => ∃ v, Has V w.heap.size #[v] 86 ∧ V.ownsRow s 91 1 v k (fvals vals k) ∧ Below w.heap.size w V ∧ yw1.heap.size ≤ s) ?h0 ?hz (fun k t => t.setIfInBounds 5 (.int .u32 (vals k))) ?assign ?body ?done
  case h0 =>
    intro W1 hb hs
    exact ⟨_, M2.out.below hb hlt, World.ownsRow_nil _ _ _ _, HB.out.trans (hb.mono hsz), hb.size⟩
  case hz =>
    rintro s k A B ⟨v, h1, h2, h3, h4⟩ hq
    exact ⟨v, (hq.block _ (by omega)).trans h1, ownsRow_zone h2 hq, hq.below h3 hsz, h4⟩
  case assign =>
    intro m l2 k V K hK
    simp only [hf, sI, sS, sZ] at hK ⊢
    gi_wp2
    exact hK
  case body =>
    rintro m l2 s k V hs hsV hk ⟨v, h1, h2, h3, h4⟩
    simp only [hf, sI, sS, sZ]
    clear hf hseq
    have M2 := Lib.hid h1
    have Hown := Lib.hid h2
    have H3 := Lib.hid h3
    clear h1 h2 h3
    repeat ((fail_if_success (with_reducible (show wpListIn _ _ _ _ _ _ _ _))); gi_step)
    refine wpr_lit (by kernel_rfl) ?_
    refine wpList_load1 (by rfl) 86 _ rfl (w.heap.size) rfl (v) _ M2.out.one Try.underlying86 rfl 8 rfl ?_
    (try simp only [Act.put, sI, sS, sZ])
    iterate 2 (refine wpList_step (fun K hK => ?_); go_simp; (try go_bits); refine hK _ _ ?_; clear hK K)
    
    refine wpList_append_own _ rfl _ _ 86 rfl s 91 i0 (.int .u32 0) 1 4 Try.underlying86 hi hz0 hz1 hz2 rfl (by decide) v k (fvals vals k) rfl (Hown.out.alloc _) ⟨V.heap.size, 0, none⟩ 1 1 [.int .u32 (vals k)] rfl rfl (cell_one_new _ _ _) (by simp [Value.oneCell']) (by unfold maxLen; omega) (by omega) (by simp; omega) ?_
    intro v' w1 hown' hgrow _
    obtain ⟨g', cap', rfl, hg'⟩ := ownsRow_s hown'
    have hne : ∀ j, j < s → some j ≠ v.ownBlock := fun j hj e => by have := (Hown.out.lt j e.symm).1; omega
    have mB : Has w1 w.heap.size #[v] 86 := (hgrow.block _ (by have := M2.out.lt; simp; omega) (hne _ (by omega))).trans (M2.out.alloc _)
    have hszg := hgrow.size
    rw [World.size_alloc] at hszg
    (try simp only [Act.put, sI, sS, sZ])
    refine wpList_store1 (by rfl) 86 _ _ rfl rfl (w.heap.size) (.slice (some ⟨g', 0, none⟩) (k + 1) cap') rfl rfl _ _ mB (by kernel_rfl) rfl rfl ?_
    intro w2 hw2
    refine wpList_nil ?_
    have hs2 : w1.heap.size ≤ w2.heap.size := by rw [hw2]; exact ((Below.refl 0 w1).setCell (p := ⟨w.heap.size, 0, none⟩) (Nat.zero_le _) _).size
    refine ⟨⟨_, by rw [hw2]; exact mB.setAt 0 _, ?_, ?_, h4⟩, by omega, fun j hj => ?_⟩
    · rw [fvals_succ, hw2]
      exact hown'.kept (grownBy_setCell' w1 w.heap.size _) (.inr (by unfold Value.ownBlock; intro e; injection e with e; have e2 : g' = w.heap.size := e; omega))
    · rw [hw2]
      have hb1 : Below w.heap.size w w1 := (H3.out.alloc H3.out.size (.cells #[.int .u32 (vals k)] 91)).grown hgrow (by rw [World.size_alloc]; have := H3.out.size; omega) (fun j e => by have := (Hown.out.lt j e).1; omega)
      exact hb1.setCell (p := ⟨w.heap.size, 0, none⟩) (Nat.le_refl _) _
    · have hj1 : j < s ∧ j ≠ w.heap.size := by
        rcases hj with ⟨a, b⟩ | h
        · exact ⟨b, by omega⟩
        · have := hprot j h; exact ⟨by omega, by omega⟩
      rw [hw2]
      exact (heap_setCell_other w1 ⟨w.heap.size, 0, none⟩ j _ hj1.2).trans ((hgrow.block j (by rw [World.size_alloc]; omega) (hne j hj1.1)).trans (Below.heap_alloc V _ j (by omega)))
  case done =>
    rintro s V hs hsV ⟨v, h1, h2, h3, h4⟩ hD
    have hD2 := Lib.hid hD
    have M2 := Lib.hid h1
    have Hown := Lib.hid h2
    have H3 := Lib.hid h3
    clear hD h1 h2 h3 hseq hf
    repeat ((fail_if_success (with_reducible (show wpList _ _ _ _ _ _))); go_step)
    refine wpList_load1 (by rfl) 86 _ rfl (w.heap.size) rfl (v) _ M2.out.one Try.underlying86 rfl 12 rfl ?_
    (try simp only [Act.put, sI, sS, sZ])
    (refine wpList_step (fun K hK => ?_); go_simp; (try go_bits); refine hK _ _ ?_; clear hK K)
    refine wpList_nil ?_
    repeat ((fail_if_success (with_reducible (show wpList _ _ _ _ _ _))); go_step)
    refine ⟨by simp, .inl ⟨_, _, rfl, run_takeDeferred hD2.out, ?_⟩⟩
    have hq : Zone yw1.heap.size s V (V.putObj yw1.heap.size (.deferred none)) := Zone.put V _ _ (Nat.le_refl _) (by omega)
    refine ⟨_, results_tmp rfl _ _ _, ⟨_, rfl, ownsRow_base (ownsRow_zone Hown.out hq) (by omega)⟩, hq.below H3.out hsz⟩
end Go.Proofs.Ytjiagjonlcadiaa
end
section
namespace Go.Proofs.Ytjiagjonlcadiaa
open Go.RowKit Go.Lib

/-- the order -/
def L0 : Nat := 7237005577332262213973186563042994240857116359379907606001950938285454250989
/-- seventeen figures of 16 bits -/
def r17 (n : Nat) : Array Value := row .u32 17 (dg 65536 n)
theorem r17_size (n : Nat) : (r17 n).size = 17 := row_size _ _ _
def z92 : Array Value := (#[.int .u32 0, .int .u32 0, .int .u32 0, .int .u32 0, .int .u32 0, .int .u32 0, .int .u32 0, .int .u32 0, .int .u32 0, .int .u32 0, .int .u32 0, .int .u32 0, .int .u32 0, .int .u32 0, .int .u32 0, .int .u32 0, .int .u32 0] : Array Value)
theorem al92 (w : World) : (Instr.alloc 92 true (.tuple #[])).run Try.prog w = .ok (.pointer (some ⟨w.heap.size, 0, none⟩)) (w.alloc (.cells z92 92)) := by
  unfold z92
  go_simp
theorem bd92 : Try.prog.built 92 [(0, .int .u32 54253), (1, .int .u32 23797), (2, .int .u32 25370), (3, .int .u32 22546), (4, .int .u32 40150), (5, .int .u32 41719), (6, .int .u32 63966), (7, .int .u32 5342), (15, .int .u32 4096)] = some (r17 L0) := by kernel_rfl

set_option maxRecDepth 100000 in
set_option linter.unusedSimpArgs false in
set_option maxHeartbeats 4000000 in
theorem order_any (w : World) : Calls Try.prog 105 #[] w fun e w' => e = .returned (.agg (r17 L0)) ∧ Below w.heap.size w w' := by
  go_enter Try.func105, Try.ntmps105
  repeat ((fail_if_success (with_reducible (show wpList _ _ _ _ _ _))); go_step)
  (refine wpList_step (fun K hK => ?_); go_simp; (try go_bits); refine hK _ _ ?_; clear hK K)
  refine wpList_nil ?_
  have M0 := Lib.hid (HasN.new w  (#[.int .u32 0, .int .u32 0, .int .u32 0, .int .u32 0, .int .u32 0, .int .u32 0, .int .u32 0, .int .u32 0, .int .u32 0, .int .u32 0, .int .u32 0, .int .u32 0, .int .u32 0, .int .u32 0, .int .u32 0, .int .u32 0, .int .u32 0] : Array Value) 92 17 (by kernel_rfl))
  have HB := Lib.hid (below_1 w (.cells (#[.int .u32 0, .int .u32 0, .int .u32 0, .int .u32 0, .int .u32 0, .int .u32 0, .int .u32 0, .int .u32 0, .int .u32 0, .int .u32 0, .int .u32 0, .int .u32 0, .int .u32 0, .int .u32 0, .int .u32 0, .int .u32 0, .int .u32 0] : Array Value) 92))
  obtain ⟨yw1, hwyw1⟩ : ∃ ww, ww = (w.alloc (.cells (#[.int .u32 0, .int .u32 0, .int .u32 0, .int .u32 0, .int .u32 0, .int .u32 0, .int .u32 0, .int .u32 0, .int .u32 0, .int .u32 0, .int .u32 0, .int .u32 0, .int .u32 0, .int .u32 0, .int .u32 0, .int .u32 0, .int .u32 0] : Array Value) 92)) := ⟨_, rfl⟩
  rw [← hwyw1] at M0 HB ⊢
  clear hwyw1
  repeat ((fail_if_success (with_reducible (show wpList _ _ _ _ _ _))); go_step)
  refine wpList_built (by rfl) 92 _ rfl _ (by rfl) (r17 L0) (bd92) 1 rfl ?_
  (try simp only [Act.put, sI, sS, sZ])
  first | (obtain ⟨Zq, hZ, mZ⟩ := M0.out) | (obtain ⟨Zq, hZ, mZ⟩ := M0.out.toN (r17_size ..))
  refine wpList_store2 (by rfl) 92 _ _ rfl rfl (w.heap.size) (r17 L0) rfl rfl 92 Zq mZ (by rw [r17_size]; kernel_rfl) (hZ.trans (r17_size ..).symm) (row_one _ _ _) ?_
  intro yw2 hw2
  replace M0 := Lib.hid (mZ.setRow (r17 L0))
  replace HB := Lib.hid (below_setRow HB.out (w.heap.size) (r17 L0) (by omega))
  rw [← hw2] at M0 HB; clear mZ hZ hw2
  refine wpList_nil ?_
  go_wp2_with fail
  exact bodyPost_ret (v := .agg (r17 L0)) (results_cell_row (t := 92) (by rfl) _ _ (w.heap.size) _ _ _ rfl M0.out Try.underlying92 rfl (by rw [r17_size]; kernel_rfl)) rfl ⟨rfl, HB.out⟩
theorem ent105 : _root_.Go.Enters Try.prog 105 := ⟨_, Try.func105, by kernel_rfl, by kernel_rfl⟩
theorem ent106 : _root_.Go.Enters Try.prog 106 := ⟨_, Try.func106, by kernel_rfl, by kernel_rfl⟩
theorem ent107 : _root_.Go.Enters Try.prog 107 := ⟨_, Try.func107, by kernel_rfl, by kernel_rfl⟩
theorem ent108 : _root_.Go.Enters Try.prog 108 := ⟨_, Try.func108, by kernel_rfl, by kernel_rfl⟩
theorem ent118 : _root_.Go.Enters Try.prog 118 := ⟨_, Try.func118, by kernel_rfl, by kernel_rfl⟩
theorem ent72 : _root_.Go.Enters Try.prog 72 := ⟨_, Try.func72, by kernel_rfl, by kernel_rfl⟩

set_option maxRecDepth 100000 in
set_option linter.unusedSimpArgs false in
set_option maxHeartbeats 4000000 in
theorem collect_any (gf : Nat) (lb : Array Value) (len : Nat) (h1 : 1 ≤ len) (hlen : len ≤ 1000000) (vals : Nat → Int) (prot : Nat → Prop) (eg : ∀ (args : Array Value) (w : World), (callFunc gf args).run Try.prog w = .ok (.enter gf args) w) (w : World)
    (hseq : SeqZ Try.prog gf lb (fun k => #[.int .u32 (vals k)]) len prot w) (hprot : ∀ j, prot j → j < w.heap.size) :
    Calls Try.prog 107 #[.func (.func gf) #[] lb] w fun e w' => (∃ B cap, e = .returned (.slice (some ⟨B, 0, none⟩) len cap) ∧ Figs w' B len vals) ∧ Below w.heap.size w w' := by
  have hap := apseq_any gf lb len hlen vals prot eg w hseq hprot
  have Hap := Lib.hid hap; clear hap
  clear hseq
  go_enter Try.func107, Try.ntmps107
  repeat ((fail_if_success (with_reducible (show wpList _ _ _ _ _ _))); go_step)
  (refine wpList_step (fun K hK => ?_); go_simp; (try go_bits); refine hK _ _ ?_; clear hK K)
  refine wpList_nil ?_
  have HB := Lib.hid (Below.refl w.heap.size w)
  repeat ((fail_if_success (with_reducible (show wpList _ _ _ _ _ _))); go_step)
  (refine wpList_step (fun K hK => ?_); go_simp; (try go_bits); refine hK _ _ ?_; clear hK K)
  refine wpList_call (by rfl) rfl rfl (by rfl) ent118 (by rfl) (Hap.out) 4 rfl ?_
  rintro e uw1 ⟨⟨rv, rfl, hown⟩, hb⟩
  replace HB := Lib.hid (held_next HB.out hb)
  refine ⟨_, rfl, ?_⟩
  clear hb
  (try simp only [Act.put, sI, sS, sZ])
  (refine wpList_step (fun K hK => ?_); go_simp; (try go_bits); refine hK _ _ ?_; clear hK K)
  refine wpList_nil ?_
  obtain ⟨j, rfl⟩ : ∃ j, len = j + 1 := ⟨len - 1, by omega⟩
  obtain ⟨hl, hr⟩ := hown
  rcases hr with ⟨_, h0⟩ | ⟨g, cap, cur, rfl, _, hg, hn, _, hcs, htk⟩
  · omega
  · have hfig : Figs uw1 g (j + 1) vals := ⟨(Array.getElem?_eq_some_iff.1 hg).1, fun i hi => by
      have hm : Has uw1 g cur 91 := hg
      rw [hm.cellAt]
      have h2 : (cur.toList.take ((j + 1) * 1))[i]? = some (.int .u32 (vals i)) := by rw [htk]; simp [fvals, hi]
      rw [List.getElem?_take_of_lt (by omega)] at h2
      simpa using h2⟩
    go_wp2_with fail
    go_ret
    exact ⟨⟨g, cap, rfl, hfig⟩, HB.out⟩

set_option maxRecDepth 100000 in
set_option maxHeartbeats 1000000 in
theorem cmp_any (a b : Int) (ha : 0 ≤ a) (ha2 : a < 65536) (hb : 0 ≤ b) (hb2 : b < 65536) (w : World) : Calls Try.prog 108 #[.int .u32 a, .int .u32 b] w fun e w' => e = .returned (.int .i64 (a - b)) ∧ Below w.heap.size w w' := by
  go_enter Try.func108, Try.ntmps108
  go_wp2
  go_ret
  exact ⟨rfl, Below.refl _ _⟩

/-- the first difference of two rows of figures -/
def CmpZ (N : Nat) (A B : Nat → Int) (z : Int) : Prop := (∃ i, i < N ∧ (∀ j, j < i → A j = B j) ∧ A i ≠ B i ∧ z = A i - B i) ∨ ((∀ j, j < N → A j = B j) ∧ z = 0)

set_option maxRecDepth 100000 in
set_option linter.unusedSimpArgs false in
set_option maxHeartbeats 4000000 in
theorem cmpf_any (b1 b2 N c1 c2 : Nat) (A B : Nat → Int) (hN : N ≤ 1000) (hA : ∀ j, 0 ≤ A j ∧ A j < 65536) (hB2 : ∀ j, 0 ≤ B j ∧ B j < 65536) (w : World) (f1 : Figs w b1 N A) (f2 : Figs w b2 N B) :
    Calls Try.prog 106 #[.slice (some ⟨b1, 0, none⟩) N c1, .slice (some ⟨b2, 0, none⟩) N c2, .func (.func 108) #[] #[]] w fun e w' => (∃ z, CmpZ N A B z ∧ e = .returned (.int .i64 z)) ∧ Below w.heap.size w w' := by
  have HA := Lib.hid hA; clear hA
  have HB2 := Lib.hid hB2; clear hB2
  have F1 := Lib.hid f1; clear f1
  have F2 := Lib.hid f2; clear f2
  go_enter Try.func106, Try.ntmps106
  repeat ((fail_if_success (with_reducible (show wpList _ _ _ _ _ _))); go_step)
  (refine wpList_step (fun K hK => ?_); go_simp; (try go_bits); refine hK _ _ ?_; clear hK K)
  refine wpList_nil ?_
  have HB := Lib.hid (Below.refl w.heap.size w)
  repeat ((fail_if_success (with_reducible (show wpList _ _ _ _ _ _))); go_step)
  iterate 3 (refine wpList_step (fun K hK => ?_); go_simp; (try go_bits); refine hK _ _ ?_; clear hK K)
  refine wpList_nil ?_
  repeat ((fail_if_success (with_reducible (show wpList _ _ _ _ _ _))); go_step)
  go_loopw [13] (fun i wr => ∃ k : Nat, k ≤ N ∧ i = .int .i64 (k : Int) ∧ RowKit.Hid (∀ j, j < k → A j = B j) ∧ Figs wr b1 N A ∧ Figs wr b2 N B ∧ Below w.heap.size w wr) (fun i _ => (N - (intOf i).toNat))
  case atStart => exact ⟨0, Nat.zero_le _, rfl, Lib.hid (fun j hj => by omega), F1.out, F2.out, HB.out⟩
  case round =>
    clear HB F1 F2
    obtain ⟨k, hk, rfl, Heq, f1, f2, hB⟩ := hrel
    have F1 := Lib.hid f1; clear f1
    have F2 := Lib.hid f2; clear f2
    have HB := Lib.hid hB; clear hB
    rcases Nat.lt_or_ge k N with hlt | hge
    · have kq : (k : Int) < (N : Int) := by omega
      have hc1 := F1.out.2 k hlt
      have hc2 := F2.out.2 k hlt
      have a1 := (HA.out k).1
      have a2 := (HA.out k).2
      have a3 := (HB2.out k).1
      have a4 := (HB2.out k).2
      obtain ⟨x, hx⟩ : ∃ x, x = A k := ⟨_, rfl⟩
      obtain ⟨y, hy⟩ : ∃ y, y = B k := ⟨_, rfl⟩
      rw [← hx] at hc1 a1 a2
      rw [← hy] at hc2 a3 a4
      have Hx := Lib.hid hx; clear hx
      have Hy := Lib.hid hy; clear hy
      have hcmp := fun w => cmp_any x y a1 a2 a3 a4 w
      have Hcmp := Lib.hid hcmp; clear hcmp
      repeat ((fail_if_success (with_reducible (show wpList _ _ _ _ _ _))); go_step)
      (refine wpList_step (fun K hK => ?_); go_simp; (try go_bits); refine hK _ _ ?_; clear hK K)
      refine wpList_nil ?_
      repeat ((fail_if_success (with_reducible (show wpList _ _ _ _ _ _))); go_step)
      iterate 5 (refine wpList_step (fun K hK => ?_); go_simp; (try go_bits); refine hK _ _ ?_; clear hK K)
      refine wpList_nil ?_
      repeat ((fail_if_success (with_reducible (show wpList _ _ _ _ _ _))); go_step)
      iterate 4 (refine wpList_step (fun K hK => ?_); go_simp; (try go_bits); refine hK _ _ ?_; clear hK K)
      refine wpList_nil ?_
      repeat ((fail_if_success (with_reducible (show wpList _ _ _ _ _ _))); go_step)
      iterate 5 (refine wpList_step (fun K hK => ?_); go_simp; (try go_bits); refine hK _ _ ?_; clear hK K)
      refine wpList_nil ?_
      repeat ((fail_if_success (with_reducible (show wpList _ _ _ _ _ _))); go_step)
      clear hc1 hc2
      iterate 3 (refine wpList_step (fun K hK => ?_); go_simp; (try go_bits); refine hK _ _ ?_; clear hK K)
      refine wpList_call (by rfl) rfl rfl (by rfl) ent108 (by rfl) (Hcmp.out _) 29 rfl ?_
      rintro e uw101 ⟨rfl, hb⟩
      replace F1 := Lib.hid (F1.out.call hb)
      replace F2 := Lib.hid (F2.out.call hb)
      replace HB := Lib.hid (held_next HB.out hb)
      refine ⟨_, rfl, ?_⟩
      clear hb
      (try simp only [Act.put, sI, sS, sZ])
      (refine wpList_step (fun K hK => ?_); go_simp; (try go_bits); refine hK _ _ ?_; clear hK K)
      refine wpList_nil ?_
      repeat ((fail_if_success (with_reducible (show wpList _ _ _ _ _ _))); go_step)
      by_cases hxy : x = y
      · subst hxy
        have Hnext : RowKit.Hid (∀ j, j < k + 1 → A j = B j) := by
          refine Lib.hid (fun j hj => ?_)
          by_cases e : j = k
          · rw [e, ← Hx.out, ← Hy.out]
          · exact Heq.out j (by omega)
        have hne : (x - x != 0) = false := by simp
        iterate 2 (refine wpList_step (fun K hK => ?_); go_simp; (try go_bits); refine hK _ _ ?_; clear hK K)
        refine wpList_nil ?_
        repeat ((fail_if_success (with_reducible (show wpList _ _ _ _ _ _))); go_step)
        iterate 2 (refine wpList_step (fun K hK => ?_); go_simp; (try go_bits); refine hK _ _ ?_; clear hK K)
        refine wpList_nil ?_
        go_roundw
        case measure => simp [intOf]; omega
        case rel => (repeat apply Exists.intro); exact ⟨⟨k + 1, by omega, by go_num, Hnext, F1.out, F2.out, HB.out⟩, rfl⟩
      · have hne : (x - y != 0) = true := by simp; omega
        iterate 2 (refine wpList_step (fun K hK => ?_); go_simp; (try go_bits); refine hK _ _ ?_; clear hK K)
        refine wpList_nil ?_
        repeat ((fail_if_success (with_reducible (show wpList _ _ _ _ _ _))); go_step)
        iterate 2 (refine wpList_step (fun K hK => ?_); go_simp; (try go_bits); refine hK _ _ ?_; clear hK K)
        refine wpList_nil ?_
        go_wp2_with fail
        go_ret
        exact ⟨⟨x - y, .inl ⟨k, hlt, Heq.out, by rw [← Hx.out, ← Hy.out]; exact hxy, by rw [← Hx.out, ← Hy.out]⟩, rfl⟩, HB.out⟩
    · have hkN : k = N := by omega
      subst hkN
      clear hk hge
      repeat ((fail_if_success (with_reducible (show wpList _ _ _ _ _ _))); go_step)
      (refine wpList_step (fun K hK => ?_); go_simp; (try go_bits); refine hK _ _ ?_; clear hK K)
      refine wpList_nil ?_
      repeat ((fail_if_success (with_reducible (show wpList _ _ _ _ _ _))); go_step)
      iterate 5 (refine wpList_step (fun K hK => ?_); go_simp; (try go_bits); refine hK _ _ ?_; clear hK K)
      refine wpList_nil ?_
      repeat ((fail_if_success (with_reducible (show wpList _ _ _ _ _ _))); go_step)
      (refine wpList_step (fun K hK => ?_); go_simp; (try go_bits); refine hK _ _ ?_; clear hK K)
      refine wpList_nil ?_
      go_wp2_with fail
      go_ret
      exact ⟨⟨0, .inr ⟨Heq.out, rfl⟩, rfl⟩, HB.out⟩
end Go.Proofs.Ytjiagjonlcadiaa
end
section
namespace Go.Proofs.Ytjiagjonlcadiaa
open Go.RowKit Go.Lib

theorem dg_nat (B n i : Nat) : dg B n i = ((n / B ^ i % B : Nat) : Int) := rfl
/-- a row that is turned from the figures of n into those of m, so far k of them -/
def mixd (m n k : Nat) : Nat → Int := fun j => if j < k then dg 65536 m j else dg 65536 n j
theorem mixd_at (m n k : Nat) : mixd m n k k = dg 65536 n k := by unfold mixd; rw [if_neg (by omega)]
theorem mixd_upd (m n k : Nat) (x : Int) (h : x = dg 65536 m k) : upd (mixd m n k) k x = mixd m n (k + 1) := by
  funext j
  unfold upd mixd
  by_cases e : j = k
  · rw [if_pos e, if_pos (by omega), h, e]
  · rw [if_neg e]
    by_cases e2 : j < k
    · rw [if_pos e2, if_pos (by omega)]
    · rw [if_neg e2, if_neg (by omega)]
theorem mixd_0 (m n : Nat) : row .u32 17 (mixd m n 0) = r17 n := row_ext _ _ _ _ (fun j hj => by unfold mixd; rw [if_neg (by omega)])
theorem mixd_17 (m n : Nat) : row .u32 17 (mixd m n 17) = r17 m := row_ext _ _ _ _ (fun j hj => by unfold mixd; rw [if_pos hj])
theorem dbl_step (m n k c v x : Nat) (h : m / 65536 ^ k = 2 * (n / 65536 ^ k) + c) (hc : c < 2) (hx : n / 65536 ^ k % 65536 = x) (hv : v = 2 * x + c) :
    m / 65536 ^ k % 65536 = v % 65536 ∧ m / 65536 ^ (k + 1) = 2 * (n / 65536 ^ (k + 1)) + v / 65536 ∧ v / 65536 < 2 := by
  rw [Nat.pow_succ, ← Nat.div_div_eq_div_mul, ← Nat.div_div_eq_div_mul]
  omega
theorem sub_rest (d n l k c x y : Nat) (h : n / 65536 ^ k = d / 65536 ^ k + l / 65536 ^ k + c) (hc : c < 2) (hx : n / 65536 ^ k % 65536 = x) (hy : l / 65536 ^ k % 65536 = y) :
    (d / 65536 ^ k % 65536 = (x + 4294967296 - y - c) % 4294967296 % 65536) ∧ n / 65536 ^ (k + 1) = d / 65536 ^ (k + 1) + l / 65536 ^ (k + 1) + (x + 4294967296 - y - c) % 4294967296 / 2147483648 ∧ (x + 4294967296 - y - c) % 4294967296 / 2147483648 < 2 := by
  rw [Nat.pow_succ, ← Nat.div_div_eq_div_mul, ← Nat.div_div_eq_div_mul, ← Nat.div_div_eq_div_mul]
  generalize n / 65536 ^ k = N at *
  generalize d / 65536 ^ k = D at *
  generalize l / 65536 ^ k = L at *
  omega
/-- where the first difference from the top on is not below, the number is not either -/
theorem cmpz_le (n l N : Nat) (hn : n < 65536 ^ N) (hl : l < 65536 ^ N) (z : Int) (h : CmpZ N (fun k => dg 65536 n (N - 1 - k)) (fun k => dg 65536 l (N - 1 - k)) z) : decide (0 ≤ z) = decide (l ≤ n) := by
  have key : ∀ i, i ≤ N → (∀ j, j < i → n / 65536 ^ (N - 1 - j) % 65536 = l / 65536 ^ (N - 1 - j) % 65536) → n / 65536 ^ (N - i) = l / 65536 ^ (N - i) := by
    intro i
    induction i with
    | zero => intro _ _; rw [Nat.sub_zero, Nat.div_eq_of_lt hn, Nat.div_eq_of_lt hl]
    | succ i ih =>
      intro hi hj
      have h1 := ih (by omega) (fun j hj' => hj j (by omega))
      have h2 := hj i (by omega)
      rw [show N - 1 - i = N - (i + 1) by omega] at h2
      rw [show N - i = N - (i + 1) + 1 by omega, Nat.pow_succ, ← Nat.div_div_eq_div_mul, ← Nat.div_div_eq_div_mul] at h1
      omega
  have inj : ∀ k, dg 65536 n k = dg 65536 l k → n / 65536 ^ k % 65536 = l / 65536 ^ k % 65536 := fun k h => by unfold dg at h; omega
  rcases h with ⟨i, hi, he, hne, hz⟩ | ⟨he, hz⟩
  · have hk := key i (by omega) (fun j hj => inj _ (he j hj))
    have hne2 : n / 65536 ^ (N - 1 - i) % 65536 ≠ l / 65536 ^ (N - 1 - i) % 65536 := fun e => hne (by show dg _ _ _ = dg _ _ _; unfold dg; rw [e])
    have hz2 : z = ((n / 65536 ^ (N - 1 - i) % 65536 : Nat) : Int) - ((l / 65536 ^ (N - 1 - i) % 65536 : Nat) : Int) := hz
    rw [show N - i = N - 1 - i + 1 by omega, Nat.pow_succ, ← Nat.div_div_eq_div_mul, ← Nat.div_div_eq_div_mul] at hk
    generalize hp : 65536 ^ (N - 1 - i) = p at *
    have hp0 : 0 < p := by rw [← hp]; exact Nat.pow_pos (by decide)
    by_cases h0 : l ≤ n
    · have h3 : l / p ≤ n / p := Nat.div_le_div_right h0
      rw [decide_eq_true h0, decide_eq_true (by omega)]
    · have h3 : n / p ≤ l / p := Nat.div_le_div_right (by omega)
      rw [decide_eq_false h0, decide_eq_false (by omega)]
  · have hk := key N (Nat.le_refl _) (fun j hj => inj _ (he j hj))
    rw [Nat.sub_self, Nat.pow_zero, Nat.div_one, Nat.div_one] at hk
    rw [hz, hk, decide_eq_true (Nat.le_refl _)]; rfl
theorem dg65 (n j : Nat) : 0 ≤ dg 65536 n j ∧ dg 65536 n j < 65536 := by unfold dg; omega
theorem But.set {B : Nat} {A W : World} (h : But B A W) (a : Addr) (v : Value) (ha : a.block = B) : But B A (W.setCell a v) := by
  have h2 := (Below.refl 0 W).setCell (p := a) (Nat.zero_le _) v
  exact ⟨h2.os.trans h.os, h2.tape.trans h.tape, h2.output.trans h.output, Nat.le_trans h.size h2.size, fun k hk hn => (heap_setCell_other W a k v (by omega)).trans (h.block k hk hn)⟩
theorem Figs.but {A W : World} {B b len : Nat} {g : Nat → Int} (h : Figs A b len g) (hb : But B A W) (hn : b ≠ B) : Figs W b len g := h.same (hb.block b h.lt hn) hb.size
theorem L0_17 : L0 < 65536 ^ 17 := by decide +kernel

set_option maxRecDepth 100000 in
set_option linter.unusedSimpArgs false in
set_option maxHeartbeats 4000000 in
theorem atLeast_any (R n : Nat) (hn : n < 65536 ^ 17) (w : World) (hR : Has w R (r17 n) 93) :
    Calls Try.prog 72 #[.pointer (some ⟨R, 0, none⟩)] w fun e w' => e = .returned (.bool (decide (L0 ≤ n))) ∧ Below w.heap.size w w' := by
  have hfr := Has.figs hR
  have MR := Lib.hid hR
  have HF := Lib.hid hfr
  have Hn := Lib.hid hn
  clear hR hfr hn
  go_enter Try.func72, Try.ntmps72
  repeat ((fail_if_success (with_reducible (show wpList _ _ _ _ _ _))); go_step)
  (refine wpList_step (fun K hK => ?_); go_simp; (try go_bits); refine hK _ _ ?_; clear hK K)
  refine wpList_nil ?_
  have HB := Lib.hid (Below.refl w.heap.size w)
  repeat ((fail_if_success (with_reducible (show wpList _ _ _ _ _ _))); go_step)
  refine wpList_call (by rfl) rfl rfl (by rfl) ent105 (by rfl) (order_any _) 4 rfl ?_
  rintro e uw1 ⟨rfl, hb⟩
  replace HF := Lib.hid (HF.out.call hb)
  replace HB := Lib.hid (held_next HB.out hb)
  refine ⟨_, rfl, ?_⟩
  clear hb
  (try simp only [Act.put, sI, sS, sZ])
  refine wpList_alloc (by rfl) 92 rfl _ al92 3 rfl ?_
  intro yw1 hw2
  have hlt2 := HF.out.lt
  have hsz := HB.out.size
  replace HF := Lib.hid (HF.out.alloc (.cells z92 92))
  have M3 := Lib.hid (HasN.new uw1 z92 92 17 (by kernel_rfl))
  replace HB := Lib.hid (HB.out.alloc hsz (.cells z92 92))
  rw [← hw2] at HF M3 HB; clear hw2
  (try simp only [Act.put, sI, sS, sZ])
  first | (obtain ⟨Zq, hZ, mZ⟩ := M3.out) | (obtain ⟨Zq, hZ, mZ⟩ := M3.out.toN (r17_size ..))
  refine wpList_store2 (by rfl) 92 _ _ rfl rfl (uw1.heap.size) (r17 L0) rfl rfl 92 Zq mZ (by rw [r17_size]; kernel_rfl) (hZ.trans (r17_size ..).symm) (row_one _ _ _) ?_
  intro yw3 hw2
  replace HF := Lib.hid (HF.out.setRow_other (uw1.heap.size) (r17 L0) (by omega))
  replace M3 := Lib.hid (mZ.setRow (r17 L0))
  replace HB := Lib.hid (below_setRow HB.out (uw1.heap.size) (r17 L0) (by omega))
  rw [← hw2] at HF M3 HB; clear mZ hZ hw2
  refine wpList_nil ?_
  repeat ((fail_if_success (with_reducible (show wpList _ _ _ _ _ _))); go_step)
  have HL := Lib.hid (Has.figs M3.out)
  refine wp_region_noPanic ?_
  refine wp_region_goS (fun _ => True) 99 11 #[ff,ff,ff,ff,ff,ff,ff,ff,ff,ff,ff] (by kernel_rfl) rfl rfl ?_
  replace HF := Lib.hid (HF.out.drew)
  replace M3 := Lib.hid (M3.out.drew)
  replace HL := Lib.hid (HL.out.drew)
  replace HB := Lib.hid (below_drewN HB.out 1)
  obtain ⟨yw4, hwyw4⟩ : ∃ ww, ww = yw3.drew := ⟨_, rfl⟩
  rw [← hwyw4] at HF M3 HL ⊢
  have kq : Below w.heap.size w yw4 := by rw [hwyw4]; exact HB.out
  clear HB; have HB := Lib.hid kq; clear kq hwyw4
  refine go_take2 0 5 #[tt,ff,ff,ff,ff,ff,ff,ff,ff,ff,ff] (v := ?uv1) rfl rfl rfl (by kernel_rfl) (Or.inl ⟨by rfl, ?uy1⟩) (trivial) ?urest1
  case uy1 => (intro _ _; go_simp; try with_reducible rfl)
  (try simp only [sI, sS, sZ])
  refine go_take2 1 6 #[tt,tt,ff,ff,ff,ff,ff,ff,ff,ff,ff] (v := ?uv2) rfl rfl rfl (by kernel_rfl) (Or.inl ⟨by rfl, ?uy2⟩) (trivial) ?urest2
  case uy2 => (intro _ _; go_simp; try with_reducible rfl)
  (try simp only [sI, sS, sZ])
  refine go_take2 2 7 #[tt,tt,tt,ff,ff,ff,ff,ff,ff,ff,ff] (v := ?uv3) rfl rfl rfl (by kernel_rfl) (Or.inl ⟨by rfl, ?uy3⟩) (trivial) ?urest3
  case uy3 => (intro _ _; go_simp; try with_reducible rfl)
  (try simp only [sI, sS, sZ])
  refine go_take2 5 10 #[tt,tt,tt,ff,ff,tt,ff,ff,ff,ff,ff] (v := ?uv4) rfl rfl rfl (by kernel_rfl) (Or.inl ⟨by rfl, ?uy4⟩) (trivial) ?urest4
  case uy4 => (intro _ _; go_simp; try with_reducible rfl)
  (try simp only [sI, sS, sZ])
  refine wpBut_r1 (i := 3) (by kernel_rfl) ?_
  refine go_call 3 8 #[tt,tt,tt,tt,ff,tt,ff,ff,ff,ff,ff] rfl rfl rfl (by rfl) rfl rfl (by rfl) ent103 (by rfl) (bkf_call _ _ _ _) ?_
  rintro e uw2 ⟨⟨rfl, hbs⟩, hb⟩
  replace HF := Lib.hid (HF.out.call hb)
  replace M3 := Lib.hid (M3.out.call hb)
  replace HL := Lib.hid (HL.out.call hb)
  replace HB := Lib.hid (held_next HB.out hb)
  have MS1 := Lib.hid hbs; clear hbs
  refine ⟨_, rfl, fun _ => trivial, ?_⟩
  clear hb
  (try simp only [sI, sS, sZ])
  refine wpBut_r1 (i := 4) (by kernel_rfl) ?_
  refine go_call 4 9 #[tt,tt,tt,tt,tt,tt,ff,ff,ff,ff,ff] rfl rfl rfl (by rfl) rfl rfl (by rfl) ent107 (by rfl) (collect_any 115 #[.pointer (some ⟨yw4.heap.size, 0, none⟩)] 17 (by decide) (by decide) _ _ ent115 _ (bkf_seq (yw4.heap.size) (R) 17 17 (dg 65536 n) (by decide) _ MS1.out HF.out) (fun j hj => by rcases hj with rfl | rfl; exact MS1.out.lt; exact HF.out.lt)) ?_
  rintro e uw3 ⟨⟨C1, cap1, rfl, hfg⟩, hb⟩
  replace HF := Lib.hid (HF.out.call hb)
  replace M3 := Lib.hid (M3.out.call hb)
  replace HL := Lib.hid (HL.out.call hb)
  replace MS1 := Lib.hid (MS1.out.call hb)
  replace HB := Lib.hid (held_next HB.out hb)
  have F1 := Lib.hid hfg; clear hfg
  refine ⟨_, rfl, fun _ => trivial, ?_⟩
  clear hb
  (try simp only [sI, sS, sZ])
  refine wpBut_r1 (i := 6) (by kernel_rfl) ?_
  refine go_call 6 11 #[tt,tt,tt,tt,tt,tt,tt,ff,ff,ff,ff] rfl rfl rfl (by rfl) rfl rfl (by rfl) ent103 (by rfl) (bkf_call _ _ _ _) ?_
  rintro e uw4 ⟨⟨rfl, hbs⟩, hb⟩
  replace HF := Lib.hid (HF.out.call hb)
  replace M3 := Lib.hid (M3.out.call hb)
  replace HL := Lib.hid (HL.out.call hb)
  replace MS1 := Lib.hid (MS1.out.call hb)
  replace F1 := Lib.hid (F1.out.call hb)
  replace HB := Lib.hid (held_next HB.out hb)
  have MS2 := Lib.hid hbs; clear hbs
  refine ⟨_, rfl, fun _ => trivial, ?_⟩
  clear hb
  (try simp only [sI, sS, sZ])
  refine wpBut_r1 (i := 7) (by kernel_rfl) ?_
  refine go_call 7 12 #[tt,tt,tt,tt,tt,tt,tt,tt,ff,ff,ff] rfl rfl rfl (by rfl) rfl rfl (by rfl) ent107 (by rfl) (collect_any 115 #[.pointer (some ⟨uw3.heap.size, 0, none⟩)] 17 (by decide) (by decide) _ _ ent115 _ (bkf_seq (uw3.heap.size) (uw1.heap.size) 17 17 (dg 65536 L0) (by decide) _ MS2.out HL.out) (fun j hj => by rcases hj with rfl | rfl; exact MS2.out.lt; exact HL.out.lt)) ?_
  rintro e uw5 ⟨⟨C2, cap2, rfl, hfg⟩, hb⟩
  replace HF := Lib.hid (HF.out.call hb)
  replace M3 := Lib.hid (M3.out.call hb)
  replace HL := Lib.hid (HL.out.call hb)
  replace MS1 := Lib.hid (MS1.out.call hb)
  replace F1 := Lib.hid (F1.out.call hb)
  replace MS2 := Lib.hid (MS2.out.call hb)
  replace HB := Lib.hid (held_next HB.out hb)
  have F2 := Lib.hid hfg; clear hfg
  refine ⟨_, rfl, fun _ => trivial, ?_⟩
  clear hb
  (try simp only [sI, sS, sZ])
  refine wpBut_r1 (i := 8) (by kernel_rfl) ?_
  refine go_call 8 13 #[tt,tt,tt,tt,tt,tt,tt,tt,tt,ff,ff] rfl rfl rfl (by rfl) rfl rfl (by rfl) ent106 (by rfl) (cmpf_any C1 C2 17 cap1 cap2 _ _ (by decide) (fun j => dg65 _ _) (fun j => dg65 _ _) _ F1.out F2.out) ?_
  rintro e uw6 ⟨⟨z, hz, rfl⟩, hb⟩
  replace HF := Lib.hid (HF.out.call hb)
  replace M3 := Lib.hid (M3.out.call hb)
  replace HL := Lib.hid (HL.out.call hb)
  replace MS1 := Lib.hid (MS1.out.call hb)
  replace F1 := Lib.hid (F1.out.call hb)
  replace MS2 := Lib.hid (MS2.out.call hb)
  replace F2 := Lib.hid (F2.out.call hb)
  replace HB := Lib.hid (held_next HB.out hb)
  have Hz := Lib.hid hz; clear hz
  refine ⟨_, rfl, fun _ => trivial, ?_⟩
  clear hb
  (try simp only [sI, sS, sZ])
  refine go_take2 9 14 #[tt,tt,tt,tt,tt,tt,tt,tt,tt,tt,ff] (v := ?uv5) rfl rfl rfl (by kernel_rfl) (Or.inl ⟨by rfl, ?uy5⟩) (trivial) ?urest5
  case uy5 => (intro _ _; go_simp; try with_reducible rfl)
  (try simp only [sI, sS, sZ])
  refine go_take2 10 2 #[tt,tt,tt,tt,tt,tt,tt,tt,tt,tt,tt] (v := ?uv6) rfl rfl rfl (by kernel_rfl) (Or.inl ⟨by rfl, ?uy6⟩) (trivial) ?urest6
  case uy6 => (intro _ _; go_simp; try with_reducible rfl)
  (try simp only [sI, sS, sZ])
  refine wpBut_done (by kernel_rfl) (NoPanic.normal ?_)
  go_wp2_with fail
  go_ret
  have hfin := cmpz_le n L0 17 Hn.out L0_17 z Hz.out
  exact ⟨by rw [← hfin]; rfl, HB.out⟩
end Go.Proofs.Ytjiagjonlcadiaa
end
