/- The program's points: Plus, Minus, Is. -/
import Derived.Test.YtjiagjonlcadiaaCrvI
namespace Go.Proofs.Ytjiagjonlcadiaa
open Go.RowKit Go.Lib

set_option maxRecDepth 100000 in
set_option linter.unusedSimpArgs false in
set_option maxHeartbeats 8000000 in
theorem pplus_any (x1 y1 c1 : Nat) (b1 : Bool) (X1 Y1 Z1 : Nat) (p1 : IsPt x1 y1 c1 b1 X1 Y1 Z1) (x2 y2 c2 : Nat) (b2 : Bool) (X2 Y2 Z2 : Nat) (p2 : IsPt x2 y2 c2 b2 X2 Y2 Z2) (w : World) :
    Calls Try.prog 51 #[.agg (pt x1 y1 c1 b1), .agg (pt x2 y2 c2 b2)] w (PtP (padd SL X1 Y1 Z1 X2 Y2 Z2).1 (padd SL X1 Y1 Z1 X2 Y2 Z2).2.1 (padd SL X1 Y1 Z1 X2 Y2 Z2).2.2 w) := by
  have hadd := fun d hd hr w => add_of d SL hd hr x1 y1 c1 b1 X1 Y1 Z1 p1 x2 y2 c2 b2 X2 Y2 Z2 p2 w
  obtain ⟨R, hR⟩ : ∃ R, R = padd SL X1 Y1 Z1 X2 Y2 Z2 := ⟨_, rfl⟩
  rw [← hR] at hadd ⊢
  clear hR p1 p2
  have Hadd := Lib.hid hadd; clear hadd
  go_enter Try.func51, Try.ntmps51
  repeat ((fail_if_success (with_reducible (show wpList _ _ _ _ _ _))); go_step)
  refine wpList_step (fun K hK => ?_)
  go_simp
  (try go_bits)
  refine hK _ _ ?_
  clear hK K
  refine wpList_step (fun K hK => ?_)
  go_simp
  (try go_bits)
  refine hK _ _ ?_
  clear hK K
  refine wpList_step (fun K hK => ?_)
  go_simp
  (try go_bits)
  refine hK _ _ ?_
  clear hK K
  refine wpList_nil ?_
  have M2 := Lib.hid (((Has.new w  (pt x1 y1 c1 b1) 53).alloc (.cells (pt x2 y2 c2 b2) 53)).alloc (.cells (#[.int .u64 0, .int .u64 0, .int .u64 0, .int .u64 0, .int .u64 0, .int .u64 0, .int .u64 0, .int .u64 0, .int .u64 0, .int .u64 0, .int .u64 0, .int .u64 0, .bool false] : Array Value) 53))
  have M3 := Lib.hid ((Has.new1 w (.cells (pt x1 y1 c1 b1) 53) (pt x2 y2 c2 b2) 53).alloc (.cells (#[.int .u64 0, .int .u64 0, .int .u64 0, .int .u64 0, .int .u64 0, .int .u64 0, .int .u64 0, .int .u64 0, .int .u64 0, .int .u64 0, .int .u64 0, .int .u64 0, .bool false] : Array Value) 53))
  have M4 := Lib.hid (HasN.new2 w (.cells (pt x1 y1 c1 b1) 53) (.cells (pt x2 y2 c2 b2) 53) (#[.int .u64 0, .int .u64 0, .int .u64 0, .int .u64 0, .int .u64 0, .int .u64 0, .int .u64 0, .int .u64 0, .int .u64 0, .int .u64 0, .int .u64 0, .int .u64 0, .bool false] : Array Value) 53 13 (by kernel_rfl))
  have HB := Lib.hid (below_3 w (.cells (pt x1 y1 c1 b1) 53) (.cells (pt x2 y2 c2 b2) 53) (.cells (#[.int .u64 0, .int .u64 0, .int .u64 0, .int .u64 0, .int .u64 0, .int .u64 0, .int .u64 0, .int .u64 0, .int .u64 0, .int .u64 0, .int .u64 0, .int .u64 0, .bool false] : Array Value) 53))
  obtain ⟨yw1, hwyw1⟩ : ∃ ww, ww = (((w.alloc (.cells (pt x1 y1 c1 b1) 53)).alloc (.cells (pt x2 y2 c2 b2) 53)).alloc (.cells (#[.int .u64 0, .int .u64 0, .int .u64 0, .int .u64 0, .int .u64 0, .int .u64 0, .int .u64 0, .int .u64 0, .int .u64 0, .int .u64 0, .int .u64 0, .int .u64 0, .bool false] : Array Value) 53)) := ⟨_, rfl⟩
  rw [← hwyw1] at M2 M3 M4 HB ⊢
  clear hwyw1
  repeat ((fail_if_success (with_reducible (show wpList _ _ _ _ _ _))); go_step)
  refine wp_region_noPanic ?_
  refine wp_region_go 4 5 #[false, false, false, false, false] (by kernel_rfl) rfl rfl ?_
  intro W2 hW2
  have kq := M2.out; rw [← hW2] at kq; clear M2; have M2 := Lib.hid kq; clear kq
  have kq := M3.out; rw [← hW2] at kq; clear M3; have M3 := Lib.hid kq; clear kq
  have kq := M4.out; rw [← hW2] at kq; clear M4; have M4 := Lib.hid kq; clear kq
  have kq := HB.out; rw [← hW2] at kq; clear HB; have HB := Lib.hid kq; clear kq
  clear hW2
  have M4N := Lib.hid (by first | exact M4.out | exact M4.out.toN (by first | exact e4_size _ | exact r22_size _ | exact k32_size _ | exact pt_size .. | exact rp_size ..) : HasN W2 (w.heap.size + 1 + 1) _ _)
  refine go_take2 1 6 #[false, true, false, false, false] rfl rfl rfl (by kernel_rfl) (yieldsIf_load_row (by rfl) 53 _ rfl (w.heap.size) rfl 53 (pt x1 y1 c1 b1) (fun _ h => M2.out.below h M2.out.lt) Try.underlying53 rfl (by rw [pt_size]; kernel_rfl)) ((below_dr W2)) ?_
  (try simp only [sI, sS, sZ])
  refine go_take2 2 7 #[false, true, true, false, false] rfl rfl rfl (by kernel_rfl) (yieldsIf_load_row (by rfl) 53 _ rfl (w.heap.size + 1) rfl 53 (pt x2 y2 c2 b2) (fun _ h => M3.out.below h M3.out.lt) Try.underlying53 rfl (by rw [pt_size]; kernel_rfl)) ((below_dr W2)) ?_
  (try simp only [sI, sS, sZ])
  refine wpBut_r1 (i := 0) (by kernel_rfl) ?_
  refine go_call 0 5 #[true, true, true, false, false] rfl rfl rfl (by rfl) rfl rfl (by rfl) ent91 (by rfl) (slope_any _) ?_
  rintro e wW21 ⟨d, hd, hdr, rfl, hb⟩
  have hkW21 := held_next (below_dr W2) hb
  refine ⟨_, rfl, fun _ => hkW21, ?_⟩
  clear hb
  (try simp only [sI, sS, sZ])
  refine wpBut_r1 (i := 3) (by kernel_rfl) ?_
  refine go_call 3 8 #[true, true, true, true, false] rfl rfl rfl (by rfl) rfl rfl (by rfl) ent92 (by rfl) (Hadd.out d hd hdr _) ?_
  rintro e wW22 ⟨px, py, pz, pb, hpt, rfl, hb⟩
  have hkW22 := held_next hkW21 hb
  refine ⟨_, rfl, fun _ => hkW22, ?_⟩
  clear hb
  (try simp only [sI, sS, sZ])
  refine wpBut_r1 (i := 4) (by kernel_rfl) ?_
  obtain ⟨Zq, hZ, mZ⟩ := M4N.out.below hkW22 M4N.out.lt
  have MZ := Lib.hid mZ; clear mZ
  have HZ := Lib.hid hZ; clear hZ
  refine go_store 4 #[true, true, true, true, true] rfl rfl rfl (by rfl) 53 _ _ rfl (w.heap.size + 1 + 1) _ rfl rfl 53 Zq MZ.out (by rw [pt_size]; kernel_rfl) (HZ.out.trans (pt_size ..).symm) (pt_one _ _ _ _) ⟨fun h => (h rfl).elim, ?_⟩
  (try simp only [sI, sS, sZ])
  refine wpBut_done (by kernel_rfl) (NoPanic.normal ?_)
  replace M2 := Lib.hid ((M2.out.call hkW22).setRow_other (w.heap.size + 1 + 1) (pt px py pz pb) (by omega))
  replace M3 := Lib.hid ((M3.out.call hkW22).setRow_other (w.heap.size + 1 + 1) (pt px py pz pb) (by omega))
  clear M4 M4N
  have M4 := Lib.hid (MZ.out.setRow (pt px py pz pb)); clear MZ HZ
  replace HB := Lib.hid (below_setRow (held_next HB.out hkW22) (w.heap.size + 1 + 1) (pt px py pz pb) (by omega))
  obtain ⟨yw3, hwyw3⟩ : ∃ ww, ww = wW22.setRow (w.heap.size + 1 + 1) (pt px py pz pb) := ⟨_, rfl⟩
  rw [← hwyw3] at M2 M3 M4 HB ⊢
  clear hwyw3
  go_wp2_with fail
  exact bodyPost_ret (v := .agg (pt px py pz pb)) (results_cell_row (t := 53) (by rfl) _ _ (w.heap.size + 1 + 1) _ _ _ rfl M4.out Try.underlying53 rfl (by rw [pt_size]; kernel_rfl)) rfl ⟨px, py, pz, pb, hpt, rfl, HB.out⟩

/-- the opposite of a residue -/
def negP (X : Nat) : Nat := (0 % PP + (PP - X)) % PP
set_option maxRecDepth 100000 in
set_option linter.unusedSimpArgs false in
set_option maxHeartbeats 8000000 in
theorem pminus_any (x1 y1 c1 : Nat) (b1 : Bool) (X1 Y1 Z1 : Nat) (p1 : IsPt x1 y1 c1 b1 X1 Y1 Z1) (x2 y2 c2 : Nat) (b2 : Bool) (X2 Y2 Z2 : Nat) (p2 : IsPt x2 y2 c2 b2 X2 Y2 Z2) (w : World) :
    Calls Try.prog 53 #[.agg (pt x1 y1 c1 b1), .agg (pt x2 y2 c2 b2)] w (PtP (padd SL X1 Y1 Z1 (negP X2) Y2 Z2).1 (padd SL X1 Y1 Z1 (negP X2) Y2 Z2).2.1 (padd SL X1 Y1 Z1 (negP X2) Y2 Z2).2.2 w) := by
  have hpl := fun w => plain_any x2 y2 c2 b2 X2 Y2 Z2 p2 w
  have hplus := fun x y z b h w => pplus_any x1 y1 c1 b1 X1 Y1 Z1 p1 x y z b (negP X2) Y2 Z2 h w
  have hmi := minus_any
  have hmd := made_any
  obtain ⟨NX, hNX⟩ : ∃ n, n = negP X2 := ⟨_, rfl⟩
  rw [← hNX] at hplus ⊢
  have hnx : ∀ m u, u % PP = X2 → m % PP = (0 % PP + (PP - u % PP)) % PP → m % PP = NX := by
    intro m u h1 h2; rw [hNX, h2, h1]; rfl
  obtain ⟨R, hR⟩ : ∃ R, R = padd SL X1 Y1 Z1 NX Y2 Z2 := ⟨_, rfl⟩
  rw [← hR] at hplus ⊢
  clear hR hNX p1 p2
  have Hpl := Lib.hid hpl; clear hpl
  have Hplus := Lib.hid hplus; clear hplus
  have Hmi := Lib.hid hmi; clear hmi
  have Hmd := Lib.hid hmd; clear hmd
  have Hnx := Lib.hid hnx; clear hnx
  go_enter Try.func53, Try.ntmps53
  repeat ((fail_if_success (with_reducible (show wpList _ _ _ _ _ _))); go_step)
  refine wpList_step (fun K hK => ?_)
  go_simp
  (try go_bits)
  refine hK _ _ ?_
  clear hK K
  refine wpList_step (fun K hK => ?_)
  go_simp
  (try go_bits)
  refine hK _ _ ?_
  clear hK K
  refine wpList_step (fun K hK => ?_)
  go_simp
  (try go_bits)
  refine hK _ _ ?_
  clear hK K
  refine wpList_nil ?_
  have M2 := Lib.hid (((Has.new w  (pt x1 y1 c1 b1) 53).alloc (.cells (pt x2 y2 c2 b2) 53)).alloc (.cells (#[.int .u64 0, .int .u64 0, .int .u64 0, .int .u64 0, .int .u64 0, .int .u64 0, .int .u64 0, .int .u64 0, .int .u64 0, .int .u64 0, .int .u64 0, .int .u64 0, .bool false] : Array Value) 53))
  have M3 := Lib.hid ((Has.new1 w (.cells (pt x1 y1 c1 b1) 53) (pt x2 y2 c2 b2) 53).alloc (.cells (#[.int .u64 0, .int .u64 0, .int .u64 0, .int .u64 0, .int .u64 0, .int .u64 0, .int .u64 0, .int .u64 0, .int .u64 0, .int .u64 0, .int .u64 0, .int .u64 0, .bool false] : Array Value) 53))
  have M4 := Lib.hid (HasN.new2 w (.cells (pt x1 y1 c1 b1) 53) (.cells (pt x2 y2 c2 b2) 53) (#[.int .u64 0, .int .u64 0, .int .u64 0, .int .u64 0, .int .u64 0, .int .u64 0, .int .u64 0, .int .u64 0, .int .u64 0, .int .u64 0, .int .u64 0, .int .u64 0, .bool false] : Array Value) 53 13 (by kernel_rfl))
  have HB := Lib.hid (below_3 w (.cells (pt x1 y1 c1 b1) 53) (.cells (pt x2 y2 c2 b2) 53) (.cells (#[.int .u64 0, .int .u64 0, .int .u64 0, .int .u64 0, .int .u64 0, .int .u64 0, .int .u64 0, .int .u64 0, .int .u64 0, .int .u64 0, .int .u64 0, .int .u64 0, .bool false] : Array Value) 53))
  obtain ⟨yw1, hwyw1⟩ : ∃ ww, ww = (((w.alloc (.cells (pt x1 y1 c1 b1) 53)).alloc (.cells (pt x2 y2 c2 b2) 53)).alloc (.cells (#[.int .u64 0, .int .u64 0, .int .u64 0, .int .u64 0, .int .u64 0, .int .u64 0, .int .u64 0, .int .u64 0, .int .u64 0, .int .u64 0, .int .u64 0, .int .u64 0, .bool false] : Array Value) 53)) := ⟨_, rfl⟩
  rw [← hwyw1] at M2 M3 M4 HB ⊢
  clear hwyw1
  repeat ((fail_if_success (with_reducible (show wpList _ _ _ _ _ _))); go_step)
  refine wpList_load (by rfl) 53 _ rfl (w.heap.size + 1) rfl 53 (pt x2 y2 c2 b2) M3.out Try.underlying53 rfl (by rw [pt_size]; kernel_rfl) 9 rfl ?_
  (try simp only [Act.put, sI, sS, sZ])
  refine wpList_call (by rfl) rfl rfl (by rfl) ent90 (by rfl) (Hpl.out _) 10 rfl ?_
  rintro e uw1 ⟨u, s, t, ⟨hu, hs, ht⟩, ⟨hur, hsr, htr⟩, rfl, hb⟩
  replace M2 := Lib.hid (M2.out.call hb)
  replace M3 := Lib.hid (M3.out.call hb)
  replace M4 := Lib.hid (M4.out.call hb)
  replace HB := Lib.hid (held_next HB.out hb)
  refine ⟨_, rfl, ?_⟩
  clear hb
  (try simp only [Act.put, sI, sS, sZ])
  refine wpList_step (fun K hK => ?_)
  go_simp
  (try go_bits)
  refine hK _ _ ?_
  clear hK K
  refine wpList_step (fun K hK => ?_)
  go_simp
  (try go_bits)
  refine hK _ _ ?_
  clear hK K
  refine wpList_step (fun K hK => ?_)
  go_simp
  (try go_bits)
  refine hK _ _ ?_
  clear hK K
  refine wpList_step (fun K hK => ?_)
  go_simp
  (try go_bits)
  refine hK _ _ ?_
  clear hK K
  refine wpList_alloc (by rfl) 36 rfl _ al36 5 rfl ?_
  intro yw2 hw2
  have hlt3 := M2.out.lt
  have hlt4 := M3.out.lt
  have hlt5 := M4.out.lt
  have hsz := HB.out.size
  have kq := M2.out.alloc (.cells z36 36); rw [← hw2] at kq; clear M2; have M2 := Lib.hid kq; clear kq
  have kq := M3.out.alloc (.cells z36 36); rw [← hw2] at kq; clear M3; have M3 := Lib.hid kq; clear kq
  have kq := M4.out.alloc (.cells z36 36); rw [← hw2] at kq; clear M4; have M4 := Lib.hid kq; clear kq
  have kq := HasN.new uw1 z36 36 4 (by kernel_rfl); rw [← hw2] at kq; have M5 := Lib.hid kq; clear kq
  have kq := HB.out.alloc hsz (.cells z36 36); rw [← hw2] at kq; clear HB; have HB := Lib.hid kq; clear kq hw2
  (try simp only [Act.put, sI, sS, sZ])
  refine wpList_alloc (by rfl) 36 rfl _ al36 6 rfl ?_
  intro yw6 hw2
  have hlt7 := M2.out.lt
  have hlt8 := M3.out.lt
  have hlt9 := M4.out.lt
  have hlt10 := M5.out.lt
  have hsz := HB.out.size
  have kq := M2.out.alloc (.cells z36 36); rw [← hw2] at kq; clear M2; have M2 := Lib.hid kq; clear kq
  have kq := M3.out.alloc (.cells z36 36); rw [← hw2] at kq; clear M3; have M3 := Lib.hid kq; clear kq
  have kq := M4.out.alloc (.cells z36 36); rw [← hw2] at kq; clear M4; have M4 := Lib.hid kq; clear kq
  have kq := M5.out.alloc (.cells z36 36); rw [← hw2] at kq; clear M5; have M5 := Lib.hid kq; clear kq
  have kq := HasN.new yw2 z36 36 4 (by kernel_rfl); rw [← hw2] at kq; have M6 := Lib.hid kq; clear kq
  have kq := HB.out.alloc hsz (.cells z36 36); rw [← hw2] at kq; clear HB; have HB := Lib.hid kq; clear kq hw2
  (try simp only [Act.put, sI, sS, sZ])
  refine wpList_alloc (by rfl) 36 rfl _ al36 7 rfl ?_
  intro yw11 hw2
  have hlt12 := M2.out.lt
  have hlt13 := M3.out.lt
  have hlt14 := M4.out.lt
  have hlt15 := M5.out.lt
  have hlt16 := M6.out.lt
  have hsz := HB.out.size
  have kq := M2.out.alloc (.cells z36 36); rw [← hw2] at kq; clear M2; have M2 := Lib.hid kq; clear kq
  have kq := M3.out.alloc (.cells z36 36); rw [← hw2] at kq; clear M3; have M3 := Lib.hid kq; clear kq
  have kq := M4.out.alloc (.cells z36 36); rw [← hw2] at kq; clear M4; have M4 := Lib.hid kq; clear kq
  have kq := M5.out.alloc (.cells z36 36); rw [← hw2] at kq; clear M5; have M5 := Lib.hid kq; clear kq
  have kq := M6.out.alloc (.cells z36 36); rw [← hw2] at kq; clear M6; have M6 := Lib.hid kq; clear kq
  have kq := HasN.new yw6 z36 36 4 (by kernel_rfl); rw [← hw2] at kq; have M7 := Lib.hid kq; clear kq
  have kq := HB.out.alloc hsz (.cells z36 36); rw [← hw2] at kq; clear HB; have HB := Lib.hid kq; clear kq hw2
  (try simp only [Act.put, sI, sS, sZ])
  first | (obtain ⟨Zq, hZ, mZ⟩ := M5.out) | (obtain ⟨Zq, hZ, mZ⟩ := M5.out.toN (e4_size ..))
  refine wpList_store2 (by rfl) 36 _ _ rfl rfl (uw1.heap.size) (e4 u) rfl rfl 36 Zq mZ (by rw [e4_size]; kernel_rfl) (hZ.trans (e4_size ..).symm) (row_one _ _ _) ?_
  intro yw17 hw2
  have kq := M2.out.setRow_other (uw1.heap.size) (e4 u) (by omega); rw [← hw2] at kq; clear M2; have M2 := Lib.hid kq; clear kq
  have kq := M3.out.setRow_other (uw1.heap.size) (e4 u) (by omega); rw [← hw2] at kq; clear M3; have M3 := Lib.hid kq; clear kq
  have kq := M4.out.setRow_other (uw1.heap.size) (e4 u) (by omega); rw [← hw2] at kq; clear M4; have M4 := Lib.hid kq; clear kq
  have kq := M6.out.setRow_other (uw1.heap.size) (e4 u) (by omega); rw [← hw2] at kq; clear M6; have M6 := Lib.hid kq; clear kq
  have kq := M7.out.setRow_other (uw1.heap.size) (e4 u) (by omega); rw [← hw2] at kq; clear M7; have M7 := Lib.hid kq; clear kq
  have kq := mZ.setRow (e4 u); rw [← hw2] at kq; clear M5; have M5 := Lib.hid kq; clear kq mZ hZ
  have kq := below_setRow HB.out (uw1.heap.size) (e4 u) (by omega); rw [← hw2] at kq; clear HB; have HB := Lib.hid kq; clear kq hw2
  first | (obtain ⟨Zq, hZ, mZ⟩ := M6.out) | (obtain ⟨Zq, hZ, mZ⟩ := M6.out.toN (e4_size ..))
  refine wpList_store2 (by rfl) 36 _ _ rfl rfl (yw2.heap.size) (e4 s) rfl rfl 36 Zq mZ (by rw [e4_size]; kernel_rfl) (hZ.trans (e4_size ..).symm) (row_one _ _ _) ?_
  intro yw18 hw2
  have kq := M2.out.setRow_other (yw2.heap.size) (e4 s) (by omega); rw [← hw2] at kq; clear M2; have M2 := Lib.hid kq; clear kq
  have kq := M3.out.setRow_other (yw2.heap.size) (e4 s) (by omega); rw [← hw2] at kq; clear M3; have M3 := Lib.hid kq; clear kq
  have kq := M4.out.setRow_other (yw2.heap.size) (e4 s) (by omega); rw [← hw2] at kq; clear M4; have M4 := Lib.hid kq; clear kq
  have kq := M5.out.setRow_other (yw2.heap.size) (e4 s) (by omega); rw [← hw2] at kq; clear M5; have M5 := Lib.hid kq; clear kq
  have kq := M7.out.setRow_other (yw2.heap.size) (e4 s) (by omega); rw [← hw2] at kq; clear M7; have M7 := Lib.hid kq; clear kq
  have kq := mZ.setRow (e4 s); rw [← hw2] at kq; clear M6; have M6 := Lib.hid kq; clear kq mZ hZ
  have kq := below_setRow HB.out (yw2.heap.size) (e4 s) (by omega); rw [← hw2] at kq; clear HB; have HB := Lib.hid kq; clear kq hw2
  first | (obtain ⟨Zq, hZ, mZ⟩ := M7.out) | (obtain ⟨Zq, hZ, mZ⟩ := M7.out.toN (e4_size ..))
  refine wpList_store2 (by rfl) 36 _ _ rfl rfl (yw6.heap.size) (e4 t) rfl rfl 36 Zq mZ (by rw [e4_size]; kernel_rfl) (hZ.trans (e4_size ..).symm) (row_one _ _ _) ?_
  intro yw19 hw2
  have kq := M2.out.setRow_other (yw6.heap.size) (e4 t) (by omega); rw [← hw2] at kq; clear M2; have M2 := Lib.hid kq; clear kq
  have kq := M3.out.setRow_other (yw6.heap.size) (e4 t) (by omega); rw [← hw2] at kq; clear M3; have M3 := Lib.hid kq; clear kq
  have kq := M4.out.setRow_other (yw6.heap.size) (e4 t) (by omega); rw [← hw2] at kq; clear M4; have M4 := Lib.hid kq; clear kq
  have kq := M5.out.setRow_other (yw6.heap.size) (e4 t) (by omega); rw [← hw2] at kq; clear M5; have M5 := Lib.hid kq; clear kq
  have kq := M6.out.setRow_other (yw6.heap.size) (e4 t) (by omega); rw [← hw2] at kq; clear M6; have M6 := Lib.hid kq; clear kq
  have kq := mZ.setRow (e4 t); rw [← hw2] at kq; clear M7; have M7 := Lib.hid kq; clear kq mZ hZ
  have kq := below_setRow HB.out (yw6.heap.size) (e4 t) (by omega); rw [← hw2] at kq; clear HB; have HB := Lib.hid kq; clear kq hw2
  refine wpList_nil ?_
  have Hur := Lib.hid hur; clear hur
  have Hsr := Lib.hid hsr; clear hsr
  have Htr := Lib.hid htr; clear htr
  repeat ((fail_if_success (with_reducible (show wpList _ _ _ _ _ _))); go_step)
  refine wp_region_noPanic ?_
  refine wp_region_go 8 9 #[false, false, false, false, false, false, false, false, false] (by kernel_rfl) rfl rfl ?_
  intro W20 hW20
  have kq := M2.out; rw [← hW20] at kq; clear M2; have M2 := Lib.hid kq; clear kq
  have kq := M3.out; rw [← hW20] at kq; clear M3; have M3 := Lib.hid kq; clear kq
  have kq := M4.out; rw [← hW20] at kq; clear M4; have M4 := Lib.hid kq; clear kq
  have kq := M5.out; rw [← hW20] at kq; clear M5; have M5 := Lib.hid kq; clear kq
  have kq := M6.out; rw [← hW20] at kq; clear M6; have M6 := Lib.hid kq; clear kq
  have kq := M7.out; rw [← hW20] at kq; clear M7; have M7 := Lib.hid kq; clear kq
  have kq := HB.out; rw [← hW20] at kq; clear HB; have HB := Lib.hid kq; clear kq
  clear hW20
  have M4N := Lib.hid (by first | exact M4.out | exact M4.out.toN (by first | exact e4_size _ | exact r22_size _ | exact k32_size _ | exact pt_size .. | exact rp_size ..) : HasN W20 (w.heap.size + 1 + 1) _ _)
  refine go_take2 0 14 #[true, false, false, false, false, false, false, false, false] rfl rfl rfl (by kernel_rfl) (yieldsIf_load_row (by rfl) 53 _ rfl (w.heap.size) rfl 53 (pt x1 y1 c1 b1) (fun _ h => M2.out.below h M2.out.lt) Try.underlying53 rfl (by rw [pt_size]; kernel_rfl)) ((below_dr W20)) ?_
  (try simp only [sI, sS, sZ])
  refine go_take2 1 15 #[true, true, false, false, false, false, false, false, false] rfl rfl rfl (by kernel_rfl) (yieldsIf_build (by rfl) 36 _ rfl _ (by rfl) (e4 0) (bd36z)) ((below_dr W20)) ?_
  (try simp only [sI, sS, sZ])
  refine go_take2 2 16 #[true, true, true, false, false, false, false, false, false] rfl rfl rfl (by kernel_rfl) (yieldsIf_load_row (by rfl) 36 _ rfl (uw1.heap.size) rfl 36 (e4 u) (fun _ h => M5.out.below h M5.out.lt) Try.underlying36 rfl (by rw [e4_size]; kernel_rfl)) ((below_dr W20)) ?_
  (try simp only [sI, sS, sZ])
  refine go_take2 4 18 #[true, true, true, false, true, false, false, false, false] rfl rfl rfl (by kernel_rfl) (yieldsIf_load_row (by rfl) 36 _ rfl (yw2.heap.size) rfl 36 (e4 s) (fun _ h => M6.out.below h M6.out.lt) Try.underlying36 rfl (by rw [e4_size]; kernel_rfl)) ((below_dr W20)) ?_
  (try simp only [sI, sS, sZ])
  refine go_take2 5 19 #[true, true, true, false, true, true, false, false, false] rfl rfl rfl (by kernel_rfl) (yieldsIf_load_row (by rfl) 36 _ rfl (yw6.heap.size) rfl 36 (e4 t) (fun _ h => M7.out.below h M7.out.lt) Try.underlying36 rfl (by rw [e4_size]; kernel_rfl)) ((below_dr W20)) ?_
  (try simp only [sI, sS, sZ])
  refine wpBut_r1 (i := 3) (by kernel_rfl) ?_
  refine go_call 3 17 #[true, true, true, true, true, true, false, false, false] rfl rfl rfl (by rfl) rfl rfl (by rfl) ent39 (by rfl) (Hmi.out 0 u (by decide) hu _) ?_
  rintro e wW201 ⟨m, hm, hmr, rfl, hb⟩
  have hkW201 := held_next (below_dr W20) hb
  refine ⟨_, rfl, fun _ => hkW201, ?_⟩
  clear hb
  (try simp only [sI, sS, sZ])
  refine wpBut_r1 (i := 6) (by kernel_rfl) ?_
  refine go_call 6 20 #[true, true, true, true, true, true, true, false, false] rfl rfl rfl (by rfl) rfl rfl (by rfl) ent93 (by rfl) (Hmd.out m s t hm hs ht _) ?_
  rintro e wW202 ⟨qx, qy, qz, qb, hq, rfl, hb⟩
  have hkW202 := held_next hkW201 hb
  rw [Hnx.out m u Hur.out hmr, Hsr.out, Htr.out] at hq
  have Hq := Lib.hid hq; clear hq hmr
  refine ⟨_, rfl, fun _ => hkW202, ?_⟩
  clear hb
  (try simp only [sI, sS, sZ])
  refine wpBut_r1 (i := 7) (by kernel_rfl) ?_
  refine go_call 7 21 #[true, true, true, true, true, true, true, true, false] rfl rfl rfl (by rfl) rfl rfl (by rfl) ent51 (by rfl) (Hplus.out qx qy qz qb Hq.out _) ?_
  rintro e wW203 ⟨px, py, pz, pb, hpt, rfl, hb⟩
  have hkW203 := held_next hkW202 hb
  refine ⟨_, rfl, fun _ => hkW203, ?_⟩
  clear hb
  (try simp only [sI, sS, sZ])
  refine wpBut_r1 (i := 8) (by kernel_rfl) ?_
  obtain ⟨Zq, hZ, mZ⟩ := M4N.out.below hkW203 M4N.out.lt
  have MZ := Lib.hid mZ; clear mZ
  have HZ := Lib.hid hZ; clear hZ
  refine go_store 8 #[true, true, true, true, true, true, true, true, true] rfl rfl rfl (by rfl) 53 _ _ rfl (w.heap.size + 1 + 1) _ rfl rfl 53 Zq MZ.out (by rw [pt_size]; kernel_rfl) (HZ.out.trans (pt_size ..).symm) (pt_one _ _ _ _) ⟨fun h => (h rfl).elim, ?_⟩
  (try simp only [sI, sS, sZ])
  refine wpBut_done (by kernel_rfl) (NoPanic.normal ?_)
  replace M2 := Lib.hid ((M2.out.call hkW203).setRow_other (w.heap.size + 1 + 1) (pt px py pz pb) (by omega))
  replace M3 := Lib.hid ((M3.out.call hkW203).setRow_other (w.heap.size + 1 + 1) (pt px py pz pb) (by omega))
  replace M5 := Lib.hid ((M5.out.call hkW203).setRow_other (w.heap.size + 1 + 1) (pt px py pz pb) (by omega))
  replace M6 := Lib.hid ((M6.out.call hkW203).setRow_other (w.heap.size + 1 + 1) (pt px py pz pb) (by omega))
  replace M7 := Lib.hid ((M7.out.call hkW203).setRow_other (w.heap.size + 1 + 1) (pt px py pz pb) (by omega))
  clear M4 M4N
  have M4 := Lib.hid (MZ.out.setRow (pt px py pz pb)); clear MZ HZ
  replace HB := Lib.hid (below_setRow (held_next HB.out hkW203) (w.heap.size + 1 + 1) (pt px py pz pb) (by omega))
  obtain ⟨yw21, hwyw21⟩ : ∃ ww, ww = wW203.setRow (w.heap.size + 1 + 1) (pt px py pz pb) := ⟨_, rfl⟩
  rw [← hwyw21] at M2 M3 M4 M5 M6 M7 HB ⊢
  clear hwyw21
  go_wp2_with fail
  exact bodyPost_ret (v := .agg (pt px py pz pb)) (results_cell_row (t := 53) (by rfl) _ _ (w.heap.size + 1 + 1) _ _ _ rfl M4.out Try.underlying53 rfl (by rw [pt_size]; kernel_rfl)) rfl ⟨px, py, pz, pb, hpt, rfl, HB.out⟩

theorem is_bool (a b X Y : Nat) (z : Bool) (ha : a < 115792089237316195423570985008687907853269984665640564039457584007913129639936) (hb : b < 115792089237316195423570985008687907853269984665640564039457584007913129639936) (h1 : a % PP = X) (h2 : b % PP = Y) (hz : z = decide (X = Y)) (w : World) :
    Calls Try.prog 41 #[.agg (e4 a), .agg (e4 b)] w fun e w' => e = .returned (.bool z) ∧ Below w.heap.size w w' := by
  rw [hz, ← h1, ← h2]; exact is_any a b ha hb w
set_option maxRecDepth 100000 in
set_option linter.unusedSimpArgs false in
set_option maxHeartbeats 8000000 in
theorem pis_any (x1 y1 c1 : Nat) (b1 : Bool) (X1 Y1 Z1 : Nat) (p1 : IsPt x1 y1 c1 b1 X1 Y1 Z1) (x2 y2 c2 : Nat) (b2 : Bool) (X2 Y2 Z2 : Nat) (p2 : IsPt x2 y2 c2 b2 X2 Y2 Z2) (w : World) :
    Calls Try.prog 55 #[.agg (pt x1 y1 c1 b1), .agg (pt x2 y2 c2 b2)] w fun e w' => e = .returned (.bool (decide (X1 * Z2 % PP = X2 * Z1 % PP) && decide (Y1 * Z2 % PP = Y2 * Z1 % PP))) ∧ Below w.heap.size w w' := by
  have hpl1 := fun w => plain_any x1 y1 c1 b1 X1 Y1 Z1 p1 w
  have hpl2 := fun w => plain_any x2 y2 c2 b2 X2 Y2 Z2 p2 w
  have ht := times_any
  obtain ⟨i1, hi1⟩ : ∃ b, b = decide (X1 * Z2 % PP = X2 * Z1 % PP) := ⟨_, rfl⟩
  obtain ⟨i2, hi2⟩ : ∃ b, b = decide (Y1 * Z2 % PP = Y2 * Z1 % PP) := ⟨_, rfl⟩
  rw [← hi1, ← hi2]
  have hI1 := fun a b ha hb h1 h2 w => is_bool a b (X1 * Z2 % PP) (X2 * Z1 % PP) i1 ha hb h1 h2 hi1 w
  have hI2 := fun a b ha hb h1 h2 w => is_bool a b (Y1 * Z2 % PP) (Y2 * Z1 % PP) i2 ha hb h1 h2 hi2 w
  clear hi1 hi2 p1 p2
  have Hpl1 := Lib.hid hpl1; clear hpl1
  have Hpl2 := Lib.hid hpl2; clear hpl2
  have Ht := Lib.hid ht; clear ht
  have Hi1 := Lib.hid hI1; clear hI1
  have Hi2 := Lib.hid hI2; clear hI2
  go_enter Try.func55, Try.ntmps55
  repeat ((fail_if_success (with_reducible (show wpList _ _ _ _ _ _))); go_step)
  refine wpList_step (fun K hK => ?_)
  go_simp
  (try go_bits)
  refine hK _ _ ?_
  clear hK K
  refine wpList_step (fun K hK => ?_)
  go_simp
  (try go_bits)
  refine hK _ _ ?_
  clear hK K
  refine wpList_step (fun K hK => ?_)
  go_simp
  (try go_bits)
  refine hK _ _ ?_
  clear hK K
  refine wpList_nil ?_
  have M2 := Lib.hid ((Has.new w  (pt x1 y1 c1 b1) 53).alloc (.cells (pt x2 y2 c2 b2) 53))
  have M3 := Lib.hid (Has.new1 w (.cells (pt x1 y1 c1 b1) 53) (pt x2 y2 c2 b2) 53)
  have HB := Lib.hid (below_2 w (.cells (pt x1 y1 c1 b1) 53) (.cells (pt x2 y2 c2 b2) 53))
  obtain ⟨yw1, hwyw1⟩ : ∃ ww, ww = ((w.alloc (.cells (pt x1 y1 c1 b1) 53)).alloc (.cells (pt x2 y2 c2 b2) 53)) := ⟨_, rfl⟩
  rw [← hwyw1] at M2 M3 HB ⊢
  clear hwyw1
  repeat ((fail_if_success (with_reducible (show wpList _ _ _ _ _ _))); go_step)
  refine wpList_load (by rfl) 53 _ rfl (w.heap.size) rfl 53 (pt x1 y1 c1 b1) M2.out Try.underlying53 rfl (by rw [pt_size]; kernel_rfl) 12 rfl ?_
  (try simp only [Act.put, sI, sS, sZ])
  refine wpList_call (by rfl) rfl rfl (by rfl) ent90 (by rfl) (Hpl1.out _) 13 rfl ?_
  rintro e uw1 ⟨u, s, t, ⟨hu, hs, ht⟩, ⟨hur, hsr, htr⟩, rfl, hb⟩
  replace M2 := Lib.hid (M2.out.call hb)
  replace M3 := Lib.hid (M3.out.call hb)
  replace HB := Lib.hid (held_next HB.out hb)
  refine ⟨_, rfl, ?_⟩
  clear hb
  (try simp only [Act.put, sI, sS, sZ])
  refine wpList_step (fun K hK => ?_)
  go_simp
  (try go_bits)
  refine hK _ _ ?_
  clear hK K
  refine wpList_step (fun K hK => ?_)
  go_simp
  (try go_bits)
  refine hK _ _ ?_
  clear hK K
  refine wpList_step (fun K hK => ?_)
  go_simp
  (try go_bits)
  refine hK _ _ ?_
  clear hK K
  refine wpList_step (fun K hK => ?_)
  go_simp
  (try go_bits)
  refine hK _ _ ?_
  clear hK K
  refine wpList_alloc (by rfl) 36 rfl _ al36 5 rfl ?_
  intro yw2 hw2
  have hlt3 := M2.out.lt
  have hlt4 := M3.out.lt
  have hsz := HB.out.size
  have kq := M2.out.alloc (.cells z36 36); rw [← hw2] at kq; clear M2; have M2 := Lib.hid kq; clear kq
  have kq := M3.out.alloc (.cells z36 36); rw [← hw2] at kq; clear M3; have M3 := Lib.hid kq; clear kq
  have kq := HasN.new uw1 z36 36 4 (by kernel_rfl); rw [← hw2] at kq; have M5 := Lib.hid kq; clear kq
  have kq := HB.out.alloc hsz (.cells z36 36); rw [← hw2] at kq; clear HB; have HB := Lib.hid kq; clear kq hw2
  (try simp only [Act.put, sI, sS, sZ])
  refine wpList_alloc (by rfl) 36 rfl _ al36 6 rfl ?_
  intro yw5 hw2
  have hlt6 := M2.out.lt
  have hlt7 := M3.out.lt
  have hlt8 := M5.out.lt
  have hsz := HB.out.size
  have kq := M2.out.alloc (.cells z36 36); rw [← hw2] at kq; clear M2; have M2 := Lib.hid kq; clear kq
  have kq := M3.out.alloc (.cells z36 36); rw [← hw2] at kq; clear M3; have M3 := Lib.hid kq; clear kq
  have kq := M5.out.alloc (.cells z36 36); rw [← hw2] at kq; clear M5; have M5 := Lib.hid kq; clear kq
  have kq := HasN.new yw2 z36 36 4 (by kernel_rfl); rw [← hw2] at kq; have M6 := Lib.hid kq; clear kq
  have kq := HB.out.alloc hsz (.cells z36 36); rw [← hw2] at kq; clear HB; have HB := Lib.hid kq; clear kq hw2
  (try simp only [Act.put, sI, sS, sZ])
  refine wpList_alloc (by rfl) 36 rfl _ al36 7 rfl ?_
  intro yw9 hw2
  have hlt10 := M2.out.lt
  have hlt11 := M3.out.lt
  have hlt12 := M5.out.lt
  have hlt13 := M6.out.lt
  have hsz := HB.out.size
  have kq := M2.out.alloc (.cells z36 36); rw [← hw2] at kq; clear M2; have M2 := Lib.hid kq; clear kq
  have kq := M3.out.alloc (.cells z36 36); rw [← hw2] at kq; clear M3; have M3 := Lib.hid kq; clear kq
  have kq := M5.out.alloc (.cells z36 36); rw [← hw2] at kq; clear M5; have M5 := Lib.hid kq; clear kq
  have kq := M6.out.alloc (.cells z36 36); rw [← hw2] at kq; clear M6; have M6 := Lib.hid kq; clear kq
  have kq := HasN.new yw5 z36 36 4 (by kernel_rfl); rw [← hw2] at kq; have M7 := Lib.hid kq; clear kq
  have kq := HB.out.alloc hsz (.cells z36 36); rw [← hw2] at kq; clear HB; have HB := Lib.hid kq; clear kq hw2
  (try simp only [Act.put, sI, sS, sZ])
  first | (obtain ⟨Zq, hZ, mZ⟩ := M5.out) | (obtain ⟨Zq, hZ, mZ⟩ := M5.out.toN (e4_size ..))
  refine wpList_store2 (by rfl) 36 _ _ rfl rfl (uw1.heap.size) (e4 u) rfl rfl 36 Zq mZ (by rw [e4_size]; kernel_rfl) (hZ.trans (e4_size ..).symm) (row_one _ _ _) ?_
  intro yw14 hw2
  have kq := M2.out.setRow_other (uw1.heap.size) (e4 u) (by omega); rw [← hw2] at kq; clear M2; have M2 := Lib.hid kq; clear kq
  have kq := M3.out.setRow_other (uw1.heap.size) (e4 u) (by omega); rw [← hw2] at kq; clear M3; have M3 := Lib.hid kq; clear kq
  have kq := M6.out.setRow_other (uw1.heap.size) (e4 u) (by omega); rw [← hw2] at kq; clear M6; have M6 := Lib.hid kq; clear kq
  have kq := M7.out.setRow_other (uw1.heap.size) (e4 u) (by omega); rw [← hw2] at kq; clear M7; have M7 := Lib.hid kq; clear kq
  have kq := mZ.setRow (e4 u); rw [← hw2] at kq; clear M5; have M5 := Lib.hid kq; clear kq mZ hZ
  have kq := below_setRow HB.out (uw1.heap.size) (e4 u) (by omega); rw [← hw2] at kq; clear HB; have HB := Lib.hid kq; clear kq hw2
  first | (obtain ⟨Zq, hZ, mZ⟩ := M6.out) | (obtain ⟨Zq, hZ, mZ⟩ := M6.out.toN (e4_size ..))
  refine wpList_store2 (by rfl) 36 _ _ rfl rfl (yw2.heap.size) (e4 s) rfl rfl 36 Zq mZ (by rw [e4_size]; kernel_rfl) (hZ.trans (e4_size ..).symm) (row_one _ _ _) ?_
  intro yw15 hw2
  have kq := M2.out.setRow_other (yw2.heap.size) (e4 s) (by omega); rw [← hw2] at kq; clear M2; have M2 := Lib.hid kq; clear kq
  have kq := M3.out.setRow_other (yw2.heap.size) (e4 s) (by omega); rw [← hw2] at kq; clear M3; have M3 := Lib.hid kq; clear kq
  have kq := M5.out.setRow_other (yw2.heap.size) (e4 s) (by omega); rw [← hw2] at kq; clear M5; have M5 := Lib.hid kq; clear kq
  have kq := M7.out.setRow_other (yw2.heap.size) (e4 s) (by omega); rw [← hw2] at kq; clear M7; have M7 := Lib.hid kq; clear kq
  have kq := mZ.setRow (e4 s); rw [← hw2] at kq; clear M6; have M6 := Lib.hid kq; clear kq mZ hZ
  have kq := below_setRow HB.out (yw2.heap.size) (e4 s) (by omega); rw [← hw2] at kq; clear HB; have HB := Lib.hid kq; clear kq hw2
  first | (obtain ⟨Zq, hZ, mZ⟩ := M7.out) | (obtain ⟨Zq, hZ, mZ⟩ := M7.out.toN (e4_size ..))
  refine wpList_store2 (by rfl) 36 _ _ rfl rfl (yw5.heap.size) (e4 t) rfl rfl 36 Zq mZ (by rw [e4_size]; kernel_rfl) (hZ.trans (e4_size ..).symm) (row_one _ _ _) ?_
  intro yw16 hw2
  have kq := M2.out.setRow_other (yw5.heap.size) (e4 t) (by omega); rw [← hw2] at kq; clear M2; have M2 := Lib.hid kq; clear kq
  have kq := M3.out.setRow_other (yw5.heap.size) (e4 t) (by omega); rw [← hw2] at kq; clear M3; have M3 := Lib.hid kq; clear kq
  have kq := M5.out.setRow_other (yw5.heap.size) (e4 t) (by omega); rw [← hw2] at kq; clear M5; have M5 := Lib.hid kq; clear kq
  have kq := M6.out.setRow_other (yw5.heap.size) (e4 t) (by omega); rw [← hw2] at kq; clear M6; have M6 := Lib.hid kq; clear kq
  have kq := mZ.setRow (e4 t); rw [← hw2] at kq; clear M7; have M7 := Lib.hid kq; clear kq mZ hZ
  have kq := below_setRow HB.out (yw5.heap.size) (e4 t) (by omega); rw [← hw2] at kq; clear HB; have HB := Lib.hid kq; clear kq hw2
  refine wpList_nil ?_
  have Hur := Lib.hid hur; clear hur
  have Hsr := Lib.hid hsr; clear hsr
  have Htr := Lib.hid htr; clear htr
  repeat ((fail_if_success (with_reducible (show wpList _ _ _ _ _ _))); go_step)
  refine wpList_load (by rfl) 53 _ rfl (w.heap.size + 1) rfl 53 (pt x2 y2 c2 b2) M3.out Try.underlying53 rfl (by rw [pt_size]; kernel_rfl) 18 rfl ?_
  (try simp only [Act.put, sI, sS, sZ])
  refine wpList_call (by rfl) rfl rfl (by rfl) ent90 (by rfl) (Hpl2.out _) 19 rfl ?_
  rintro e uw2 ⟨u2, s2, t2, ⟨hu2, hs2, ht2⟩, ⟨hu2r, hs2r, ht2r⟩, rfl, hb⟩
  replace M2 := Lib.hid (M2.out.call hb)
  replace M3 := Lib.hid (M3.out.call hb)
  replace M5 := Lib.hid (M5.out.call hb)
  replace M6 := Lib.hid (M6.out.call hb)
  replace M7 := Lib.hid (M7.out.call hb)
  replace HB := Lib.hid (held_next HB.out hb)
  refine ⟨_, rfl, ?_⟩
  clear hb
  (try simp only [Act.put, sI, sS, sZ])
  refine wpList_step (fun K hK => ?_)
  go_simp
  (try go_bits)
  refine hK _ _ ?_
  clear hK K
  refine wpList_step (fun K hK => ?_)
  go_simp
  (try go_bits)
  refine hK _ _ ?_
  clear hK K
  refine wpList_step (fun K hK => ?_)
  go_simp
  (try go_bits)
  refine hK _ _ ?_
  clear hK K
  refine wpList_step (fun K hK => ?_)
  go_simp
  (try go_bits)
  refine hK _ _ ?_
  clear hK K
  refine wpList_alloc (by rfl) 36 rfl _ al36 8 rfl ?_
  intro yw17 hw2
  have hlt18 := M2.out.lt
  have hlt19 := M3.out.lt
  have hlt20 := M5.out.lt
  have hlt21 := M6.out.lt
  have hlt22 := M7.out.lt
  have hsz := HB.out.size
  have kq := M2.out.alloc (.cells z36 36); rw [← hw2] at kq; clear M2; have M2 := Lib.hid kq; clear kq
  have kq := M3.out.alloc (.cells z36 36); rw [← hw2] at kq; clear M3; have M3 := Lib.hid kq; clear kq
  have kq := M5.out.alloc (.cells z36 36); rw [← hw2] at kq; clear M5; have M5 := Lib.hid kq; clear kq
  have kq := M6.out.alloc (.cells z36 36); rw [← hw2] at kq; clear M6; have M6 := Lib.hid kq; clear kq
  have kq := M7.out.alloc (.cells z36 36); rw [← hw2] at kq; clear M7; have M7 := Lib.hid kq; clear kq
  have kq := HasN.new uw2 z36 36 4 (by kernel_rfl); rw [← hw2] at kq; have M8 := Lib.hid kq; clear kq
  have kq := HB.out.alloc hsz (.cells z36 36); rw [← hw2] at kq; clear HB; have HB := Lib.hid kq; clear kq hw2
  (try simp only [Act.put, sI, sS, sZ])
  refine wpList_alloc (by rfl) 36 rfl _ al36 9 rfl ?_
  intro yw23 hw2
  have hlt24 := M2.out.lt
  have hlt25 := M3.out.lt
  have hlt26 := M5.out.lt
  have hlt27 := M6.out.lt
  have hlt28 := M7.out.lt
  have hlt29 := M8.out.lt
  have hsz := HB.out.size
  have kq := M2.out.alloc (.cells z36 36); rw [← hw2] at kq; clear M2; have M2 := Lib.hid kq; clear kq
  have kq := M3.out.alloc (.cells z36 36); rw [← hw2] at kq; clear M3; have M3 := Lib.hid kq; clear kq
  have kq := M5.out.alloc (.cells z36 36); rw [← hw2] at kq; clear M5; have M5 := Lib.hid kq; clear kq
  have kq := M6.out.alloc (.cells z36 36); rw [← hw2] at kq; clear M6; have M6 := Lib.hid kq; clear kq
  have kq := M7.out.alloc (.cells z36 36); rw [← hw2] at kq; clear M7; have M7 := Lib.hid kq; clear kq
  have kq := M8.out.alloc (.cells z36 36); rw [← hw2] at kq; clear M8; have M8 := Lib.hid kq; clear kq
  have kq := HasN.new yw17 z36 36 4 (by kernel_rfl); rw [← hw2] at kq; have M9 := Lib.hid kq; clear kq
  have kq := HB.out.alloc hsz (.cells z36 36); rw [← hw2] at kq; clear HB; have HB := Lib.hid kq; clear kq hw2
  (try simp only [Act.put, sI, sS, sZ])
  refine wpList_alloc (by rfl) 36 rfl _ al36 10 rfl ?_
  intro yw30 hw2
  have hlt31 := M2.out.lt
  have hlt32 := M3.out.lt
  have hlt33 := M5.out.lt
  have hlt34 := M6.out.lt
  have hlt35 := M7.out.lt
  have hlt36 := M8.out.lt
  have hlt37 := M9.out.lt
  have hsz := HB.out.size
  have kq := M2.out.alloc (.cells z36 36); rw [← hw2] at kq; clear M2; have M2 := Lib.hid kq; clear kq
  have kq := M3.out.alloc (.cells z36 36); rw [← hw2] at kq; clear M3; have M3 := Lib.hid kq; clear kq
  have kq := M5.out.alloc (.cells z36 36); rw [← hw2] at kq; clear M5; have M5 := Lib.hid kq; clear kq
  have kq := M6.out.alloc (.cells z36 36); rw [← hw2] at kq; clear M6; have M6 := Lib.hid kq; clear kq
  have kq := M7.out.alloc (.cells z36 36); rw [← hw2] at kq; clear M7; have M7 := Lib.hid kq; clear kq
  have kq := M8.out.alloc (.cells z36 36); rw [← hw2] at kq; clear M8; have M8 := Lib.hid kq; clear kq
  have kq := M9.out.alloc (.cells z36 36); rw [← hw2] at kq; clear M9; have M9 := Lib.hid kq; clear kq
  have kq := HasN.new yw23 z36 36 4 (by kernel_rfl); rw [← hw2] at kq; have M10 := Lib.hid kq; clear kq
  have kq := HB.out.alloc hsz (.cells z36 36); rw [← hw2] at kq; clear HB; have HB := Lib.hid kq; clear kq hw2
  (try simp only [Act.put, sI, sS, sZ])
  first | (obtain ⟨Zq, hZ, mZ⟩ := M8.out) | (obtain ⟨Zq, hZ, mZ⟩ := M8.out.toN (e4_size ..))
  refine wpList_store2 (by rfl) 36 _ _ rfl rfl (uw2.heap.size) (e4 u2) rfl rfl 36 Zq mZ (by rw [e4_size]; kernel_rfl) (hZ.trans (e4_size ..).symm) (row_one _ _ _) ?_
  intro yw38 hw2
  have kq := M2.out.setRow_other (uw2.heap.size) (e4 u2) (by omega); rw [← hw2] at kq; clear M2; have M2 := Lib.hid kq; clear kq
  have kq := M3.out.setRow_other (uw2.heap.size) (e4 u2) (by omega); rw [← hw2] at kq; clear M3; have M3 := Lib.hid kq; clear kq
  have kq := M5.out.setRow_other (uw2.heap.size) (e4 u2) (by omega); rw [← hw2] at kq; clear M5; have M5 := Lib.hid kq; clear kq
  have kq := M6.out.setRow_other (uw2.heap.size) (e4 u2) (by omega); rw [← hw2] at kq; clear M6; have M6 := Lib.hid kq; clear kq
  have kq := M7.out.setRow_other (uw2.heap.size) (e4 u2) (by omega); rw [← hw2] at kq; clear M7; have M7 := Lib.hid kq; clear kq
  have kq := M9.out.setRow_other (uw2.heap.size) (e4 u2) (by omega); rw [← hw2] at kq; clear M9; have M9 := Lib.hid kq; clear kq
  have kq := M10.out.setRow_other (uw2.heap.size) (e4 u2) (by omega); rw [← hw2] at kq; clear M10; have M10 := Lib.hid kq; clear kq
  have kq := mZ.setRow (e4 u2); rw [← hw2] at kq; clear M8; have M8 := Lib.hid kq; clear kq mZ hZ
  have kq := below_setRow HB.out (uw2.heap.size) (e4 u2) (by omega); rw [← hw2] at kq; clear HB; have HB := Lib.hid kq; clear kq hw2
  first | (obtain ⟨Zq, hZ, mZ⟩ := M9.out) | (obtain ⟨Zq, hZ, mZ⟩ := M9.out.toN (e4_size ..))
  refine wpList_store2 (by rfl) 36 _ _ rfl rfl (yw17.heap.size) (e4 s2) rfl rfl 36 Zq mZ (by rw [e4_size]; kernel_rfl) (hZ.trans (e4_size ..).symm) (row_one _ _ _) ?_
  intro yw39 hw2
  have kq := M2.out.setRow_other (yw17.heap.size) (e4 s2) (by omega); rw [← hw2] at kq; clear M2; have M2 := Lib.hid kq; clear kq
  have kq := M3.out.setRow_other (yw17.heap.size) (e4 s2) (by omega); rw [← hw2] at kq; clear M3; have M3 := Lib.hid kq; clear kq
  have kq := M5.out.setRow_other (yw17.heap.size) (e4 s2) (by omega); rw [← hw2] at kq; clear M5; have M5 := Lib.hid kq; clear kq
  have kq := M6.out.setRow_other (yw17.heap.size) (e4 s2) (by omega); rw [← hw2] at kq; clear M6; have M6 := Lib.hid kq; clear kq
  have kq := M7.out.setRow_other (yw17.heap.size) (e4 s2) (by omega); rw [← hw2] at kq; clear M7; have M7 := Lib.hid kq; clear kq
  have kq := M8.out.setRow_other (yw17.heap.size) (e4 s2) (by omega); rw [← hw2] at kq; clear M8; have M8 := Lib.hid kq; clear kq
  have kq := M10.out.setRow_other (yw17.heap.size) (e4 s2) (by omega); rw [← hw2] at kq; clear M10; have M10 := Lib.hid kq; clear kq
  have kq := mZ.setRow (e4 s2); rw [← hw2] at kq; clear M9; have M9 := Lib.hid kq; clear kq mZ hZ
  have kq := below_setRow HB.out (yw17.heap.size) (e4 s2) (by omega); rw [← hw2] at kq; clear HB; have HB := Lib.hid kq; clear kq hw2
  first | (obtain ⟨Zq, hZ, mZ⟩ := M10.out) | (obtain ⟨Zq, hZ, mZ⟩ := M10.out.toN (e4_size ..))
  refine wpList_store2 (by rfl) 36 _ _ rfl rfl (yw23.heap.size) (e4 t2) rfl rfl 36 Zq mZ (by rw [e4_size]; kernel_rfl) (hZ.trans (e4_size ..).symm) (row_one _ _ _) ?_
  intro yw40 hw2
  have kq := M2.out.setRow_other (yw23.heap.size) (e4 t2) (by omega); rw [← hw2] at kq; clear M2; have M2 := Lib.hid kq; clear kq
  have kq := M3.out.setRow_other (yw23.heap.size) (e4 t2) (by omega); rw [← hw2] at kq; clear M3; have M3 := Lib.hid kq; clear kq
  have kq := M5.out.setRow_other (yw23.heap.size) (e4 t2) (by omega); rw [← hw2] at kq; clear M5; have M5 := Lib.hid kq; clear kq
  have kq := M6.out.setRow_other (yw23.heap.size) (e4 t2) (by omega); rw [← hw2] at kq; clear M6; have M6 := Lib.hid kq; clear kq
  have kq := M7.out.setRow_other (yw23.heap.size) (e4 t2) (by omega); rw [← hw2] at kq; clear M7; have M7 := Lib.hid kq; clear kq
  have kq := M8.out.setRow_other (yw23.heap.size) (e4 t2) (by omega); rw [← hw2] at kq; clear M8; have M8 := Lib.hid kq; clear kq
  have kq := M9.out.setRow_other (yw23.heap.size) (e4 t2) (by omega); rw [← hw2] at kq; clear M9; have M9 := Lib.hid kq; clear kq
  have kq := mZ.setRow (e4 t2); rw [← hw2] at kq; clear M10; have M10 := Lib.hid kq; clear kq mZ hZ
  have kq := below_setRow HB.out (yw23.heap.size) (e4 t2) (by omega); rw [← hw2] at kq; clear HB; have HB := Lib.hid kq; clear kq hw2
  refine wpList_nil ?_
  have Hu2r := Lib.hid hu2r; clear hu2r
  have Hs2r := Lib.hid hs2r; clear hs2r
  have Ht2r := Lib.hid ht2r; clear ht2r
  clear M2 M3
  repeat ((fail_if_success (with_reducible (show wpList _ _ _ _ _ _))); go_step)
  cases i1
  · refine wp_region_noPanic ?_
    refine wp_region_go 99 17 #[false, false, false, false, false, false, false, false, false, false, false, false, false, false, false, false, false] (by kernel_rfl) rfl rfl ?_
    intro W41 hW41
    have kq := M5.out; rw [← hW41] at kq; clear M5; have M5 := Lib.hid kq; clear kq
    have kq := M6.out; rw [← hW41] at kq; clear M6; have M6 := Lib.hid kq; clear kq
    have kq := M7.out; rw [← hW41] at kq; clear M7; have M7 := Lib.hid kq; clear kq
    have kq := M8.out; rw [← hW41] at kq; clear M8; have M8 := Lib.hid kq; clear kq
    have kq := M9.out; rw [← hW41] at kq; clear M9; have M9 := Lib.hid kq; clear kq
    have kq := M10.out; rw [← hW41] at kq; clear M10; have M10 := Lib.hid kq; clear kq
    have kq := HB.out; rw [← hW41] at kq; clear HB; have HB := Lib.hid kq; clear kq
    clear hW41
    refine go_take2 0 23 #[true, false, false, false, false, false, false, false, false, false, false, false, false, false, false, false, false] rfl rfl rfl (by kernel_rfl) (yieldsIf_load_row (by rfl) 36 _ rfl (uw1.heap.size) rfl 36 (e4 u) (fun _ h => M5.out.below h M5.out.lt) Try.underlying36 rfl (by rw [e4_size]; kernel_rfl)) ((below_dr W41)) ?_
    (try simp only [sI, sS, sZ])
    refine go_take2 1 24 #[true, true, false, false, false, false, false, false, false, false, false, false, false, false, false, false, false] rfl rfl rfl (by kernel_rfl) (yieldsIf_load_row (by rfl) 36 _ rfl (yw23.heap.size) rfl 36 (e4 t2) (fun _ h => M10.out.below h M10.out.lt) Try.underlying36 rfl (by rw [e4_size]; kernel_rfl)) ((below_dr W41)) ?_
    (try simp only [sI, sS, sZ])
    refine go_take2 3 26 #[true, true, false, true, false, false, false, false, false, false, false, false, false, false, false, false, false] rfl rfl rfl (by kernel_rfl) (yieldsIf_load_row (by rfl) 36 _ rfl (uw2.heap.size) rfl 36 (e4 u2) (fun _ h => M8.out.below h M8.out.lt) Try.underlying36 rfl (by rw [e4_size]; kernel_rfl)) ((below_dr W41)) ?_
    (try simp only [sI, sS, sZ])
    refine go_take2 4 27 #[true, true, false, true, true, false, false, false, false, false, false, false, false, false, false, false, false] rfl rfl rfl (by kernel_rfl) (yieldsIf_load_row (by rfl) 36 _ rfl (yw5.heap.size) rfl 36 (e4 t) (fun _ h => M7.out.below h M7.out.lt) Try.underlying36 rfl (by rw [e4_size]; kernel_rfl)) ((below_dr W41)) ?_
    (try simp only [sI, sS, sZ])
    refine wpBut_r1 (i := 2) (by kernel_rfl) ?_
    refine go_call 2 25 #[true, true, true, true, true, false, false, false, false, false, false, false, false, false, false, false, false] rfl rfl rfl (by rfl) rfl rfl (by rfl) ent31 (by rfl) (Ht.out u t2 hu ht2 _) ?_
    rintro e wW411 ⟨m1, hm1, hm1r, rfl, hb⟩
    have hkW411 := held_next (below_dr W41) hb
    refine ⟨_, rfl, fun _ => hkW411, ?_⟩
    clear hb
    (try simp only [sI, sS, sZ])
    refine wpBut_r1 (i := 5) (by kernel_rfl) ?_
    refine go_call 5 28 #[true, true, true, true, true, true, false, false, false, false, false, false, false, false, false, false, false] rfl rfl rfl (by rfl) rfl rfl (by rfl) ent31 (by rfl) (Ht.out u2 t hu2 ht _) ?_
    rintro e wW412 ⟨m2, hm2, hm2r, rfl, hb⟩
    have hkW412 := held_next hkW411 hb
    refine ⟨_, rfl, fun _ => hkW412, ?_⟩
    clear hb
    (try simp only [sI, sS, sZ])
    refine wpBut_r1 (i := 6) (by kernel_rfl) ?_
    refine go_call 6 29 #[true, true, true, true, true, true, true, false, false, false, false, false, false, false, false, false, false] rfl rfl rfl (by rfl) rfl rfl (by rfl) ent41 (by rfl) (Hi1.out m1 m2 hm1 hm2 (r_mul m1 u t2 X1 Z2 _ hm1r Hur.out Ht2r.out rfl) (r_mul m2 u2 t X2 Z1 _ hm2r Hu2r.out Htr.out rfl) _) ?_
    rintro e wW413 ⟨rfl, hb⟩
    have hkW413 := held_next hkW412 hb
    refine ⟨_, rfl, fun _ => hkW413, ?_⟩
    clear hb
    (try simp only [sI, sS, sZ])
    refine go_take2 7 30 #[true, true, true, true, true, true, true, true, false, false, false, false, false, false, false, false, false] (v := ?uv1) rfl rfl rfl (by kernel_rfl) (Or.inl ⟨by rfl, ?uy1⟩) (hkW413) ?urest1
    case uy1 => (intro _ _; go_simp; try with_reducible rfl)
    (try simp only [sI, sS, sZ])
    refine go_take2 8 31 #[true, true, true, true, true, true, true, true, true, false, false, false, false, false, false, false, false] (v := undef) rfl rfl rfl (by kernel_rfl) (Or.inr ⟨by rfl, rfl⟩) (hkW413) ?_
    (try simp only [sI, sS, sZ])
    refine go_take2 9 32 #[true, true, true, true, true, true, true, true, true, true, false, false, false, false, false, false, false] (v := undef) rfl rfl rfl (by kernel_rfl) (Or.inr ⟨by rfl, rfl⟩) (hkW413) ?_
    (try simp only [sI, sS, sZ])
    refine go_take2 10 33 #[true, true, true, true, true, true, true, true, true, true, true, false, false, false, false, false, false] (v := undef) rfl rfl rfl (by kernel_rfl) (Or.inr ⟨by rfl, rfl⟩) (hkW413) ?_
    (try simp only [sI, sS, sZ])
    refine go_take2 11 34 #[true, true, true, true, true, true, true, true, true, true, true, true, false, false, false, false, false] (v := undef) rfl rfl rfl (by kernel_rfl) (Or.inr ⟨by rfl, rfl⟩) (hkW413) ?_
    (try simp only [sI, sS, sZ])
    refine go_take2 12 35 #[true, true, true, true, true, true, true, true, true, true, true, true, true, false, false, false, false] (v := undef) rfl rfl rfl (by kernel_rfl) (Or.inr ⟨by rfl, rfl⟩) (hkW413) ?_
    (try simp only [sI, sS, sZ])
    refine go_take2 13 36 #[true, true, true, true, true, true, true, true, true, true, true, true, true, true, false, false, false] (v := undef) rfl rfl rfl (by kernel_rfl) (Or.inr ⟨by rfl, rfl⟩) (hkW413) ?_
    (try simp only [sI, sS, sZ])
    refine go_take2 14 37 #[true, true, true, true, true, true, true, true, true, true, true, true, true, true, true, false, false] (v := undef) rfl rfl rfl (by kernel_rfl) (Or.inr ⟨by rfl, rfl⟩) (hkW413) ?_
    (try simp only [sI, sS, sZ])
    refine go_take2 15 38 #[true, true, true, true, true, true, true, true, true, true, true, true, true, true, true, true, false] (v := ?uv2) rfl rfl rfl (by kernel_rfl) (Or.inl ⟨by rfl, ?uy2⟩) (hkW413) ?urest2
    case uy2 => (intro _ _; go_simp; try with_reducible rfl)
    (try simp only [sI, sS, sZ])
    refine go_take2 16 4 #[true, true, true, true, true, true, true, true, true, true, true, true, true, true, true, true, true] (v := ?uv3) rfl rfl rfl (by kernel_rfl) (Or.inl ⟨by rfl, ?uy3⟩) (hkW413) ?urest3
    case uy3 => (intro _ _; go_simp; try with_reducible rfl)
    (try simp only [sI, sS, sZ])
    refine wpBut_done (by kernel_rfl) (NoPanic.normal ?_)
    replace M5 := Lib.hid (M5.out.call hkW413)
    replace M6 := Lib.hid (M6.out.call hkW413)
    replace M7 := Lib.hid (M7.out.call hkW413)
    replace M8 := Lib.hid (M8.out.call hkW413)
    replace M9 := Lib.hid (M9.out.call hkW413)
    replace M10 := Lib.hid (M10.out.call hkW413)
    replace HB := Lib.hid (held_next HB.out hkW413)
    go_wp2_with fail
    go_ret
    exact ⟨by simp, HB.out⟩
  · refine wp_region_noPanic ?_
    refine wp_region_go 99 17 #[false, false, false, false, false, false, false, false, false, false, false, false, false, false, false, false, false] (by kernel_rfl) rfl rfl ?_
    intro W41 hW41
    have kq := M5.out; rw [← hW41] at kq; clear M5; have M5 := Lib.hid kq; clear kq
    have kq := M6.out; rw [← hW41] at kq; clear M6; have M6 := Lib.hid kq; clear kq
    have kq := M7.out; rw [← hW41] at kq; clear M7; have M7 := Lib.hid kq; clear kq
    have kq := M8.out; rw [← hW41] at kq; clear M8; have M8 := Lib.hid kq; clear kq
    have kq := M9.out; rw [← hW41] at kq; clear M9; have M9 := Lib.hid kq; clear kq
    have kq := M10.out; rw [← hW41] at kq; clear M10; have M10 := Lib.hid kq; clear kq
    have kq := HB.out; rw [← hW41] at kq; clear HB; have HB := Lib.hid kq; clear kq
    clear hW41
    refine go_take2 0 23 #[true, false, false, false, false, false, false, false, false, false, false, false, false, false, false, false, false] rfl rfl rfl (by kernel_rfl) (yieldsIf_load_row (by rfl) 36 _ rfl (uw1.heap.size) rfl 36 (e4 u) (fun _ h => M5.out.below h M5.out.lt) Try.underlying36 rfl (by rw [e4_size]; kernel_rfl)) ((below_dr W41)) ?_
    (try simp only [sI, sS, sZ])
    refine go_take2 1 24 #[true, true, false, false, false, false, false, false, false, false, false, false, false, false, false, false, false] rfl rfl rfl (by kernel_rfl) (yieldsIf_load_row (by rfl) 36 _ rfl (yw23.heap.size) rfl 36 (e4 t2) (fun _ h => M10.out.below h M10.out.lt) Try.underlying36 rfl (by rw [e4_size]; kernel_rfl)) ((below_dr W41)) ?_
    (try simp only [sI, sS, sZ])
    refine go_take2 3 26 #[true, true, false, true, false, false, false, false, false, false, false, false, false, false, false, false, false] rfl rfl rfl (by kernel_rfl) (yieldsIf_load_row (by rfl) 36 _ rfl (uw2.heap.size) rfl 36 (e4 u2) (fun _ h => M8.out.below h M8.out.lt) Try.underlying36 rfl (by rw [e4_size]; kernel_rfl)) ((below_dr W41)) ?_
    (try simp only [sI, sS, sZ])
    refine go_take2 4 27 #[true, true, false, true, true, false, false, false, false, false, false, false, false, false, false, false, false] rfl rfl rfl (by kernel_rfl) (yieldsIf_load_row (by rfl) 36 _ rfl (yw5.heap.size) rfl 36 (e4 t) (fun _ h => M7.out.below h M7.out.lt) Try.underlying36 rfl (by rw [e4_size]; kernel_rfl)) ((below_dr W41)) ?_
    (try simp only [sI, sS, sZ])
    refine wpBut_r1 (i := 2) (by kernel_rfl) ?_
    refine go_call 2 25 #[true, true, true, true, true, false, false, false, false, false, false, false, false, false, false, false, false] rfl rfl rfl (by rfl) rfl rfl (by rfl) ent31 (by rfl) (Ht.out u t2 hu ht2 _) ?_
    rintro e wW411 ⟨m1, hm1, hm1r, rfl, hb⟩
    have hkW411 := held_next (below_dr W41) hb
    refine ⟨_, rfl, fun _ => hkW411, ?_⟩
    clear hb
    (try simp only [sI, sS, sZ])
    refine wpBut_r1 (i := 5) (by kernel_rfl) ?_
    refine go_call 5 28 #[true, true, true, true, true, true, false, false, false, false, false, false, false, false, false, false, false] rfl rfl rfl (by rfl) rfl rfl (by rfl) ent31 (by rfl) (Ht.out u2 t hu2 ht _) ?_
    rintro e wW412 ⟨m2, hm2, hm2r, rfl, hb⟩
    have hkW412 := held_next hkW411 hb
    refine ⟨_, rfl, fun _ => hkW412, ?_⟩
    clear hb
    (try simp only [sI, sS, sZ])
    refine wpBut_r1 (i := 6) (by kernel_rfl) ?_
    refine go_call 6 29 #[true, true, true, true, true, true, true, false, false, false, false, false, false, false, false, false, false] rfl rfl rfl (by rfl) rfl rfl (by rfl) ent41 (by rfl) (Hi1.out m1 m2 hm1 hm2 (r_mul m1 u t2 X1 Z2 _ hm1r Hur.out Ht2r.out rfl) (r_mul m2 u2 t X2 Z1 _ hm2r Hu2r.out Htr.out rfl) _) ?_
    rintro e wW413 ⟨rfl, hb⟩
    have hkW413 := held_next hkW412 hb
    refine ⟨_, rfl, fun _ => hkW413, ?_⟩
    clear hb
    (try simp only [sI, sS, sZ])
    refine go_take2 7 30 #[true, true, true, true, true, true, true, true, false, false, false, false, false, false, false, false, false] (v := ?uv4) rfl rfl rfl (by kernel_rfl) (Or.inl ⟨by rfl, ?uy4⟩) (hkW413) ?urest4
    case uy4 => (intro _ _; go_simp; try with_reducible rfl)
    (try simp only [sI, sS, sZ])
    refine go_take2 8 31 #[true, true, true, true, true, true, true, true, true, false, false, false, false, false, false, false, false] rfl rfl rfl (by kernel_rfl) (yieldsIf_load_row (by rfl) 36 _ rfl (yw2.heap.size) rfl 36 (e4 s) (fun _ h => M6.out.below h M6.out.lt) Try.underlying36 rfl (by rw [e4_size]; kernel_rfl)) (hkW413) ?_
    (try simp only [sI, sS, sZ])
    refine go_take2 9 32 #[true, true, true, true, true, true, true, true, true, true, false, false, false, false, false, false, false] rfl rfl rfl (by kernel_rfl) (yieldsIf_load_row (by rfl) 36 _ rfl (yw23.heap.size) rfl 36 (e4 t2) (fun _ h => M10.out.below h M10.out.lt) Try.underlying36 rfl (by rw [e4_size]; kernel_rfl)) (hkW413) ?_
    (try simp only [sI, sS, sZ])
    refine go_take2 11 34 #[true, true, true, true, true, true, true, true, true, true, false, true, false, false, false, false, false] rfl rfl rfl (by kernel_rfl) (yieldsIf_load_row (by rfl) 36 _ rfl (yw17.heap.size) rfl 36 (e4 s2) (fun _ h => M9.out.below h M9.out.lt) Try.underlying36 rfl (by rw [e4_size]; kernel_rfl)) (hkW413) ?_
    (try simp only [sI, sS, sZ])
    refine go_take2 12 35 #[true, true, true, true, true, true, true, true, true, true, false, true, true, false, false, false, false] rfl rfl rfl (by kernel_rfl) (yieldsIf_load_row (by rfl) 36 _ rfl (yw5.heap.size) rfl 36 (e4 t) (fun _ h => M7.out.below h M7.out.lt) Try.underlying36 rfl (by rw [e4_size]; kernel_rfl)) (hkW413) ?_
    (try simp only [sI, sS, sZ])
    refine wpBut_r1 (i := 10) (by kernel_rfl) ?_
    refine go_call 10 33 #[true, true, true, true, true, true, true, true, true, true, true, true, true, false, false, false, false] rfl rfl rfl (by rfl) rfl rfl (by rfl) ent31 (by rfl) (Ht.out s t2 hs ht2 _) ?_
    rintro e wW414 ⟨m3, hm3, hm3r, rfl, hb⟩
    have hkW414 := held_next hkW413 hb
    refine ⟨_, rfl, fun _ => hkW414, ?_⟩
    clear hb
    (try simp only [sI, sS, sZ])
    refine wpBut_r1 (i := 13) (by kernel_rfl) ?_
    refine go_call 13 36 #[true, true, true, true, true, true, true, true, true, true, true, true, true, true, false, false, false] rfl rfl rfl (by rfl) rfl rfl (by rfl) ent31 (by rfl) (Ht.out s2 t hs2 ht _) ?_
    rintro e wW415 ⟨m4, hm4, hm4r, rfl, hb⟩
    have hkW415 := held_next hkW414 hb
    refine ⟨_, rfl, fun _ => hkW415, ?_⟩
    clear hb
    (try simp only [sI, sS, sZ])
    refine wpBut_r1 (i := 14) (by kernel_rfl) ?_
    refine go_call 14 37 #[true, true, true, true, true, true, true, true, true, true, true, true, true, true, true, false, false] rfl rfl rfl (by rfl) rfl rfl (by rfl) ent41 (by rfl) (Hi2.out m3 m4 hm3 hm4 (r_mul m3 s t2 Y1 Z2 _ hm3r Hsr.out Ht2r.out rfl) (r_mul m4 s2 t Y2 Z1 _ hm4r Hs2r.out Htr.out rfl) _) ?_
    rintro e wW416 ⟨rfl, hb⟩
    have hkW416 := held_next hkW415 hb
    refine ⟨_, rfl, fun _ => hkW416, ?_⟩
    clear hb
    (try simp only [sI, sS, sZ])
    refine go_take2 15 38 #[true, true, true, true, true, true, true, true, true, true, true, true, true, true, true, true, false] (v := ?uv5) rfl rfl rfl (by kernel_rfl) (Or.inl ⟨by rfl, ?uy5⟩) (hkW416) ?urest5
    case uy5 => (intro _ _; go_simp; try with_reducible rfl)
    (try simp only [sI, sS, sZ])
    refine go_take2 16 4 #[true, true, true, true, true, true, true, true, true, true, true, true, true, true, true, true, true] (v := ?uv6) rfl rfl rfl (by kernel_rfl) (Or.inl ⟨by rfl, ?uy6⟩) (hkW416) ?urest6
    case uy6 => (intro _ _; go_simp; try with_reducible rfl)
    (try simp only [sI, sS, sZ])
    refine wpBut_done (by kernel_rfl) (NoPanic.normal ?_)
    replace M5 := Lib.hid (M5.out.call hkW416)
    replace M6 := Lib.hid (M6.out.call hkW416)
    replace M7 := Lib.hid (M7.out.call hkW416)
    replace M8 := Lib.hid (M8.out.call hkW416)
    replace M9 := Lib.hid (M9.out.call hkW416)
    replace M10 := Lib.hid (M10.out.call hkW416)
    replace HB := Lib.hid (held_next HB.out hkW416)
    go_wp2_with fail
    go_ret
    exact ⟨by simp, HB.out⟩
end Go.Proofs.Ytjiagjonlcadiaa
