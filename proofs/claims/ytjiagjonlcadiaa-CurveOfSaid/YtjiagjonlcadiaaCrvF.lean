/- The reference's points: Origin, Slope, Of. -/
import Derived.Test.YtjiagjonlcadiaaCrvE
namespace Go.Proofs.Ytjiagjonlcadiaa
open Go.RowKit Go.Lib

theorem bd24s : Try.prog.built 24 [(0, .int .u8 163), (1, .int .u8 120), (2, .int .u8 89), (3, .int .u8 19), (4, .int .u8 202), (5, .int .u8 77), (6, .int .u8 235), (7, .int .u8 117), (8, .int .u8 171), (9, .int .u8 216), (10, .int .u8 65), (11, .int .u8 65), (12, .int .u8 77), (13, .int .u8 10), (14, .int .u8 112), (15, .int .u8 0), (16, .int .u8 152), (17, .int .u8 232), (18, .int .u8 121), (19, .int .u8 119), (20, .int .u8 121), (21, .int .u8 64), (22, .int .u8 199), (23, .int .u8 140), (24, .int .u8 115), (25, .int .u8 254), (26, .int .u8 111), (27, .int .u8 43), (28, .int .u8 238), (29, .int .u8 108), (30, .int .u8 3), (31, .int .u8 82)] = some (k32 SL) := by kernel_rfl
theorem SL_255 : SL % 2 ^ 255 % PP = SL := by decide +kernel

set_option maxRecDepth 100000 in
set_option linter.unusedSimpArgs false in
set_option maxHeartbeats 8000000 in
theorem rslope_any (w : World) : Calls Try.prog 89 #[] w fun e w' => e = .returned (.agg (r22 SL)) ∧ Below w.heap.size w w' := by
  have hof := fun w => rof_any SL w
  rw [SL_255] at hof
  have Hof := Lib.hid hof; clear hof
  go_enter Try.func89, Try.ntmps89
  repeat ((fail_if_success (with_reducible (show wpList _ _ _ _ _ _))); go_step)
  refine wpList_step (fun K hK => ?_)
  go_simp
  (try go_bits)
  refine hK _ _ ?_
  clear hK K
  refine wpList_nil ?_
  have M0 := Lib.hid (HasN.new w  (#[.int .i64 0, .int .i64 0, .int .i64 0, .int .i64 0, .int .i64 0, .int .i64 0, .int .i64 0, .int .i64 0, .int .i64 0, .int .i64 0, .int .i64 0, .int .i64 0, .int .i64 0, .int .i64 0, .int .i64 0, .int .i64 0, .int .i64 0, .int .i64 0, .int .i64 0, .int .i64 0, .int .i64 0, .int .i64 0] : Array Value) 40 22 (by kernel_rfl))
  have HB := Lib.hid (below_1 w (.cells (#[.int .i64 0, .int .i64 0, .int .i64 0, .int .i64 0, .int .i64 0, .int .i64 0, .int .i64 0, .int .i64 0, .int .i64 0, .int .i64 0, .int .i64 0, .int .i64 0, .int .i64 0, .int .i64 0, .int .i64 0, .int .i64 0, .int .i64 0, .int .i64 0, .int .i64 0, .int .i64 0, .int .i64 0, .int .i64 0] : Array Value) 40))
  obtain ⟨yw1, hwyw1⟩ : ∃ ww, ww = (w.alloc (.cells (#[.int .i64 0, .int .i64 0, .int .i64 0, .int .i64 0, .int .i64 0, .int .i64 0, .int .i64 0, .int .i64 0, .int .i64 0, .int .i64 0, .int .i64 0, .int .i64 0, .int .i64 0, .int .i64 0, .int .i64 0, .int .i64 0, .int .i64 0, .int .i64 0, .int .i64 0, .int .i64 0, .int .i64 0, .int .i64 0] : Array Value) 40)) := ⟨_, rfl⟩
  rw [← hwyw1] at M0 HB ⊢
  clear hwyw1
  repeat ((fail_if_success (with_reducible (show wpList _ _ _ _ _ _))); go_step)
  refine wpList_built (by rfl) 24 _ rfl _ (by rfl) (k32 SL) (bd24s) 1 rfl ?_
  (try simp only [Act.put, sI, sS, sZ])
  refine wpList_call (by rfl) rfl rfl (by rfl) ent33 (by rfl) (Hof.out _) 2 rfl ?_
  rintro e uw1 ⟨rfl, hb⟩
  replace M0 := Lib.hid (M0.out.call hb)
  replace HB := Lib.hid (held_next HB.out hb)
  refine ⟨_, rfl, ?_⟩
  clear hb
  (try simp only [Act.put, sI, sS, sZ])
  first | (obtain ⟨Zq, hZ, mZ⟩ := M0.out) | (obtain ⟨Zq, hZ, mZ⟩ := M0.out.toN (r22_size ..))
  refine wpList_store2 (by rfl) 40 _ _ rfl rfl (w.heap.size) (r22 SL) rfl rfl 40 Zq mZ (by rw [r22_size]; kernel_rfl) (hZ.trans (r22_size ..).symm) (row_one _ _ _) ?_
  intro yw2 hw2
  have kq := mZ.setRow (r22 SL); rw [← hw2] at kq; clear M0; have M0 := Lib.hid kq; clear kq mZ hZ
  have kq := below_setRow HB.out (w.heap.size) (r22 SL) (by omega); rw [← hw2] at kq; clear HB; have HB := Lib.hid kq; clear kq hw2
  refine wpList_nil ?_
  go_wp2_with fail
  exact bodyPost_ret (v := .agg (r22 SL)) (results_cell_row (t := 40) (by rfl) _ _ (w.heap.size) _ _ _ rfl M0.out Try.underlying40 rfl (by rw [r22_size]; kernel_rfl)) rfl ⟨rfl, HB.out⟩

set_option maxRecDepth 100000 in
set_option linter.unusedSimpArgs false in
set_option maxHeartbeats 8000000 in
theorem rorigin_any (w : World) : Calls Try.prog 88 #[] w fun e w' => e = .returned (.agg (rp 0 1 1 0)) ∧ Below w.heap.size w w' := by
  have hint := fun w => rint_nn 1 (by decide) w
  rw [one_PP] at hint
  have Hint := Lib.hid hint; clear hint
  go_enter Try.func88, Try.ntmps88
  repeat ((fail_if_success (with_reducible (show wpList _ _ _ _ _ _))); go_step)
  
  have HB := Lib.hid (Below.refl w.heap.size w)
  refine wpList_alloc (by rfl) 57 rfl _ al57 0 rfl ?_
  intro yw1 hw2
  have hsz := HB.out.size
  have kq := HasN.new w Try.zeroCells57 57 88 (by kernel_rfl); rw [← hw2] at kq; have M0 := Lib.hid kq; clear kq
  have kq := HB.out.alloc hsz (.cells Try.zeroCells57 57); rw [← hw2] at kq; clear HB; have HB := Lib.hid kq; clear kq hw2
  (try simp only [Act.put, sI, sS, sZ])
  refine wpList_nil ?_
  repeat ((fail_if_success (with_reducible (show wpList _ _ _ _ _ _))); go_step)
  refine wpList_call (by rfl) rfl rfl (by rfl) ent35 (by rfl) (Hint.out _) 2 rfl ?_
  rintro e uw1 ⟨rfl, hb⟩
  replace M0 := Lib.hid (M0.out.call hb)
  replace HB := Lib.hid (held_next HB.out hb)
  refine ⟨_, rfl, ?_⟩
  clear hb
  (try simp only [Act.put, sI, sS, sZ])
  refine wpList_alloc (by rfl) 40 rfl _ al40 1 rfl ?_
  intro yw2 hw2
  have hlt3 := M0.out.lt
  have hsz := HB.out.size
  have kq := M0.out.alloc (.cells z40 40); rw [← hw2] at kq; clear M0; have M0 := Lib.hid kq; clear kq
  have kq := HasN.new uw1 z40 40 22 (by kernel_rfl); rw [← hw2] at kq; have M1 := Lib.hid kq; clear kq
  have kq := HB.out.alloc hsz (.cells z40 40); rw [← hw2] at kq; clear HB; have HB := Lib.hid kq; clear kq hw2
  (try simp only [Act.put, sI, sS, sZ])
  first | (obtain ⟨Zq, hZ, mZ⟩ := M1.out) | (obtain ⟨Zq, hZ, mZ⟩ := M1.out.toN (r22_size ..))
  refine wpList_store2 (by rfl) 40 _ _ rfl rfl (uw1.heap.size) (r22 1) rfl rfl 40 Zq mZ (by rw [r22_size]; kernel_rfl) (hZ.trans (r22_size ..).symm) (row_one _ _ _) ?_
  intro yw4 hw2
  have kq := M0.out.setRow_other (uw1.heap.size) (r22 1) (by omega); rw [← hw2] at kq; clear M0; have M0 := Lib.hid kq; clear kq
  have kq := mZ.setRow (r22 1); rw [← hw2] at kq; clear M1; have M1 := Lib.hid kq; clear kq mZ hZ
  have kq := below_setRow HB.out (uw1.heap.size) (r22 1) (by omega); rw [← hw2] at kq; clear HB; have HB := Lib.hid kq; clear kq hw2
  refine wpList_nil ?_
  repeat ((fail_if_success (with_reducible (show wpList _ _ _ _ _ _))); go_step)
  refine wpList_load (by rfl) 40 _ rfl (uw1.heap.size) rfl 40 (r22 1) M1.out Try.underlying40 rfl (by rw [r22_size]; kernel_rfl) 3 rfl ?_
  (try simp only [Act.put, sI, sS, sZ])
  refine wpList_load (by rfl) 40 _ rfl (uw1.heap.size) rfl 40 (r22 1) M1.out Try.underlying40 rfl (by rw [r22_size]; kernel_rfl) 4 rfl ?_
  (try simp only [Act.put, sI, sS, sZ])
  refine wpList_built (by rfl) 57 _ rfl _ (by rfl) (rp 0 1 1 0) (bd57o 1 1) 5 rfl ?_
  (try simp only [Act.put, sI, sS, sZ])
  first | (obtain ⟨Zq, hZ, mZ⟩ := M0.out) | (obtain ⟨Zq, hZ, mZ⟩ := M0.out.toN (rp_size ..))
  refine wpList_store2 (by rfl) 57 _ _ rfl rfl (w.heap.size) (rp 0 1 1 0) rfl rfl 57 Zq mZ (by rw [rp_size]; kernel_rfl) (hZ.trans (rp_size ..).symm) (rp_one _ _ _ _) ?_
  intro yw5 hw2
  have kq := M1.out.setRow_other (w.heap.size) (rp 0 1 1 0) (by omega); rw [← hw2] at kq; clear M1; have M1 := Lib.hid kq; clear kq
  have kq := mZ.setRow (rp 0 1 1 0); rw [← hw2] at kq; clear M0; have M0 := Lib.hid kq; clear kq mZ hZ
  have kq := below_setRow HB.out (w.heap.size) (rp 0 1 1 0) (by omega); rw [← hw2] at kq; clear HB; have HB := Lib.hid kq; clear kq hw2
  refine wpList_nil ?_
  go_wp2_with fail
  exact bodyPost_ret (v := .agg (rp 0 1 1 0)) (results_cell_row (t := 57) (by rfl) _ _ (w.heap.size) _ _ _ rfl M0.out Try.underlying57 rfl (by rw [rp_size]; kernel_rfl)) rfl ⟨rfl, HB.out⟩

theorem td_128 (c : Nat) : (c : Int).tdiv 128 = ((c / 128 : Nat) : Int) := by
  rw [Int.tdiv_eq_ediv_of_nonneg (by omega)]; rfl
theorem tm_128 (c : Nat) : (c : Int).tmod 128 = ((c % 128 : Nat) : Int) := by
  rw [Int.tmod_eq_emod_of_nonneg (by omega)]; rfl

end Go.Proofs.Ytjiagjonlcadiaa
