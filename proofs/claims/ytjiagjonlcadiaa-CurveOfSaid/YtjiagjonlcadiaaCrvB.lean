/- The program's points: made, slope. -/
import Derived.Test.YtjiagjonlcadiaaCrvA
namespace Go.Proofs.Ytjiagjonlcadiaa
open Go.RowKit Go.Lib

theorem made_res (z m : Nat) (h : m % PP = (z % PP + (PP - 1 % PP)) % PP) : (m + 1) % PP = z % PP := by
  have h1 : 1 % PP = 1 := Nat.mod_eq_of_lt (by have := PP_val; omega)
  have hp : 1 < PP := by have := PP_val; omega
  rw [h1] at h
  rw [mo_add_l m _ 1 h, Nat.add_assoc, show PP - 1 + 1 = PP by omega, Nat.add_mod_right, Nat.mod_mod]

set_option maxRecDepth 100000 in
set_option linter.unusedSimpArgs false in
set_option maxHeartbeats 8000000 in
theorem made_any (x y z : Nat) (hx : x < 115792089237316195423570985008687907853269984665640564039457584007913129639936) (hy : y < 115792089237316195423570985008687907853269984665640564039457584007913129639936) (hz : z < 115792089237316195423570985008687907853269984665640564039457584007913129639936) (w : World) :
    Calls Try.prog 93 #[.agg (e4 x), .agg (e4 y), .agg (e4 z)] w (PtP (x % PP) (y % PP) (z % PP) w) := by
  have hint := fun w => fint_nn 1 (by decide) w
  have hmi := fun w => minus_any z 1 hz (by decide) w
  have Hint := Lib.hid hint; clear hint
  have Hmi := Lib.hid hmi; clear hmi
  have Hx := Lib.hid hx; clear hx
  have Hy := Lib.hid hy; clear hy
  have Hz := Lib.hid hz; clear hz
  go_enter Try.func93, Try.ntmps93
  repeat ((fail_if_success (with_reducible (show wpList _ _ _ _ _ _))); go_step)
  refine wpList_step (fun K hK => ?_)
  go_simp
  (try go_bits)
  refine hK _ _ ?_
  clear hK K
  refine wpList_step (fun K hK => ?_)
  go_simp
  (try go_bits)
  refine hK _ _ ?_
  clear hK K
  refine wpList_step (fun K hK => ?_)
  go_simp
  (try go_bits)
  refine hK _ _ ?_
  clear hK K
  refine wpList_step (fun K hK => ?_)
  go_simp
  (try go_bits)
  refine hK _ _ ?_
  clear hK K
  refine wpList_nil ?_
  have M3 := Lib.hid ((((Has.new w  (e4 x) 36).alloc (.cells (e4 y) 36)).alloc (.cells (e4 z) 36)).alloc (.cells (#[.int .u64 0, .int .u64 0, .int .u64 0, .int .u64 0, .int .u64 0, .int .u64 0, .int .u64 0, .int .u64 0, .int .u64 0, .int .u64 0, .int .u64 0, .int .u64 0, .bool false] : Array Value) 53))
  have M4 := Lib.hid (((Has.new1 w (.cells (e4 x) 36) (e4 y) 36).alloc (.cells (e4 z) 36)).alloc (.cells (#[.int .u64 0, .int .u64 0, .int .u64 0, .int .u64 0, .int .u64 0, .int .u64 0, .int .u64 0, .int .u64 0, .int .u64 0, .int .u64 0, .int .u64 0, .int .u64 0, .bool false] : Array Value) 53))
  have M5 := Lib.hid ((Has.new2 w (.cells (e4 x) 36) (.cells (e4 y) 36) (e4 z) 36).alloc (.cells (#[.int .u64 0, .int .u64 0, .int .u64 0, .int .u64 0, .int .u64 0, .int .u64 0, .int .u64 0, .int .u64 0, .int .u64 0, .int .u64 0, .int .u64 0, .int .u64 0, .bool false] : Array Value) 53))
  have M6 := Lib.hid (HasN.new3 w (.cells (e4 x) 36) (.cells (e4 y) 36) (.cells (e4 z) 36) (#[.int .u64 0, .int .u64 0, .int .u64 0, .int .u64 0, .int .u64 0, .int .u64 0, .int .u64 0, .int .u64 0, .int .u64 0, .int .u64 0, .int .u64 0, .int .u64 0, .bool false] : Array Value) 53 13 (by kernel_rfl))
  have HB := Lib.hid (below_4 w (.cells (e4 x) 36) (.cells (e4 y) 36) (.cells (e4 z) 36) (.cells (#[.int .u64 0, .int .u64 0, .int .u64 0, .int .u64 0, .int .u64 0, .int .u64 0, .int .u64 0, .int .u64 0, .int .u64 0, .int .u64 0, .int .u64 0, .int .u64 0, .bool false] : Array Value) 53))
  obtain ⟨yw1, hwyw1⟩ : ∃ ww, ww = ((((w.alloc (.cells (e4 x) 36)).alloc (.cells (e4 y) 36)).alloc (.cells (e4 z) 36)).alloc (.cells (#[.int .u64 0, .int .u64 0, .int .u64 0, .int .u64 0, .int .u64 0, .int .u64 0, .int .u64 0, .int .u64 0, .int .u64 0, .int .u64 0, .int .u64 0, .int .u64 0, .bool false] : Array Value) 53)) := ⟨_, rfl⟩
  rw [← hwyw1] at M3 M4 M5 M6 HB ⊢
  clear hwyw1
  repeat ((fail_if_success (with_reducible (show wpList _ _ _ _ _ _))); go_step)
  refine wp_region_noPanic ?_
  refine wp_region_go 6 7 #[false, false, false, false, false, false, false] (by kernel_rfl) rfl rfl ?_
  intro W2 hW2
  have kq := M3.out; rw [← hW2] at kq; clear M3; have M3 := Lib.hid kq; clear kq
  have kq := M4.out; rw [← hW2] at kq; clear M4; have M4 := Lib.hid kq; clear kq
  have kq := M5.out; rw [← hW2] at kq; clear M5; have M5 := Lib.hid kq; clear kq
  have kq := M6.out; rw [← hW2] at kq; clear M6; have M6 := Lib.hid kq; clear kq
  have kq := HB.out; rw [← hW2] at kq; clear HB; have HB := Lib.hid kq; clear kq
  clear hW2
  have M6N := Lib.hid (by first | exact M6.out | exact M6.out.toN (by first | exact e4_size _ | exact r22_size _ | exact k32_size _ | exact pt_size .. | exact rp_size ..) : HasN W2 (w.heap.size + 1 + 1 + 1) _ _)
  refine go_take2 0 7 #[true, false, false, false, false, false, false] rfl rfl rfl (by kernel_rfl) (yieldsIf_load_row (by rfl) 36 _ rfl (w.heap.size) rfl 36 (e4 x) (fun _ h => M3.out.below h M3.out.lt) Try.underlying36 rfl (by rw [e4_size]; kernel_rfl)) ((below_dr W2)) ?_
  (try simp only [sI, sS, sZ])
  refine go_take2 1 8 #[true, true, false, false, false, false, false] rfl rfl rfl (by kernel_rfl) (yieldsIf_load_row (by rfl) 36 _ rfl (w.heap.size + 1) rfl 36 (e4 y) (fun _ h => M4.out.below h M4.out.lt) Try.underlying36 rfl (by rw [e4_size]; kernel_rfl)) ((below_dr W2)) ?_
  (try simp only [sI, sS, sZ])
  refine go_take2 2 9 #[true, true, true, false, false, false, false] rfl rfl rfl (by kernel_rfl) (yieldsIf_load_row (by rfl) 36 _ rfl (w.heap.size + 1 + 1) rfl 36 (e4 z) (fun _ h => M5.out.below h M5.out.lt) Try.underlying36 rfl (by rw [e4_size]; kernel_rfl)) ((below_dr W2)) ?_
  (try simp only [sI, sS, sZ])
  refine wpBut_r1 (i := 3) (by kernel_rfl) ?_
  refine go_call 3 10 #[true, true, true, true, false, false, false] rfl rfl rfl (by rfl) rfl rfl (by rfl) ent34 (by rfl) (Hint.out _) ?_
  rintro e wW21 ⟨rfl, hb⟩
  have hkW21 := held_next (below_dr W2) hb
  refine ⟨_, rfl, fun _ => hkW21, ?_⟩
  clear hb
  (try simp only [sI, sS, sZ])
  refine wpBut_r1 (i := 4) (by kernel_rfl) ?_
  refine go_call 4 11 #[true, true, true, true, true, false, false] rfl rfl rfl (by rfl) rfl rfl (by rfl) ent39 (by rfl) (Hmi.out _) ?_
  rintro e wW22 ⟨m, hm, hmr, rfl, hb⟩
  have hkW22 := held_next hkW21 hb
  refine ⟨_, rfl, fun _ => hkW22, ?_⟩
  clear hb
  (try simp only [sI, sS, sZ])
  refine go_take2 5 12 #[true, true, true, true, true, true, false] rfl rfl rfl (by kernel_rfl) (yieldsIf_build (by rfl) 53 _ rfl _ (by rfl) (pt x y m true) (bd53 x y m true)) (hkW22) ?_
  (try simp only [sI, sS, sZ])
  refine wpBut_r1 (i := 6) (by kernel_rfl) ?_
  obtain ⟨Zq, hZ, mZ⟩ := M6N.out.below hkW22 M6N.out.lt
  have MZ := Lib.hid mZ; clear mZ
  have HZ := Lib.hid hZ; clear hZ
  refine go_store 6 #[true, true, true, true, true, true, true] rfl rfl rfl (by rfl) 53 _ _ rfl (w.heap.size + 1 + 1 + 1) _ rfl rfl 53 Zq MZ.out (by rw [pt_size]; kernel_rfl) (HZ.out.trans (pt_size ..).symm) (pt_one _ _ _ _) ⟨fun h => (h rfl).elim, ?_⟩
  (try simp only [sI, sS, sZ])
  refine wpBut_done (by kernel_rfl) (NoPanic.normal ?_)
  replace M3 := Lib.hid ((M3.out.call hkW22).setRow_other (w.heap.size + 1 + 1 + 1) (pt x y m true) (by omega))
  replace M4 := Lib.hid ((M4.out.call hkW22).setRow_other (w.heap.size + 1 + 1 + 1) (pt x y m true) (by omega))
  replace M5 := Lib.hid ((M5.out.call hkW22).setRow_other (w.heap.size + 1 + 1 + 1) (pt x y m true) (by omega))
  clear M6 M6N
  have M6 := Lib.hid (MZ.out.setRow (pt x y m true)); clear MZ HZ
  replace HB := Lib.hid (below_setRow (held_next HB.out hkW22) (w.heap.size + 1 + 1 + 1) (pt x y m true) (by omega))
  obtain ⟨yw3, hwyw3⟩ : ∃ ww, ww = wW22.setRow (w.heap.size + 1 + 1 + 1) (pt x y m true) := ⟨_, rfl⟩
  rw [← hwyw3] at M3 M4 M5 M6 HB ⊢
  clear hwyw3
  go_wp2_with fail
  exact bodyPost_ret (v := .agg (pt x y m true)) (results_cell_row (t := 53) (by rfl) _ _ (w.heap.size + 1 + 1 + 1) _ _ _ rfl M6.out Try.underlying53 rfl (by rw [pt_size]; kernel_rfl)) rfl ⟨x, y, m, true, ⟨⟨Hx.out, Hy.out, hm⟩, .inl ⟨rfl, rfl, rfl, made_res z m hmr⟩⟩, rfl, HB.out⟩

/-- the curve's d -/
def SL : Nat := 37095705934669439343138083508754565189542113879843219016388785533085940283555
theorem SL_lt : SL < PP := by decide +kernel
theorem slope_pm : (PP - 121665) * Nm.pm PP 256 121666 (PP - 2) % PP = SL := by decide +kernel
theorem pp2_lt : PP - 2 < 2 ^ 256 := by decide +kernel
theorem slope_res (m1 m : Nat) (h1 : m1 % PP = PP - 121665) (h : m % PP = m1 * pwm 121666 (PP - 2) % PP) : m % PP = SL := by
  rw [h, mo_mul_l m1 (PP - 121665) _ (by rw [h1, Nat.mod_eq_of_lt (by have := PP_val; omega)]), pwm_pm _ _ pp2_lt, slope_pm]

set_option maxRecDepth 100000 in
set_option linter.unusedSimpArgs false in
set_option maxHeartbeats 8000000 in
theorem slope_any (w : World) : Calls Try.prog 91 #[] w (ElP SL w) := by
  have hneg := fun w => fint_neg (-121665) (by omega) (by omega) w
  rw [show ((-121665) % (PP : Int)).toNat = PP - 121665 by decide +kernel] at hneg
  have hint := fun w => fint_nn 121666 (by decide) w
  have hov := fun x hx w => over_any x 121666 hx (by decide) w
  have hres := slope_res
  have Hint := Lib.hid hint; clear hint
  have Hneg := Lib.hid hneg; clear hneg
  have Hov := Lib.hid hov; clear hov
  have Hres := Lib.hid hres; clear hres
  go_enter Try.func91, Try.ntmps91
  repeat ((fail_if_success (with_reducible (show wpList _ _ _ _ _ _))); go_step)
  refine wpList_step (fun K hK => ?_)
  go_simp
  (try go_bits)
  refine hK _ _ ?_
  clear hK K
  refine wpList_nil ?_
  have M0 := Lib.hid (HasN.new w  (#[.int .u64 0, .int .u64 0, .int .u64 0, .int .u64 0] : Array Value) 36 4 (by kernel_rfl))
  have HB := Lib.hid (below_1 w (.cells (#[.int .u64 0, .int .u64 0, .int .u64 0, .int .u64 0] : Array Value) 36))
  obtain ⟨yw1, hwyw1⟩ : ∃ ww, ww = (w.alloc (.cells (#[.int .u64 0, .int .u64 0, .int .u64 0, .int .u64 0] : Array Value) 36)) := ⟨_, rfl⟩
  rw [← hwyw1] at M0 HB ⊢
  clear hwyw1
  repeat ((fail_if_success (with_reducible (show wpList _ _ _ _ _ _))); go_step)
  refine wpList_call (by rfl) rfl rfl (by rfl) ent34 (by rfl) (Hneg.out _) 1 rfl ?_
  rintro e uw1 ⟨m1, hm1, hm1r, rfl, hb⟩
  replace M0 := Lib.hid (M0.out.call hb)
  replace HB := Lib.hid (held_next HB.out hb)
  refine ⟨_, rfl, ?_⟩
  clear hb
  (try simp only [Act.put, sI, sS, sZ])
  refine wpList_call (by rfl) rfl rfl (by rfl) ent34 (by rfl) (Hint.out _) 2 rfl ?_
  rintro e uw2 ⟨rfl, hb⟩
  replace M0 := Lib.hid (M0.out.call hb)
  replace HB := Lib.hid (held_next HB.out hb)
  refine ⟨_, rfl, ?_⟩
  clear hb
  (try simp only [Act.put, sI, sS, sZ])
  refine wpList_call (by rfl) rfl rfl (by rfl) ent42 (by rfl) (Hov.out m1 hm1 _) 3 rfl ?_
  rintro e uw3 ⟨m, hm, hmr, rfl, hb⟩
  replace M0 := Lib.hid (M0.out.call hb)
  replace HB := Lib.hid (held_next HB.out hb)
  refine ⟨_, rfl, ?_⟩
  clear hb
  (try simp only [Act.put, sI, sS, sZ])
  first | (obtain ⟨Zq, hZ, mZ⟩ := M0.out) | (obtain ⟨Zq, hZ, mZ⟩ := M0.out.toN (e4_size ..))
  refine wpList_store2 (by rfl) 36 _ _ rfl rfl (w.heap.size) (e4 m) rfl rfl 36 Zq mZ (by rw [e4_size]; kernel_rfl) (hZ.trans (e4_size ..).symm) (row_one _ _ _) ?_
  intro yw2 hw2
  have kq := mZ.setRow (e4 m); rw [← hw2] at kq; clear M0; have M0 := Lib.hid kq; clear kq mZ hZ
  have kq := below_setRow HB.out (w.heap.size) (e4 m) (by omega); rw [← hw2] at kq; clear HB; have HB := Lib.hid kq; clear kq hw2
  refine wpList_nil ?_
  have hfin := Hres.out m1 m hm1r hmr
  go_wp2_with fail
  exact bodyPost_ret (v := .agg (e4 m)) (results_cell_row (t := 36) (by rfl) _ _ (w.heap.size) _ _ _ rfl M0.out Try.underlying36 rfl (by rw [e4_size]; kernel_rfl)) rfl ⟨m, hm, hfin, rfl, HB.out⟩
end Go.Proofs.Ytjiagjonlcadiaa
