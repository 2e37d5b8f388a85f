/- For every row of bytes and every number the law AuditNone returns true, and the bytes read as they did; no condition. -/
import Derived.Test.YtbgefoamhdgnaaaGreatDoorGa4
set_option maxRecDepth 100000
set_option maxHeartbeats 16000000
set_option linter.unusedVariables false
set_option linter.unusedSimpArgs false
namespace Go.Proofs.YtbgefoamhdgnaaaGreatDoor
section
open Go.RowKit Go.Lib
theorem made_res (z m : Nat) (h : m % PP = (z % PP + (PP - 1 % PP)) % PP) : (m + 1) % PP = z % PP := by
 have h1 : 1 % PP = 1 := Nat.mod_eq_of_lt (by have := QF; omega)
 have hp : 1 < PP := by have := QF; omega
 rw [h1] at h
 rw [mo_add_l m _ 1 h, Nat.add_assoc, show PP - 1 + 1 = PP by omega, Nat.add_mod_right, Nat.mod_mod]
theorem made_any (x y z : Nat) (hx : x < 115792089237316195423570985008687907853269984665640564039457584007913129639936) (hy : y < 115792089237316195423570985008687907853269984665640564039457584007913129639936) (hz : z < 115792089237316195423570985008687907853269984665640564039457584007913129639936) (w : World) :
 Calls Tryz.prog 173 #[.agg (e4 x), .agg (e4 y), .agg (e4 z)] w (PtP (x % PP) (y % PP) (z % PP) w) := by
 have hint := fun w => ZL 1 (by decide) w
 have hmi := fun w => zq z 1 hz (by decide) w
 have Hint := Lib.hid hint; clear hint
 have Hmi := Lib.hid hmi; clear hmi
 have Hx := Lib.hid hx; clear hx
 have Hy := Lib.hid hy; clear hy
 have Hz := Lib.hid hz; clear hz
 go_enter Tryz.func173, Tryz.ntmps173
 repeat ((fail_if_success (with_reducible (show wpList _ _ _ _ _ _))); go_step)
 iterate 4 (refine wpList_step (fun K hK => ?_); go_simp; (try go_bits); refine hK _ _ ?_; clear hK K)
 refine wpList_nil ?_
 have M3 := Lib.hid ((((Has.new w  (e4 x) 180).alloc (.cells (e4 y) 180)).alloc (.cells (e4 z) 180)).alloc (.cells (#[.int .u64 0, .int .u64 0, .int .u64 0, .int .u64 0, .int .u64 0, .int .u64 0, .int .u64 0, .int .u64 0, .int .u64 0, .int .u64 0, .int .u64 0, .int .u64 0, .bool false] : Array Value) 182))
 have M4 := Lib.hid (((Has.new1 w (.cells (e4 x) 180) (e4 y) 180).alloc (.cells (e4 z) 180)).alloc (.cells (#[.int .u64 0, .int .u64 0, .int .u64 0, .int .u64 0, .int .u64 0, .int .u64 0, .int .u64 0, .int .u64 0, .int .u64 0, .int .u64 0, .int .u64 0, .int .u64 0, .bool false] : Array Value) 182))
 have M5 := Lib.hid ((Has.new2 w (.cells (e4 x) 180) (.cells (e4 y) 180) (e4 z) 180).alloc (.cells (#[.int .u64 0, .int .u64 0, .int .u64 0, .int .u64 0, .int .u64 0, .int .u64 0, .int .u64 0, .int .u64 0, .int .u64 0, .int .u64 0, .int .u64 0, .int .u64 0, .bool false] : Array Value) 182))
 have M6 := Lib.hid (HasN.new3 w (.cells (e4 x) 180) (.cells (e4 y) 180) (.cells (e4 z) 180) (#[.int .u64 0, .int .u64 0, .int .u64 0, .int .u64 0, .int .u64 0, .int .u64 0, .int .u64 0, .int .u64 0, .int .u64 0, .int .u64 0, .int .u64 0, .int .u64 0, .bool false] : Array Value) 182 13 (by kernel_rfl))
 have HB := Lib.hid (qbn w (.cells (e4 x) 180) (.cells (e4 y) 180) (.cells (e4 z) 180) (.cells (#[.int .u64 0, .int .u64 0, .int .u64 0, .int .u64 0, .int .u64 0, .int .u64 0, .int .u64 0, .int .u64 0, .int .u64 0, .int .u64 0, .int .u64 0, .int .u64 0, .bool false] : Array Value) 182))
 obtain ⟨yw1, hwyw1⟩ : ∃ ww, ww = ((((w.alloc (.cells (e4 x) 180)).alloc (.cells (e4 y) 180)).alloc (.cells (e4 z) 180)).alloc (.cells (#[.int .u64 0, .int .u64 0, .int .u64 0, .int .u64 0, .int .u64 0, .int .u64 0, .int .u64 0, .int .u64 0, .int .u64 0, .int .u64 0, .int .u64 0, .int .u64 0, .bool false] : Array Value) 182)) := ⟨_, rfl⟩
 rw [← hwyw1] at M3 M4 M5 M6 HB ⊢
 clear hwyw1
 repeat ((fail_if_success (with_reducible (show wpList _ _ _ _ _ _))); go_step)
 refine wp_region_noPanic ?_
 refine Qu 6 7 #[ff,ff,ff,ff,ff,ff,ff] (by kernel_rfl) rfl rfl ?_
 intro W2 hW2
 rw [← hW2] at M3 M4 M5 M6 HB
 clear hW2
 have M6N := Lib.hid (by first | exact M6.out | exact M6.out.toN (by first | exact qd _ | exact qh _ | exact qg _ | exact qn .. | exact qL ..) : HasN W2 (w.heap.size + 1 + 1 + 1) _ _)
 refine qi 0 7 #[tt,ff,ff,ff,ff,ff,ff] rfl rfl rfl (by kernel_rfl) (qj (by rfl) 180 _ rfl (w.heap.size) rfl 180 (e4 x) (fun _ h => M3.out.below h M3.out.lt) Tryz.underlying180 rfl (by rw [qd]; kernel_rfl)) ((qF W2)) ?_
 (try simp only [sI, sS, sZ])
 refine qi 1 8 #[tt,tt,ff,ff,ff,ff,ff] rfl rfl rfl (by kernel_rfl) (qj (by rfl) 180 _ rfl (w.heap.size + 1) rfl 180 (e4 y) (fun _ h => M4.out.below h M4.out.lt) Tryz.underlying180 rfl (by rw [qd]; kernel_rfl)) ((qF W2)) ?_
 (try simp only [sI, sS, sZ])
 refine qi 2 9 #[tt,tt,tt,ff,ff,ff,ff] rfl rfl rfl (by kernel_rfl) (qj (by rfl) 180 _ rfl (w.heap.size + 1 + 1) rfl 180 (e4 z) (fun _ h => M5.out.below h M5.out.lt) Tryz.underlying180 rfl (by rw [qd]; kernel_rfl)) ((qF W2)) ?_
 (try simp only [sI, sS, sZ])
 refine qq (i := 3) (by kernel_rfl) ?_
 refine qM 3 10 #[tt,tt,tt,tt,ff,ff,ff] rfl rfl rfl (by rfl) rfl rfl (by rfl) qbJ (by rfl) (Hint.out _) ?_
 rintro e wW21 ⟨rfl, hb⟩
 have hkW21 := qf (qF W2) hb
 refine ⟨_, rfl, fun _ => hkW21, ?_⟩
 clear hb
 (try simp only [sI, sS, sZ])
 refine qq (i := 4) (by kernel_rfl) ?_
 refine qM 4 11 #[tt,tt,tt,tt,tt,ff,ff] rfl rfl rfl (by rfl) rfl rfl (by rfl) ent174 (by rfl) (Hmi.out _) ?_
 rintro e wW22 ⟨m, hm, hmr, rfl, hb⟩
 have hkW22 := qf hkW21 hb
 refine ⟨_, rfl, fun _ => hkW22, ?_⟩
 clear hb
 (try simp only [sI, sS, sZ])
 refine qi 5 12 #[tt,tt,tt,tt,tt,tt,ff] rfl rfl rfl (by kernel_rfl) (zf (by rfl) 182 _ rfl _ (by rfl) (pt x y m true) (bd53 x y m true)) (hkW22) ?_
 (try simp only [sI, sS, sZ])
 refine qq (i := 6) (by kernel_rfl) ?_
 obtain ⟨Zq, hZ, mZ⟩ := M6N.out.below hkW22 M6N.out.lt
 have MZ := Lib.hid mZ; clear mZ
 have HZ := Lib.hid hZ; clear hZ
 refine qac 6 #[tt,tt,tt,tt,tt,tt,tt] rfl rfl rfl (by rfl) 182 _ _ rfl (w.heap.size + 1 + 1 + 1) _ rfl rfl 182 Zq MZ.out (by rw [qn]; kernel_rfl) (HZ.out.trans (qn ..).symm) (Qx _ _ _ _) ⟨fun h => (h rfl).elim, ?_⟩
 (try simp only [sI, sS, sZ])
 refine qD (by kernel_rfl) (NoPanic.normal ?_)
 replace M3 := Lib.hid ((M3.out.call hkW22).setRow_other (w.heap.size + 1 + 1 + 1) (pt x y m true) (by omega))
 replace M4 := Lib.hid ((M4.out.call hkW22).setRow_other (w.heap.size + 1 + 1 + 1) (pt x y m true) (by omega))
 replace M5 := Lib.hid ((M5.out.call hkW22).setRow_other (w.heap.size + 1 + 1 + 1) (pt x y m true) (by omega))
 clear M6 M6N
 have M6 := Lib.hid (MZ.out.setRow (pt x y m true)); clear MZ HZ
 replace HB := Lib.hid (below_setRow (qf HB.out hkW22) (w.heap.size + 1 + 1 + 1) (pt x y m true) (by omega))
 obtain ⟨yw3, hwyw3⟩ : ∃ ww, ww = wW22.setRow (w.heap.size + 1 + 1 + 1) (pt x y m true) := ⟨_, rfl⟩
 rw [← hwyw3] at M3 M4 M5 M6 HB ⊢
 clear hwyw3
 go_wp2_with fail
 exact bodyPost_ret (v := .agg (pt x y m true)) (results_cell_row (t := 182) (by rfl) _ _ (w.heap.size + 1 + 1 + 1) _ _ _ rfl M6.out Tryz.underlying182 rfl (by rw [qn]; kernel_rfl)) rfl ⟨x, y, m, true, ⟨⟨Hx.out, Hy.out, hm⟩, .inl ⟨rfl, rfl, rfl, made_res z m hmr⟩⟩, rfl, HB.out⟩
def SL : Nat := 37095705934669439343138083508754565189542113879843219016388785533085940283555
theorem SL_lt : SL < PP := by decide +kernel
theorem slope_pm : (PP - 121665) * Nm.pm PP 256 121666 (PP - 2) % PP = SL := by decide +kernel
theorem pp2_lt : PP - 2 < 2 ^ 256 := by decide +kernel
theorem slope_res (m1 m : Nat) (h1 : m1 % PP = PP - 121665) (h : m % PP = m1 * pwm 121666 (PP - 2) % PP) : m % PP = SL := by
 rw [h, mo_mul_l m1 (PP - 121665) _ (by rw [h1, Nat.mod_eq_of_lt (by have := QF; omega)]), qcC _ _ pp2_lt, slope_pm]
theorem qbu (w : World) : Calls Tryz.prog 168 #[] w (ElP SL w) := by
 have hneg := fun w => fint_neg (-121665) (by omega) (by omega) w
 rw [show ((-121665) % (PP : Int)).toNat = PP - 121665 by decide +kernel] at hneg
 have hint := fun w => ZL 121666 (by decide) w
 have hov := fun x hx w => qa2 x 121666 hx (by decide) w
 have hres := slope_res
 have Hint := Lib.hid hint; clear hint
 have Hneg := Lib.hid hneg; clear hneg
 have Hov := Lib.hid hov; clear hov
 have Hres := Lib.hid hres; clear hres
 go_enter Tryz.func168, Tryz.ntmps168
 repeat ((fail_if_success (with_reducible (show wpList _ _ _ _ _ _))); go_step)
 (refine wpList_step (fun K hK => ?_); go_simp; (try go_bits); refine hK _ _ ?_; clear hK K)
 refine wpList_nil ?_
 have M0 := Lib.hid (HasN.new w  (#[.int .u64 0, .int .u64 0, .int .u64 0, .int .u64 0] : Array Value) 180 4 (by kernel_rfl))
 have HB := Lib.hid (q8 w (.cells (#[.int .u64 0, .int .u64 0, .int .u64 0, .int .u64 0] : Array Value) 180))
 obtain ⟨yw1, hwyw1⟩ : ∃ ww, ww = (w.alloc (.cells (#[.int .u64 0, .int .u64 0, .int .u64 0, .int .u64 0] : Array Value) 180)) := ⟨_, rfl⟩
 rw [← hwyw1] at M0 HB ⊢
 clear hwyw1
 repeat ((fail_if_success (with_reducible (show wpList _ _ _ _ _ _))); go_step)
 refine qm (by rfl) rfl rfl (by rfl) qbJ (by rfl) (Hneg.out _) 1 rfl ?_
 rintro e uw1 ⟨m1, hm1, hm1r, rfl, hb⟩
 replace M0 := Lib.hid (M0.out.call hb)
 replace HB := Lib.hid (qf HB.out hb)
 refine ⟨_, rfl, ?_⟩
 clear hb
 (try simp only [Act.put, sI, sS, sZ])
 refine qm (by rfl) rfl rfl (by rfl) qbJ (by rfl) (Hint.out _) 2 rfl ?_
 rintro e uw2 ⟨rfl, hb⟩
 replace M0 := Lib.hid (M0.out.call hb)
 replace HB := Lib.hid (qf HB.out hb)
 refine ⟨_, rfl, ?_⟩
 clear hb
 (try simp only [Act.put, sI, sS, sZ])
 refine qm (by rfl) rfl rfl (by rfl) ent167 (by rfl) (Hov.out m1 hm1 _) 3 rfl ?_
 rintro e uw3 ⟨m, hm, hmr, rfl, hb⟩
 replace M0 := Lib.hid (M0.out.call hb)
 replace HB := Lib.hid (qf HB.out hb)
 refine ⟨_, rfl, ?_⟩
 clear hb
 (try simp only [Act.put, sI, sS, sZ])
 first | (obtain ⟨Zq, hZ, mZ⟩ := M0.out) | (obtain ⟨Zq, hZ, mZ⟩ := M0.out.toN (qd ..))
 refine ql (by rfl) 180 _ _ rfl rfl (w.heap.size) (e4 m) rfl rfl 180 Zq mZ (by rw [qd]; kernel_rfl) (hZ.trans (qd ..).symm) (qo _ _ _) ?_
 intro yw2 hw2
 replace M0 := Lib.hid (mZ.setRow (e4 m))
 replace HB := Lib.hid (below_setRow HB.out (w.heap.size) (e4 m) (by omega))
 rw [← hw2] at M0 HB; clear mZ hZ hw2
 refine wpList_nil ?_
 have hfin := Hres.out m1 m hm1r hmr
 go_wp2_with fail
 exact bodyPost_ret (v := .agg (e4 m)) (results_cell_row (t := 180) (by rfl) _ _ (w.heap.size) _ _ _ rfl M0.out Tryz.underlying180 rfl (by rw [qd]; kernel_rfl)) rfl ⟨m, hm, hfin, rfl, HB.out⟩
end
section
open Go.RowKit Go.Lib
theorem or_128 (a : Nat) (h : a < 128) : bits .or .u8 (a : Int) 128 = (a : Int) + 128 := by
 have : (List.range 128).all (fun a => bits .or .u8 (a : Int) 128 == (a : Int) + 128) = true := by decide +kernel
 simpa using List.all_eq_true.1 this a (by simpa using h)
theorem qc1 (n : Nat) (h : n < 57896044618658097711785492504343953926634992332820282019728792003956564819968) : ∃ c : Nat, dg 256 n 31 = (c : Int) ∧ c < 128 := by
 refine ⟨n / 256 ^ 31 % 256, rfl, ?_⟩
 rw [show (256 : Nat) ^ 31 = 452312848583266388373324160190187140051835877600158453279131187530910662656 by decide +kernel]
 omega
theorem key_top (n : Nat) (h : n < 57896044618658097711785492504343953926634992332820282019728792003956564819968) (x : Int) (hx : x = dg 256 n 31 + 128) : row .u8 32 (upd (dg 256 n) 31 x) = k32 (n + 57896044618658097711785492504343953926634992332820282019728792003956564819968) := by
 refine q7 _ _ _ _ fun i hi => ?_
 by_cases e : i = 31
 · subst e
   rw [qr, hx]
   unfold dg
   rw [show (256 : Nat) ^ 31 = 452312848583266388373324160190187140051835877600158453279131187530910662656 by decide +kernel]
   omega
 · rw [qt _ _ _ _ e]
   unfold dg
   have e1 : 57896044618658097711785492504343953926634992332820282019728792003956564819968 = 256 ^ i * (256 * (128 * 256 ^ (30 - i))) := by
    rw [show 256 ^ i * (256 * (128 * 256 ^ (30 - i))) = 128 * (256 ^ i * 256 ^ (30 - i) * 256) by ac_rfl, ← Nat.pow_add, show i + (30 - i) = 30 by omega]
   rw [e1, Nat.add_mul_div_left _ _ (Nat.pow_pos (by omega)), Nat.add_mul_mod_self_left]
def qdk (X Y Z : Nat) : Nat := Y * pwm Z (PP - 2) % PP + X * pwm Z (PP - 2) % PP % 2 * 57896044618658097711785492504343953926634992332820282019728792003956564819968
theorem keyn_odd (X Y Z : Nat) (h : X * pwm Z (PP - 2) % PP % 2 = 1) : Y * pwm Z (PP - 2) % PP + 57896044618658097711785492504343953926634992332820282019728792003956564819968 = qdk X Y Z := by unfold qdk; rw [h, Nat.one_mul]
theorem qdD (X Y Z : Nat) (h : X * pwm Z (PP - 2) % PP % 2 = 0) : Y * pwm Z (PP - 2) % PP = qdk X Y Z := by unfold qdk; rw [h, Nat.zero_mul, Nat.add_zero]
theorem PP_255 : PP < 57896044618658097711785492504343953926634992332820282019728792003956564819968 := by decide +kernel
theorem over_cong (x z q X Z : Nat) (hx : x % PP = X) (hz : z % PP = Z) (hq : q % PP = x * pwm z (PP - 2) % PP) : q % PP = X * pwm Z (PP - 2) % PP := by
 rw [hq, ← hx, ← hz, ZE, Nat.mod_mul_mod]
theorem pkey_any (x y z1 : Nat) (b : Bool) (X Y Z : Nat) (h : ZS x y z1 b X Y Z) (w : World) :
 Calls Tryz.prog 126 #[.agg (pt x y z1 b)] w fun e w' => e = .returned (.agg (k32 (qdk X Y Z))) ∧ Below w.heap.size w w' := by
 have hpl := fun w => qby x y z1 b X Y Z h w
 have hov := qa2
 have hkey := key_any
 have hevy := even_yes
 have hevn := even_no
 obtain ⟨QY, hQY⟩ : ∃ q, q = Y * pwm Z (PP - 2) % PP := ⟨_, rfl⟩
 obtain ⟨QX, hQX⟩ : ∃ q, q = X * pwm Z (PP - 2) % PP := ⟨_, rfl⟩
 have hQl : QY < 57896044618658097711785492504343953926634992332820282019728792003956564819968 := by rw [hQY]; exact Nat.lt_trans (Nat.mod_lt _ qG) PP_255
 have hoc := over_cong
 obtain ⟨R, hR⟩ : ∃ r, r = qdk X Y Z := ⟨_, rfl⟩
 have hodd : QX % 2 = 1 → QY + 57896044618658097711785492504343953926634992332820282019728792003956564819968 = R := by intro h; rw [hQY, hR]; rw [hQX] at h; exact keyn_odd X Y Z h
 have heven : QX % 2 = 0 → QY = R := by intro h; rw [hQY, hR]; rw [hQX] at h; exact qdD X Y Z h
 rw [← hR]
 clear hR h
 have Hpl := Lib.hid hpl; clear hpl
 have Hov := Lib.hid hov; clear hov
 have Hkey := Lib.hid hkey; clear hkey
 have Hevy := Lib.hid hevy; clear hevy
 have Hevn := Lib.hid hevn; clear hevn
 have HQY := Lib.hid hQY; clear hQY
 have HQX := Lib.hid hQX; clear hQX
 have HQl := Lib.hid hQl; clear hQl
 have Hoc := Lib.hid hoc; clear hoc
 have Hodd := Lib.hid hodd; clear hodd
 have Heven := Lib.hid heven; clear heven
 go_enter Tryz.func126, Tryz.ntmps126
 repeat ((fail_if_success (with_reducible (show wpList _ _ _ _ _ _))); go_step)
 iterate 2 (refine wpList_step (fun K hK => ?_); go_simp; (try go_bits); refine hK _ _ ?_; clear hK K)
 refine wpList_nil ?_
 have M1 := Lib.hid ((Has.new w  (pt x y z1 b) 182).alloc (.cells (#[.int .u8 0, .int .u8 0, .int .u8 0, .int .u8 0, .int .u8 0, .int .u8 0, .int .u8 0, .int .u8 0, .int .u8 0, .int .u8 0, .int .u8 0, .int .u8 0, .int .u8 0, .int .u8 0, .int .u8 0, .int .u8 0, .int .u8 0, .int .u8 0, .int .u8 0, .int .u8 0, .int .u8 0, .int .u8 0, .int .u8 0, .int .u8 0, .int .u8 0, .int .u8 0, .int .u8 0, .int .u8 0, .int .u8 0, .int .u8 0, .int .u8 0, .int .u8 0] : Array Value) 36))
 have M2 := Lib.hid (HasN.new1 w (.cells (pt x y z1 b) 182) (#[.int .u8 0, .int .u8 0, .int .u8 0, .int .u8 0, .int .u8 0, .int .u8 0, .int .u8 0, .int .u8 0, .int .u8 0, .int .u8 0, .int .u8 0, .int .u8 0, .int .u8 0, .int .u8 0, .int .u8 0, .int .u8 0, .int .u8 0, .int .u8 0, .int .u8 0, .int .u8 0, .int .u8 0, .int .u8 0, .int .u8 0, .int .u8 0, .int .u8 0, .int .u8 0, .int .u8 0, .int .u8 0, .int .u8 0, .int .u8 0, .int .u8 0, .int .u8 0] : Array Value) 36 32 (by kernel_rfl))
 have HB := Lib.hid (Qp w (.cells (pt x y z1 b) 182) (.cells (#[.int .u8 0, .int .u8 0, .int .u8 0, .int .u8 0, .int .u8 0, .int .u8 0, .int .u8 0, .int .u8 0, .int .u8 0, .int .u8 0, .int .u8 0, .int .u8 0, .int .u8 0, .int .u8 0, .int .u8 0, .int .u8 0, .int .u8 0, .int .u8 0, .int .u8 0, .int .u8 0, .int .u8 0, .int .u8 0, .int .u8 0, .int .u8 0, .int .u8 0, .int .u8 0, .int .u8 0, .int .u8 0, .int .u8 0, .int .u8 0, .int .u8 0, .int .u8 0] : Array Value) 36))
 obtain ⟨yw1, hwyw1⟩ : ∃ ww, ww = ((w.alloc (.cells (pt x y z1 b) 182)).alloc (.cells (#[.int .u8 0, .int .u8 0, .int .u8 0, .int .u8 0, .int .u8 0, .int .u8 0, .int .u8 0, .int .u8 0, .int .u8 0, .int .u8 0, .int .u8 0, .int .u8 0, .int .u8 0, .int .u8 0, .int .u8 0, .int .u8 0, .int .u8 0, .int .u8 0, .int .u8 0, .int .u8 0, .int .u8 0, .int .u8 0, .int .u8 0, .int .u8 0, .int .u8 0, .int .u8 0, .int .u8 0, .int .u8 0, .int .u8 0, .int .u8 0, .int .u8 0, .int .u8 0] : Array Value) 36)) := ⟨_, rfl⟩
 rw [← hwyw1] at M1 M2 HB ⊢
 clear hwyw1
 repeat ((fail_if_success (with_reducible (show wpList _ _ _ _ _ _))); go_step)
 refine qv (by rfl) 182 _ rfl (w.heap.size) rfl 182 (pt x y z1 b) M1.out Tryz.underlying182 rfl (by rw [qn]; kernel_rfl) 8 rfl ?_
 (try simp only [Act.put, sI, sS, sZ])
 refine qm (by rfl) rfl rfl (by rfl) ent171 (by rfl) (Hpl.out _) 9 rfl ?_
 rintro e uw1 ⟨mx, my, mz, ⟨hmx, hmy, hmz⟩, ⟨hrx, hry, hrz⟩, rfl, hb⟩
 replace M1 := Lib.hid (M1.out.call hb)
 replace M2 := Lib.hid (M2.out.call hb)
 replace HB := Lib.hid (qf HB.out hb)
 refine ⟨_, rfl, ?_⟩
 clear hb
 (try simp only [Act.put, sI, sS, sZ])
 iterate 4 (refine wpList_step (fun K hK => ?_); go_simp; (try go_bits); refine hK _ _ ?_; clear hK K)
 refine qE (by rfl) 180 rfl _ qb5 3 rfl ?_
 intro yw2 hw2
 have hlt3 := M1.out.lt
 have hlt4 := M2.out.lt
 have hsz := HB.out.size
 replace M1 := Lib.hid (M1.out.alloc (.cells z36 180))
 replace M2 := Lib.hid (M2.out.alloc (.cells z36 180))
 have M3 := Lib.hid (HasN.new uw1 z36 180 4 (by kernel_rfl))
 replace HB := Lib.hid (HB.out.alloc hsz (.cells z36 180))
 rw [← hw2] at M1 M2 M3 HB; clear hw2
 (try simp only [Act.put, sI, sS, sZ])
 refine qE (by rfl) 180 rfl _ qb5 4 rfl ?_
 intro yw5 hw2
 have hlt6 := M1.out.lt
 have hlt7 := M2.out.lt
 have hlt8 := M3.out.lt
 have hsz := HB.out.size
 replace M1 := Lib.hid (M1.out.alloc (.cells z36 180))
 replace M2 := Lib.hid (M2.out.alloc (.cells z36 180))
 replace M3 := Lib.hid (M3.out.alloc (.cells z36 180))
 have M4 := Lib.hid (HasN.new yw2 z36 180 4 (by kernel_rfl))
 replace HB := Lib.hid (HB.out.alloc hsz (.cells z36 180))
 rw [← hw2] at M1 M2 M3 M4 HB; clear hw2
 (try simp only [Act.put, sI, sS, sZ])
 refine qE (by rfl) 180 rfl _ qb5 5 rfl ?_
 intro yw9 hw2
 have hlt10 := M1.out.lt
 have hlt11 := M2.out.lt
 have hlt12 := M3.out.lt
 have hlt13 := M4.out.lt
 have hsz := HB.out.size
 replace M1 := Lib.hid (M1.out.alloc (.cells z36 180))
 replace M2 := Lib.hid (M2.out.alloc (.cells z36 180))
 replace M3 := Lib.hid (M3.out.alloc (.cells z36 180))
 replace M4 := Lib.hid (M4.out.alloc (.cells z36 180))
 have M5 := Lib.hid (HasN.new yw5 z36 180 4 (by kernel_rfl))
 replace HB := Lib.hid (HB.out.alloc hsz (.cells z36 180))
 rw [← hw2] at M1 M2 M3 M4 M5 HB; clear hw2
 (try simp only [Act.put, sI, sS, sZ])
 first | (obtain ⟨Zq, hZ, mZ⟩ := M3.out) | (obtain ⟨Zq, hZ, mZ⟩ := M3.out.toN (qd ..))
 refine ql (by rfl) 180 _ _ rfl rfl (uw1.heap.size) (e4 mx) rfl rfl 180 Zq mZ (by rw [qd]; kernel_rfl) (hZ.trans (qd ..).symm) (qo _ _ _) ?_
 intro yw14 hw2
 replace M1 := Lib.hid (M1.out.setRow_other (uw1.heap.size) (e4 mx) (by omega))
 replace M2 := Lib.hid (M2.out.setRow_other (uw1.heap.size) (e4 mx) (by omega))
 replace M4 := Lib.hid (M4.out.setRow_other (uw1.heap.size) (e4 mx) (by omega))
 replace M5 := Lib.hid (M5.out.setRow_other (uw1.heap.size) (e4 mx) (by omega))
 replace M3 := Lib.hid (mZ.setRow (e4 mx))
 replace HB := Lib.hid (below_setRow HB.out (uw1.heap.size) (e4 mx) (by omega))
 rw [← hw2] at M1 M2 M4 M5 M3 HB; clear mZ hZ hw2
 first | (obtain ⟨Zq, hZ, mZ⟩ := M4.out) | (obtain ⟨Zq, hZ, mZ⟩ := M4.out.toN (qd ..))
 refine ql (by rfl) 180 _ _ rfl rfl (yw2.heap.size) (e4 my) rfl rfl 180 Zq mZ (by rw [qd]; kernel_rfl) (hZ.trans (qd ..).symm) (qo _ _ _) ?_
 intro yw15 hw2
 replace M1 := Lib.hid (M1.out.setRow_other (yw2.heap.size) (e4 my) (by omega))
 replace M2 := Lib.hid (M2.out.setRow_other (yw2.heap.size) (e4 my) (by omega))
 replace M3 := Lib.hid (M3.out.setRow_other (yw2.heap.size) (e4 my) (by omega))
 replace M5 := Lib.hid (M5.out.setRow_other (yw2.heap.size) (e4 my) (by omega))
 replace M4 := Lib.hid (mZ.setRow (e4 my))
 replace HB := Lib.hid (below_setRow HB.out (yw2.heap.size) (e4 my) (by omega))
 rw [← hw2] at M1 M2 M3 M5 M4 HB; clear mZ hZ hw2
 first | (obtain ⟨Zq, hZ, mZ⟩ := M5.out) | (obtain ⟨Zq, hZ, mZ⟩ := M5.out.toN (qd ..))
 refine ql (by rfl) 180 _ _ rfl rfl (yw5.heap.size) (e4 mz) rfl rfl 180 Zq mZ (by rw [qd]; kernel_rfl) (hZ.trans (qd ..).symm) (qo _ _ _) ?_
 intro yw16 hw2
 replace M1 := Lib.hid (M1.out.setRow_other (yw5.heap.size) (e4 mz) (by omega))
 replace M2 := Lib.hid (M2.out.setRow_other (yw5.heap.size) (e4 mz) (by omega))
 replace M3 := Lib.hid (M3.out.setRow_other (yw5.heap.size) (e4 mz) (by omega))
 replace M4 := Lib.hid (M4.out.setRow_other (yw5.heap.size) (e4 mz) (by omega))
 replace M5 := Lib.hid (mZ.setRow (e4 mz))
 replace HB := Lib.hid (below_setRow HB.out (yw5.heap.size) (e4 mz) (by omega))
 rw [← hw2] at M1 M2 M3 M4 M5 HB; clear mZ hZ hw2
 refine wpList_nil ?_
 have Hrx := Lib.hid hrx; clear hrx
 have Hry := Lib.hid hry; clear hry
 have Hrz := Lib.hid hrz; clear hrz
 repeat ((fail_if_success (with_reducible (show wpList _ _ _ _ _ _))); go_step)
 refine qv (by rfl) 180 _ rfl (yw2.heap.size) rfl 180 (e4 my) M4.out Tryz.underlying180 rfl (by rw [qd]; kernel_rfl) 13 rfl ?_
 (try simp only [Act.put, sI, sS, sZ])
 refine qv (by rfl) 180 _ rfl (yw5.heap.size) rfl 180 (e4 mz) M5.out Tryz.underlying180 rfl (by rw [qd]; kernel_rfl) 14 rfl ?_
 (try simp only [Act.put, sI, sS, sZ])
 refine qm (by rfl) rfl rfl (by rfl) ent167 (by rfl) (Hov.out my mz hmy hmz _) 15 rfl ?_
 rintro e uw2 ⟨q1, hq1, hq1r, rfl, hb⟩
 replace M1 := Lib.hid (M1.out.call hb)
 replace M2 := Lib.hid (M2.out.call hb)
 replace M3 := Lib.hid (M3.out.call hb)
 replace M4 := Lib.hid (M4.out.call hb)
 replace M5 := Lib.hid (M5.out.call hb)
 replace HB := Lib.hid (qf HB.out hb)
 have hq1s := (Hoc.out my mz q1 Y Z Hry.out Hrz.out hq1r).trans HQY.out.symm
 clear hq1r
 have Hq1 := Lib.hid hq1s; clear hq1s
 refine ⟨_, rfl, ?_⟩
 clear hb
 (try simp only [Act.put, sI, sS, sZ])
 refine qm (by rfl) rfl rfl (by rfl) ent160 (by rfl) (Hkey.out q1 hq1 _) 16 rfl ?_
 rintro e uw3 ⟨rfl, hb⟩
 replace M1 := Lib.hid (M1.out.call hb)
 replace M2 := Lib.hid (M2.out.call hb)
 replace M3 := Lib.hid (M3.out.call hb)
 replace M4 := Lib.hid (M4.out.call hb)
 replace M5 := Lib.hid (M5.out.call hb)
 replace HB := Lib.hid (qf HB.out hb)
 rw [Hq1.out]
 refine ⟨_, rfl, ?_⟩
 clear hb
 (try simp only [Act.put, sI, sS, sZ])
 refine qE (by rfl) 36 rfl _ al24 6 rfl ?_
 intro yw17 hw2
 have hlt18 := M1.out.lt
 have hlt19 := M2.out.lt
 have hlt20 := M3.out.lt
 have hlt21 := M4.out.lt
 have hlt22 := M5.out.lt
 have hsz := HB.out.size
 replace M1 := Lib.hid (M1.out.alloc (.cells z24 36))
 replace M2 := Lib.hid (M2.out.alloc (.cells z24 36))
 replace M3 := Lib.hid (M3.out.alloc (.cells z24 36))
 replace M4 := Lib.hid (M4.out.alloc (.cells z24 36))
 replace M5 := Lib.hid (M5.out.alloc (.cells z24 36))
 have M6 := Lib.hid (HasN.new uw3 z24 36 32 (by kernel_rfl))
 replace HB := Lib.hid (HB.out.alloc hsz (.cells z24 36))
 rw [← hw2] at M1 M2 M3 M4 M5 M6 HB; clear hw2
 (try simp only [Act.put, sI, sS, sZ])
 first | (obtain ⟨Zq, hZ, mZ⟩ := M6.out) | (obtain ⟨Zq, hZ, mZ⟩ := M6.out.toN (qg ..))
 refine ql (by rfl) 36 _ _ rfl rfl (uw3.heap.size) (k32 QY) rfl rfl 36 Zq mZ (by rw [qg]; kernel_rfl) (hZ.trans (qg ..).symm) (qo _ _ _) ?_
 intro yw23 hw2
 replace M1 := Lib.hid (M1.out.setRow_other (uw3.heap.size) (k32 QY) (by omega))
 replace M2 := Lib.hid (M2.out.setRow_other (uw3.heap.size) (k32 QY) (by omega))
 replace M3 := Lib.hid (M3.out.setRow_other (uw3.heap.size) (k32 QY) (by omega))
 replace M4 := Lib.hid (M4.out.setRow_other (uw3.heap.size) (k32 QY) (by omega))
 replace M5 := Lib.hid (M5.out.setRow_other (uw3.heap.size) (k32 QY) (by omega))
 replace M6 := Lib.hid (mZ.setRow (k32 QY))
 replace HB := Lib.hid (below_setRow HB.out (uw3.heap.size) (k32 QY) (by omega))
 rw [← hw2] at M1 M2 M3 M4 M5 M6 HB; clear mZ hZ hw2
 refine wpList_nil ?_
 repeat ((fail_if_success (with_reducible (show wpList _ _ _ _ _ _))); go_step)
 refine qv (by rfl) 180 _ rfl (uw1.heap.size) rfl 180 (e4 mx) M3.out Tryz.underlying180 rfl (by rw [qd]; kernel_rfl) 17 rfl ?_
 (try simp only [Act.put, sI, sS, sZ])
 refine qv (by rfl) 180 _ rfl (yw5.heap.size) rfl 180 (e4 mz) M5.out Tryz.underlying180 rfl (by rw [qd]; kernel_rfl) 18 rfl ?_
 (try simp only [Act.put, sI, sS, sZ])
 refine qm (by rfl) rfl rfl (by rfl) ent167 (by rfl) (Hov.out mx mz hmx hmz _) 19 rfl ?_
 rintro e uw4 ⟨q2, hq2, hq2r, rfl, hb⟩
 replace M1 := Lib.hid (M1.out.call hb)
 replace M2 := Lib.hid (M2.out.call hb)
 replace M3 := Lib.hid (M3.out.call hb)
 replace M4 := Lib.hid (M4.out.call hb)
 replace M5 := Lib.hid (M5.out.call hb)
 replace M6 := Lib.hid (M6.out.call hb)
 replace HB := Lib.hid (qf HB.out hb)
 have hq2s := (Hoc.out mx mz q2 X Z Hrx.out Hrz.out hq2r).trans HQX.out.symm
 clear hq2r
 have Hq2 := Lib.hid hq2s; clear hq2s
 refine ⟨_, rfl, ?_⟩
 clear hb
 (try simp only [Act.put, sI, sS, sZ])
 rcases Nat.mod_two_eq_zero_or_one QX with hp | hp
 · have hE := Heven.out hp
   have hev := fun w => Hevy.out q2 hq2 (by rw [Hq2.out]; exact hp) w
   have HE := Lib.hid hE; clear hE
   have Hev := Lib.hid hev; clear hev
   have Hp := Lib.hid hp; clear hp
   refine qm (by rfl) rfl rfl (by rfl) ent175 (by rfl) (Hev.out _) 20 rfl ?_
   rintro e uw5 ⟨rfl, hb⟩
   replace M1 := Lib.hid (M1.out.call hb)
   replace M2 := Lib.hid (M2.out.call hb)
   replace M3 := Lib.hid (M3.out.call hb)
   replace M4 := Lib.hid (M4.out.call hb)
   replace M5 := Lib.hid (M5.out.call hb)
   replace M6 := Lib.hid (M6.out.call hb)
   replace HB := Lib.hid (qf HB.out hb)
   refine ⟨_, rfl, ?_⟩
   clear hb
   (try simp only [Act.put, sI, sS, sZ])
   (refine wpList_step (fun K hK => ?_); go_simp; (try go_bits); refine hK _ _ ?_; clear hK K)
   refine wpList_nil ?_
   repeat ((fail_if_success (with_reducible (show wpList _ _ _ _ _ _))); go_step)
   refine qv (by rfl) 36 _ rfl (uw3.heap.size) rfl 36 (k32 QY) M6.out Tryz.underlying36 rfl (by rw [qg]; kernel_rfl) 26 rfl ?_
   (try simp only [Act.put, sI, sS, sZ])
   first | (obtain ⟨Zq, hZ, mZ⟩ := M2.out) | (obtain ⟨Zq, hZ, mZ⟩ := M2.out.toN (qg ..))
   refine ql (by rfl) 36 _ _ rfl rfl (w.heap.size + 1) (k32 QY) rfl rfl 36 Zq mZ (by rw [qg]; kernel_rfl) (hZ.trans (qg ..).symm) (qo _ _ _) ?_
   intro yw24 hw2
   replace M1 := Lib.hid (M1.out.setRow_other (w.heap.size + 1) (k32 QY) (by omega))
   replace M3 := Lib.hid (M3.out.setRow_other (w.heap.size + 1) (k32 QY) (by omega))
   replace M4 := Lib.hid (M4.out.setRow_other (w.heap.size + 1) (k32 QY) (by omega))
   replace M5 := Lib.hid (M5.out.setRow_other (w.heap.size + 1) (k32 QY) (by omega))
   replace M6 := Lib.hid (M6.out.setRow_other (w.heap.size + 1) (k32 QY) (by omega))
   replace M2 := Lib.hid (mZ.setRow (k32 QY))
   replace HB := Lib.hid (below_setRow HB.out (w.heap.size + 1) (k32 QY) (by omega))
   rw [← hw2] at M1 M3 M4 M5 M6 M2 HB; clear mZ hZ hw2
   refine wpList_nil ?_
   go_wp2_with fail
   exact bodyPost_ret (v := .agg (k32 QY)) (results_cell_row (t := 36) (by rfl) _ _ (w.heap.size + 1) _ _ _ rfl M2.out Tryz.underlying36 rfl (by rw [qg]; kernel_rfl)) rfl ⟨by rw [HE.out], HB.out⟩
 · have hE := Hodd.out hp
   have hev := fun w => Hevn.out q2 hq2 (by rw [Hq2.out]; exact hp) w
   obtain ⟨c, hc, hcl⟩ := qc1 QY HQl.out
   have hor := or_128 c hcl
   have hkt := key_top QY HQl.out ((c : Int) + 128) (by rw [hc])
   have HE := Lib.hid hE; clear hE
   have Hev := Lib.hid hev; clear hev
   have Hp := Lib.hid hp; clear hp
   have Hkt := Lib.hid hkt; clear hkt
   have Hc := Lib.hid hc; clear hc
   refine qm (by rfl) rfl rfl (by rfl) ent175 (by rfl) (Hev.out _) 20 rfl ?_
   rintro e uw5 ⟨rfl, hb⟩
   replace M1 := Lib.hid (M1.out.call hb)
   replace M2 := Lib.hid (M2.out.call hb)
   replace M3 := Lib.hid (M3.out.call hb)
   replace M4 := Lib.hid (M4.out.call hb)
   replace M5 := Lib.hid (M5.out.call hb)
   replace M6 := Lib.hid (M6.out.call hb)
   replace HB := Lib.hid (qf HB.out hb)
   refine ⟨_, rfl, ?_⟩
   clear hb
   (try simp only [Act.put, sI, sS, sZ])
   (refine wpList_step (fun K hK => ?_); go_simp; (try go_bits); refine hK _ _ ?_; clear hK K)
   refine wpList_nil ?_
   repeat ((fail_if_success (with_reducible (show wpList _ _ _ _ _ _))); go_step)
   have h1 := M6.out.cell 31 (by omega)
   rw [Hc.out] at h1
   have hfz := M6.out.frozen 31
   iterate 5 (refine wpList_step (fun K hK => ?_); go_simp; (try go_bits); refine hK _ _ ?_; clear hK K)
   refine wpList_nil ?_
   clear h1 hfz
   have kq := M6.out.set (31) ((c : Int) + 128); rw [Hkt.out] at kq; clear M6; have M6 := Lib.hid kq; clear kq
   have kq := M1.out.other ⟨uw3.heap.size, 31, none⟩ (.int .u8 ((c : Int) + 128)) (by simp <;> omega); clear M1; have M1 := Lib.hid kq; clear kq
   have kq := M2.out.other ⟨uw3.heap.size, 31, none⟩ (.int .u8 ((c : Int) + 128)) (by simp <;> omega); clear M2; have M2 := Lib.hid kq; clear kq
   have kq := M3.out.other ⟨uw3.heap.size, 31, none⟩ (.int .u8 ((c : Int) + 128)) (by simp <;> omega); clear M3; have M3 := Lib.hid kq; clear kq
   have kq := M4.out.other ⟨uw3.heap.size, 31, none⟩ (.int .u8 ((c : Int) + 128)) (by simp <;> omega); clear M4; have M4 := Lib.hid kq; clear kq
   have kq := M5.out.other ⟨uw3.heap.size, 31, none⟩ (.int .u8 ((c : Int) + 128)) (by simp <;> omega); clear M5; have M5 := Lib.hid kq; clear kq
   replace HB := Lib.hid (HB.out.setCell (p := ⟨uw3.heap.size, 31, none⟩) (show w.heap.size ≤ uw3.heap.size by omega) (.int .u8 ((c : Int) + 128)))
   obtain ⟨yw24, hwyw24⟩ : ∃ ww, ww = uw5.setCell ⟨uw3.heap.size, 31, none⟩ (.int .u8 ((c : Int) + 128)) := ⟨_, rfl⟩
   rw [← hwyw24] at M1 M2 M3 M4 M5 M6 HB ⊢
   clear hwyw24
   repeat ((fail_if_success (with_reducible (show wpList _ _ _ _ _ _))); go_step)
   refine qv (by rfl) 36 _ rfl (uw3.heap.size) rfl 36 (k32 (QY + 57896044618658097711785492504343953926634992332820282019728792003956564819968)) M6.out Tryz.underlying36 rfl (by rw [qg]; kernel_rfl) 26 rfl ?_
   (try simp only [Act.put, sI, sS, sZ])
   first | (obtain ⟨Zq, hZ, mZ⟩ := M2.out) | (obtain ⟨Zq, hZ, mZ⟩ := M2.out.toN (qg ..))
   refine ql (by rfl) 36 _ _ rfl rfl (w.heap.size + 1) (k32 (QY + 57896044618658097711785492504343953926634992332820282019728792003956564819968)) rfl rfl 36 Zq mZ (by rw [qg]; kernel_rfl) (hZ.trans (qg ..).symm) (qo _ _ _) ?_
   intro yw25 hw2
   replace M1 := Lib.hid (M1.out.setRow_other (w.heap.size + 1) (k32 (QY + 57896044618658097711785492504343953926634992332820282019728792003956564819968)) (by omega))
   replace M3 := Lib.hid (M3.out.setRow_other (w.heap.size + 1) (k32 (QY + 57896044618658097711785492504343953926634992332820282019728792003956564819968)) (by omega))
   replace M4 := Lib.hid (M4.out.setRow_other (w.heap.size + 1) (k32 (QY + 57896044618658097711785492504343953926634992332820282019728792003956564819968)) (by omega))
   replace M5 := Lib.hid (M5.out.setRow_other (w.heap.size + 1) (k32 (QY + 57896044618658097711785492504343953926634992332820282019728792003956564819968)) (by omega))
   replace M6 := Lib.hid (M6.out.setRow_other (w.heap.size + 1) (k32 (QY + 57896044618658097711785492504343953926634992332820282019728792003956564819968)) (by omega))
   replace M2 := Lib.hid (mZ.setRow (k32 (QY + 57896044618658097711785492504343953926634992332820282019728792003956564819968)))
   replace HB := Lib.hid (below_setRow HB.out (w.heap.size + 1) (k32 (QY + 57896044618658097711785492504343953926634992332820282019728792003956564819968)) (by omega))
   rw [← hw2] at M1 M3 M4 M5 M6 M2 HB; clear mZ hZ hw2
   refine wpList_nil ?_
   go_wp2_with fail
   exact bodyPost_ret (v := .agg (k32 (QY + 57896044618658097711785492504343953926634992332820282019728792003956564819968))) (results_cell_row (t := 36) (by rfl) _ _ (w.heap.size + 1) _ _ _ rfl M2.out Tryz.underlying36 rfl (by rw [qg]; kernel_rfl)) rfl ⟨by rw [HE.out], HB.out⟩
end
section
open Go.RowKit Go.Sx
def cx (Y : Nat) : Nat := (Y * Y % PP + (PP - 1)) % PP * pwm ((SL * (Y * Y % PP) % PP + 1) % PP) (PP - 2) % PP
def bes (C : Nat) (even : Bool) (Y : Nat) : Bool × Nat × Nat :=
 if zd C = true ∧ ¬ (rt3 C = 0 ∧ even = false) then (true, (if even = true then rt3 C else (0 % PP + (PP - rt3 C)) % PP), Y) else (false, 0, 1)
theorem bes_no1 (C : Nat) (even : Bool) (Y : Nat) (h : zd C = false) : bes C even Y = (false, 0, 1) := by
 unfold bes; rw [if_neg (by rw [h]; simp)]
theorem bes_no2 (C : Nat) (Y : Nat) (h : rt3 C = 0) : bes C false Y = (false, 0, 1) := by
 unfold bes; rw [if_neg (by simp [h])]
theorem qbm (C : Nat) (Y : Nat) (h : zd C = true) : bes C true Y = (true, rt3 C, Y) := by
 unfold bes; rw [if_pos ⟨h, by simp⟩, if_pos rfl]
theorem bes_odd (C : Nat) (Y : Nat) (h : zd C = true) (h0 : ¬ rt3 C = 0) : bes C false Y = (true, (0 % PP + (PP - rt3 C)) % PP, Y) := by
 unfold bes; rw [if_pos ⟨h, fun hh => h0 hh.1⟩, if_neg (by simp)]
def BeP (r : Bool × Nat × Nat) (w : World) (e : Ending) (w' : World) : Prop :=
 ∃ (x y z1 : Nat) (b : Bool), ZS x y z1 b r.2.1 r.2.2 (1 % PP) ∧ e = .returned (.tuple #[.agg (pt x y z1 b), .bool r.1]) ∧ Below w.heap.size w w'
theorem ZH : 1 % PP = 1 := Nat.mod_eq_of_lt (by have := QF; omega)
theorem root_un2 (q C : Nat) (ok : Bool) (R : Nat) (hq : q < 115792089237316195423570985008687907853269984665640564039457584007913129639936) (h : q % PP = C) (hok : ok = zd C) (hR : R = rt3 C) (w : World) :
 Calls Tryz.prog 212 #[.agg (e4 q)] w fun e w' => ∃ m : Nat, m < 115792089237316195423570985008687907853269984665640564039457584007913129639936 ∧ m % PP = R ∧ e = .returned (.tuple #[.agg (e4 m), .bool ok]) ∧ Below w.heap.size w w' := by
 have := froot_any q hq w
 rw [h] at this
 rw [hok, hR]
 exact this
theorem is_zero4 (q R : Nat) (z : Bool) (hq : q < 115792089237316195423570985008687907853269984665640564039457584007913129639936) (h : q % PP = R) (hz : z = decide (R = 0 % PP)) (w : World) :
 Calls Tryz.prog 213 #[.agg (e4 q), .agg (e4 0)] w fun e w' => e = .returned (.bool z) ∧ Below w.heap.size w w' := by
 rw [hz, ← h]; exact is_any q 0 hq (by decide) w
def El (r m : Nat) : Prop := m < 115792089237316195423570985008687907853269984665640564039457584007913129639936 ∧ m % PP = r
theorem qX (n : Nat) : (e4 n).toList.all (·.oneCell') = true := by unfold e4 row; exact List.all_eq_true.2 fun v hv => Zl _ _ _ v hv
theorem qs {a b A B R : Nat} (ha : El A a) (hb : El B b) (hR : R = A * B % PP) (w : World) : Calls Tryz.prog 210 ([.agg (e4 a), .agg (e4 b)] : List Value).toArray w fun e w' => ∃ m, El R m ∧ e = .returned (.agg (e4 m)) ∧ Below w.heap.size w w' :=
 (qB a b ha.1 hb.1 w).mono fun _ _ ⟨m, h1, h2, h3, h4⟩ => ⟨m, ⟨h1, by rw [hR, h2, ← ha.2, ← hb.2, ← Nat.mul_mod]⟩, h3, h4⟩
theorem QH {a b A B R : Nat} (ha : El A a) (hb : El B b) (hR : R = (A + B) % PP) (w : World) : Calls Tryz.prog 211 ([.agg (e4 a), .agg (e4 b)] : List Value).toArray w fun e w' => ∃ m, El R m ∧ e = .returned (.agg (e4 m)) ∧ Below w.heap.size w w' :=
 (plus_any a b ha.1 hb.1 w).mono fun _ _ ⟨m, h1, h2, h3, h4⟩ => ⟨m, ⟨h1, by rw [hR, h2, ← ha.2, ← hb.2, ← Nat.add_mod]⟩, h3, h4⟩
theorem QN {a b A B R : Nat} (ha : El A a) (hb : El B b) (hR : R = (A + (PP - B)) % PP) (w : World) : Calls Tryz.prog 174 ([.agg (e4 a), .agg (e4 b)] : List Value).toArray w fun e w' => ∃ m, El R m ∧ e = .returned (.agg (e4 m)) ∧ Below w.heap.size w w' :=
 (zq a b ha.1 hb.1 w).mono fun _ _ ⟨m, h1, h2, h3, h4⟩ => ⟨m, ⟨h1, by rw [hR, h2, ← ha.2, ← hb.2]⟩, h3, h4⟩
theorem el_plain {x y z1 : Nat} {b : Bool} {X Y Z : Nat} (h : ZS x y z1 b X Y Z) (w : World) : Calls Tryz.prog 171 ([.agg (pt x y z1 b)] : List Value).toArray w fun e w' => ∃ x : Nat × Nat × Nat, (El X x.1 ∧ El Y x.2.1 ∧ El Z x.2.2) ∧ e = .returned (.tuple #[.agg (e4 x.1), .agg (e4 x.2.1), .agg (e4 x.2.2)]) ∧ Below w.heap.size w w' :=
 (qby x y z1 b X Y Z h w).mono fun _ _ ⟨x, y, z, ⟨h1, h2, h3⟩, ⟨k1, k2, k3⟩, h4, h5⟩ => ⟨(x, y, z), ⟨⟨h1, k1⟩, ⟨h2, k2⟩, ⟨h3, k3⟩⟩, h4, h5⟩
theorem el_made {x y z X Y Z : Nat} (hx : El X x) (hy : El Y y) (hz : El Z z) (w : World) : Calls Tryz.prog 173 ([.agg (e4 x), .agg (e4 y), .agg (e4 z)] : List Value).toArray w fun e w' => ∃ x : Nat × Nat × Nat × Bool, ZS x.1 x.2.1 x.2.2.1 x.2.2.2 X Y Z ∧ e = .returned (.agg (pt x.1 x.2.1 x.2.2.1 x.2.2.2)) ∧ Below w.heap.size w w' :=
 (made_any x y z hx.1 hy.1 hz.1 w).mono fun _ _ ⟨x, y, z, b, h1, h2, h3⟩ => ⟨(x, y, z, b), by rw [hx.2, hy.2, hz.2] at h1; exact h1, h2, h3⟩
abbrev pq (b : Nat) : Value := .pointer (some ⟨b, 0, none⟩)
abbrev pt0 : Array Value := #[.int .u64 0, .int .u64 0, .int .u64 0, .int .u64 0, .int .u64 0, .int .u64 0, .int .u64 0, .int .u64 0, .int .u64 0, .int .u64 0, .int .u64 0, .int .u64 0, .bool false]
theorem el_one (w : World) : Calls Tryz.prog 166 ([.int .i64 1] : List Value).toArray w fun e w' => ∃ m, El (1 % PP) m ∧ e = .returned (.agg (e4 m)) ∧ Below w.heap.size w w' :=
 (ZL 1 (by decide) w).mono fun _ _ ⟨h1, h2⟩ => ⟨1, ⟨by decide, rfl⟩, h1, h2⟩
theorem qc0 (w : World) : Calls Tryz.prog 168 ([] : List Value).toArray w fun e w' => ∃ m, El SL m ∧ e = .returned (.agg (e4 m)) ∧ Below w.heap.size w w' := (qbu w).mono fun _ _ ⟨m, h1, h2, h3, h4⟩ => ⟨m, ⟨h1, h2⟩, h3, h4⟩
theorem qas {a b A B R : Nat} (ha : El A a) (hb : El B b) (hR : R = A * pwm B (PP - 2) % PP) (w : World) : Calls Tryz.prog 167 ([.agg (e4 a), .agg (e4 b)] : List Value).toArray w fun e w' => ∃ m, El R m ∧ e = .returned (.agg (e4 m)) ∧ Below w.heap.size w w' :=
 (qa2 a b ha.1 hb.1 w).mono fun _ _ ⟨m, h1, h2, h3, h4⟩ => ⟨m, ⟨h1, by rw [hR, h2, ← ha.2, ← hb.2, ZE, mo_mul_l a (a % PP) _ (by rw [Nat.mod_mod])]⟩, h3, h4⟩
theorem ZO {a A : Nat} (ha : El A a) (w : World) : Calls Tryz.prog 212 ([.agg (e4 a)] : List Value).toArray w fun e w' => ∃ m, El (rt3 A) m ∧ e = .returned (.tuple #[.agg (e4 m), .bool (zd A)]) ∧ Below w.heap.size w w' :=
 (root_un2 a A _ _ ha.1 ha.2 rfl rfl w).mono fun _ _ ⟨m, h1, h2, h3, h4⟩ => ⟨m, ⟨h1, h2⟩, h3, h4⟩
theorem bes_C (Y : Nat) : (Y * Y % PP + (PP - 1 % PP)) % PP * pwm ((SL * (Y * Y % PP) % PP + 1 % PP) % PP) (PP - 2) % PP = cx Y := by
 unfold cx; rw [ZH]
theorem qc8 (y : Nat) (even : Bool) (hy : y < 115792089237316195423570985008687907853269984665640564039457584007913129639936) (w : World) :
 Calls Tryz.prog 161 #[.agg (e4 y), .bool even] w (BeP (bes (cx (y % PP)) even (y % PP)) w) := by
 obtain ⟨Y, hY⟩ : ∃ Y, Y = y % PP := ⟨_, rfl⟩
 have hy1 : El Y y := ⟨hy, hY.symm⟩
 have hC := bes_C Y
 rw [← hY]
 refine (enter (R := fun v w' => ∃ (x y z1 : Nat) (b : Bool), ZS x y z1 b (bes (cx Y) even Y).2.1 (bes (cx Y) even Y).2.2 (1 % PP) ∧ v = .tuple #[.agg (pt x y z1 b), .bool (bes (cx Y) even Y).1] ∧ Below w.heap.size w w') qe Tryz.func161 rfl Tryz.ntmps161 rfl (St.start w) ?_).mono (fun e w' ⟨v, he, x, y, z1, b, h1, h2, h3⟩ => ⟨x, y, z1, b, h1, by rw [he, h2], h3⟩)
 intro b2 b4
 refine cut (α := Nat × Nat × Nat × Nat) (fun x => El (1 % PP) x.1 ∧ El (Y * Y % PP) x.2.1) (fun x => ⟨[(6, pq x.2.2.1), (7, pq x.2.2.2), (2, pq b2), (4, pq b4), (1, .bool even)], [cl b2 (e4 y) 180, cl b4 pt0 182, cl x.2.2.1 (e4 x.1) 180, cl x.2.2.2 (e4 x.2.1) 180], []⟩) ?_ ?_
 · let Sl : Fr := [(2, pq b2), (4, pq b4), (1, .bool even)]
   let En : List Ent := [cl b2 (e4 y) 180, cl b4 pt0 182]
   let Zr : Array Value := #[.int .u64 0, .int .u64 0, .int .u64 0, .int .u64 0]
   refine drg En [1, 2] 6 qe qk (by kernel_rfl) (by kernel_rfl) (.refl _) (fun T g => ?_)
   have H0 : ∀ (o1 sq b6 b7 : Nat), El (1 % PP) o1 → El (Y * Y % PP) sq → T 0 #[tt,tt,tt,tt,tt,tt,tt,tt] ⟨(6, pq b6) :: (7, pq b7) :: Sl, En ++ [cl b6 (e4 o1) 180, cl b7 (e4 sq) 180], []⟩ := by
    intro o1 sq b6 b7 ho1 hsq
    refine g.fin _ _ _ (by kernel_rfl) ?_
    exact ⟨(o1, sq, b6, b7), ⟨ho1, hsq⟩, ⟨rfl, rfl, rfl, rfl, rfl, trivial⟩, .refl _, rfl⟩
   have H1 : ∀ (o1 sq b6 b7 : Nat), El (1 % PP) o1 → El (Y * Y % PP) sq → T 1 #[tt,tt,tt,tt,tt,tt,tt,ff] ⟨(14, .agg (e4 sq)) :: (6, pq b6) :: (7, pq b7) :: Sl, En ++ [cl b6 (e4 o1) 180, cl b7 Zr 180], []⟩ := by
    intro o1 sq b6 b7 ho1 hsq
    refine g.one _ _ _ 7 (by kernel_rfl) (qc _) ?_
    refine sN 3 rfl (by rw [qd]; rfl) (qX _) ?_ (by kernel_rfl)
    refine ⟨qc _, ?_⟩
    exact g.go (H0 o1 sq b6 b7 ho1 hsq) (qc _) ⟨rfl, rfl, rfl, rfl, rfl, trivial⟩ ⟨_, .refl _, .refl _⟩ rfl
   have H2 : ∀ (o1 sq b6 b7 : Nat), El (1 % PP) o1 → El (Y * Y % PP) sq → T 2 #[tt,tt,tt,tt,tt,tt,ff,ff] ⟨(11, .agg (e4 o1)) :: (14, .agg (e4 sq)) :: (6, pq b6) :: (7, pq b7) :: Sl, En ++ [cl b6 Zr 180, cl b7 Zr 180], []⟩ := by
    intro o1 sq b6 b7 ho1 hsq
    refine g.one _ _ _ 6 (by kernel_rfl) (qc _) ?_
    refine sN 2 rfl (by rw [qd]; rfl) (qX _) ?_ (by kernel_rfl)
    refine ⟨qc _, ?_⟩
    exact g.go (H1 o1 sq b6 b7 ho1 hsq) (qc _) ⟨rfl, rfl, rfl, rfl, rfl, rfl, trivial⟩ ⟨_, .refl _, .refl _⟩ rfl
   have H3 : ∀ (o1 sq b6 : Nat), El (1 % PP) o1 → El (Y * Y % PP) sq → T 3 #[tt,tt,tt,tt,tt,ff,ff,ff] ⟨(11, .agg (e4 o1)) :: (14, .agg (e4 sq)) :: (6, pq b6) :: Sl, En ++ [cl b6 Zr 180], []⟩ := by
    intro o1 sq b6 ho1 hsq
    refine g.one _ _ _ 5 (by kernel_rfl) (qc _) ?_
    intro b7
    refine ⟨qc _, ?_⟩
    exact g.go (H2 o1 sq b6 b7 ho1 hsq) (qc _) ⟨rfl, rfl, rfl, rfl, rfl, rfl, rfl, trivial⟩ ⟨_, .refl _, .refl _⟩ rfl
   have H4 : ∀ (o1 sq b7 : Nat), El (1 % PP) o1 → El (Y * Y % PP) sq → T 3 #[tt,tt,tt,tt,ff,tt,ff,ff] ⟨(11, .agg (e4 o1)) :: (14, .agg (e4 sq)) :: (7, pq b7) :: Sl, En ++ [cl b7 Zr 180], []⟩ := by
    intro o1 sq b7 ho1 hsq
    refine g.one _ _ _ 4 (by kernel_rfl) (qc _) ?_
    intro b6
    refine ⟨qc _, ?_⟩
    exact g.go (H2 o1 sq b6 b7 ho1 hsq) (qc _) ⟨rfl, rfl, rfl, rfl, rfl, rfl, rfl, trivial⟩ ⟨_, qJ [_, _] _ [_], .refl _⟩ rfl
   have H5 : ∀ (o1 b6 b7 : Nat), El (1 % PP) o1 → T 3 #[tt,tt,tt,ff,tt,tt,ff,ff] ⟨(11, .agg (e4 o1)) :: (12, .agg (e4 y)) :: (13, .agg (e4 y)) :: (6, pq b6) :: (7, pq b7) :: Sl, En ++ [cl b6 Zr 180, cl b7 Zr 180], []⟩ := by
    intro o1 b6 b7 ho1
    refine g.one _ _ _ 3 (by kernel_rfl) (qc _) ?_
    refine ce (fun w _ => qs hy1 hy1 rfl w) (fun sq hsq => ?_)
    refine ⟨qc _, ?_⟩
    exact g.go (H2 o1 sq b6 b7 ho1 hsq) (qc _) ⟨rfl, rfl, rfl, rfl, rfl, rfl, rfl, trivial⟩ ⟨_, .refl _, .refl _⟩ rfl
   have H6 : ∀ (o1 sq : Nat), El (1 % PP) o1 → El (Y * Y % PP) sq → T 4 #[tt,tt,tt,tt,ff,ff,ff,ff] ⟨(11, .agg (e4 o1)) :: (14, .agg (e4 sq)) :: Sl, En, []⟩ := by
    intro o1 sq ho1 hsq
    refine g.two _ _ _ 4 5 (by kernel_rfl) (qc _) ?_ ?_
    · intro b6
      refine ⟨qc _, ?_⟩
      exact g.go (H3 o1 sq b6 ho1 hsq) (qc _) ⟨rfl, rfl, rfl, rfl, rfl, rfl, trivial⟩ ⟨_, .refl _, .refl _⟩ rfl
    · intro b7
      refine ⟨qc _, ?_⟩
      exact g.go (H4 o1 sq b7 ho1 hsq) (qc _) ⟨rfl, rfl, rfl, rfl, rfl, rfl, trivial⟩ ⟨_, .refl _, .refl _⟩ rfl
   have H7 : ∀ (o1 b6 : Nat), El (1 % PP) o1 → T 4 #[tt,tt,tt,ff,tt,ff,ff,ff] ⟨(11, .agg (e4 o1)) :: (12, .agg (e4 y)) :: (13, .agg (e4 y)) :: (6, pq b6) :: Sl, En ++ [cl b6 Zr 180], []⟩ := by
    intro o1 b6 ho1
    refine g.two _ _ _ 3 5 (by kernel_rfl) (qc _) ?_ ?_
    · refine ce (fun w _ => qs hy1 hy1 rfl w) (fun sq hsq => ?_)
      refine ⟨qc _, ?_⟩
      exact g.go (H3 o1 sq b6 ho1 hsq) (qc _) ⟨rfl, rfl, rfl, rfl, rfl, rfl, trivial⟩ ⟨_, .refl _, .refl _⟩ rfl
    · intro b7
      refine ⟨qc _, ?_⟩
      exact g.go (H5 o1 b6 b7 ho1) (qc _) ⟨rfl, rfl, rfl, rfl, rfl, rfl, rfl, rfl, trivial⟩ ⟨_, .refl _, .refl _⟩ rfl
   have H8 : ∀ (o1 b7 : Nat), El (1 % PP) o1 → T 4 #[tt,tt,tt,ff,ff,tt,ff,ff] ⟨(11, .agg (e4 o1)) :: (12, .agg (e4 y)) :: (13, .agg (e4 y)) :: (7, pq b7) :: Sl, En ++ [cl b7 Zr 180], []⟩ := by
    intro o1 b7 ho1
    refine g.two _ _ _ 3 4 (by kernel_rfl) (qc _) ?_ ?_
    · refine ce (fun w _ => qs hy1 hy1 rfl w) (fun sq hsq => ?_)
      refine ⟨qc _, ?_⟩
      exact g.go (H4 o1 sq b7 ho1 hsq) (qc _) ⟨rfl, rfl, rfl, rfl, rfl, rfl, trivial⟩ ⟨_, .refl _, .refl _⟩ rfl
    · intro b6
      refine ⟨qc _, ?_⟩
      exact g.go (H5 o1 b6 b7 ho1) (qc _) ⟨rfl, rfl, rfl, rfl, rfl, rfl, rfl, rfl, trivial⟩ ⟨_, qJ [_, _] _ [_], .refl _⟩ rfl
   have H9 : ∀ (b6 b7 : Nat), T 4 #[ff,tt,tt,ff,tt,tt,ff,ff] ⟨(12, .agg (e4 y)) :: (13, .agg (e4 y)) :: (6, pq b6) :: (7, pq b7) :: Sl, En ++ [cl b6 Zr 180, cl b7 Zr 180], []⟩ := by
    intro b6 b7
    refine g.one _ _ _ 0 (by kernel_rfl) (qc _) ?_
    refine ce (fun w _ => el_one w) (fun o1 ho1 => ?_)
    refine ⟨qc _, ?_⟩
    exact g.go (H5 o1 b6 b7 ho1) (qc _) ⟨rfl, rfl, rfl, rfl, rfl, rfl, rfl, rfl, trivial⟩ ⟨_, .refl _, .refl _⟩ rfl
   have H10 : ∀ (o1 : Nat), El (1 % PP) o1 → T 5 #[tt,tt,tt,ff,ff,ff,ff,ff] ⟨(11, .agg (e4 o1)) :: (12, .agg (e4 y)) :: (13, .agg (e4 y)) :: Sl, En, []⟩ := by
    intro o1 ho1
    refine g.three _ _ _ 3 4 5 (by kernel_rfl) (qc _) ?_ ?_ ?_
    · refine ce (fun w _ => qs hy1 hy1 rfl w) (fun sq hsq => ?_)
      refine ⟨qc _, ?_⟩
      exact g.go (H6 o1 sq ho1 hsq) (qc _) ⟨rfl, rfl, rfl, rfl, rfl, trivial⟩ ⟨_, .refl _, .refl _⟩ rfl
    · intro b6
      refine ⟨qc _, ?_⟩
      exact g.go (H7 o1 b6 ho1) (qc _) ⟨rfl, rfl, rfl, rfl, rfl, rfl, rfl, trivial⟩ ⟨_, .refl _, .refl _⟩ rfl
    · intro b7
      refine ⟨qc _, ?_⟩
      exact g.go (H8 o1 b7 ho1) (qc _) ⟨rfl, rfl, rfl, rfl, rfl, rfl, rfl, trivial⟩ ⟨_, .refl _, .refl _⟩ rfl
   have H11 : ∀ (b6 : Nat), T 5 #[ff,tt,tt,ff,tt,ff,ff,ff] ⟨(12, .agg (e4 y)) :: (13, .agg (e4 y)) :: (6, pq b6) :: Sl, En ++ [cl b6 Zr 180], []⟩ := by
    intro b6
    refine g.two _ _ _ 0 5 (by kernel_rfl) (qc _) ?_ ?_
    · refine ce (fun w _ => el_one w) (fun o1 ho1 => ?_)
      refine ⟨qc _, ?_⟩
      exact g.go (H7 o1 b6 ho1) (qc _) ⟨rfl, rfl, rfl, rfl, rfl, rfl, rfl, trivial⟩ ⟨_, .refl _, .refl _⟩ rfl
    · intro b7
      refine ⟨qc _, ?_⟩
      exact g.go (H9 b6 b7) (qc _) ⟨rfl, rfl, rfl, rfl, rfl, rfl, rfl, trivial⟩ ⟨_, .refl _, .refl _⟩ rfl
   have H12 : ∀ (b7 : Nat), T 5 #[ff,tt,tt,ff,ff,tt,ff,ff] ⟨(12, .agg (e4 y)) :: (13, .agg (e4 y)) :: (7, pq b7) :: Sl, En ++ [cl b7 Zr 180], []⟩ := by
    intro b7
    refine g.two _ _ _ 0 4 (by kernel_rfl) (qc _) ?_ ?_
    · refine ce (fun w _ => el_one w) (fun o1 ho1 => ?_)
      refine ⟨qc _, ?_⟩
      exact g.go (H8 o1 b7 ho1) (qc _) ⟨rfl, rfl, rfl, rfl, rfl, rfl, rfl, trivial⟩ ⟨_, .refl _, .refl _⟩ rfl
    · intro b6
      refine ⟨qc _, ?_⟩
      exact g.go (H9 b6 b7) (qc _) ⟨rfl, rfl, rfl, rfl, rfl, rfl, rfl, trivial⟩ ⟨_, qJ [_, _] _ [_], .refl _⟩ rfl
   have H : T 6 #[ff,tt,tt,ff,ff,ff,ff,ff] ⟨(12, .agg (e4 y)) :: (13, .agg (e4 y)) :: Sl, En, []⟩ := by
    refine g.three _ _ _ 0 4 5 (by kernel_rfl) (qc _) ?_ ?_ ?_
    · refine ce (fun w _ => el_one w) (fun o1 ho1 => ?_)
      refine ⟨qc _, ?_⟩
      exact g.go (H10 o1 ho1) (qc _) ⟨rfl, rfl, rfl, rfl, rfl, rfl, trivial⟩ ⟨_, .refl _, .refl _⟩ rfl
    · intro b6
      refine ⟨qc _, ?_⟩
      exact g.go (H11 b6) (qc _) ⟨rfl, rfl, rfl, rfl, rfl, rfl, trivial⟩ ⟨_, .refl _, .refl _⟩ rfl
    · intro b7
      refine ⟨qc _, ?_⟩
      exact g.go (H12 b7) (qc _) ⟨rfl, rfl, rfl, rfl, rfl, rfl, trivial⟩ ⟨_, .refl _, .refl _⟩ rfl
   refine ldN 0 rfl (qd _) ?_
   refine ldN 0 rfl (qd _) ?_
   exact g.go H (qc _) ⟨rfl, rfl, rfl, rfl, rfl, trivial⟩ ⟨_, .refl _, .refl _⟩ rfl
 · rintro ⟨o1, sq, b6, b7⟩ ⟨ho1, hsq⟩
   refine cut (α := Nat × Nat) (fun x => El (rt3 (cx Y)) x.1) (fun x => ⟨[(1, .bool even), (2, pq b2), (4, pq b4), (6, pq b6), (8, pq x.2), (9, .bool (zd (cx Y)))], [cl b2 (e4 y) 180, cl b4 pt0 182, cl b6 (e4 o1) 180, cl b7 (e4 sq) 180, cl x.2 (e4 x.1) 180], []⟩) ?_ ?_
   · refine drs [cl b2 (e4 y) 180, cl b4 pt0 182, cl b6 (e4 o1) 180, cl b7 (e4 sq) 180] [] (.t 0 (.t 1 (.t 4 (.t 6 (.b 2 13 (.b 3 13 (.b 5 13 (.b 7 13 (.b 8 13 (.b 9 13 (.t 10 (.t 11 (.t 12 (.n 13 (.n 14 (.n 15 .nil)))))) (.n 9 (.t 10 (.t 11 (.t 12 (.n 14 (.n 15 .nil))))))) (.n 8 (.n 9 (.t 10 (.t 11 (.t 12 (.n 14 (.n 15 .nil)))))))) (.n 7 (.n 8 (.n 9 (.t 10 (.t 11 (.t 12 (.n 14 (.n 15 .nil))))))))) (.n 5 (.n 7 (.n 8 (.n 9 (.t 10 (.t 11 (.t 12 (.n 14 (.n 15 .nil)))))))))) (.n 3 (.n 5 (.n 7 (.n 8 (.n 9 (.t 10 (.t 11 (.t 12 (.n 14 (.n 15 .nil))))))))))) (.n 2 (.n 3 (.n 5 (.n 7 (.n 8 (.n 9 (.t 10 (.t 11 (.t 12 (.n 14 (.n 15 .nil)))))))))))))))) qe qk (by kernel_rfl) (.refl _) ?_
     refine ldN 3 rfl (qd _) ?_
     refine ldN 2 rfl (qd _) ?_
     refine ldN 3 rfl (qd _) ?_
     refine ldN 2 rfl (qd _) ?_
     refine ⟨?_, ?_⟩
     · refine ce (fun w _ => QN hsq ho1 rfl w) (fun n1 hn1 => ?_)
       refine ⟨qc _, ?_⟩
       refine ⟨?_, ?_⟩
       · refine ce (fun w _ => qc0 w) (fun n2 hn2 => ?_)
         refine ⟨qc _, ?_⟩
         refine ⟨?_, ?_⟩
         · refine ce (fun w _ => qs hn2 hsq rfl w) (fun n3 hn3 => ?_)
           refine ⟨qc _, ?_⟩
           refine ⟨?_, ?_⟩
           · refine ce (fun w _ => QH hn3 ho1 rfl w) (fun n4 hn4 => ?_)
             refine ⟨qc _, ?_⟩
             refine ⟨?_, ?_⟩
             · refine ce (fun w _ => qas hn1 hn4 rfl w) (fun n5 hn5 => ?_)
               refine ⟨qc _, ?_⟩
               refine ⟨?_, ?_⟩
               · refine ce (fun w _ => ZO hn5 w) (fun q hq => ?_)
                 refine ⟨qc _, ?_⟩
                 intro b8
                 refine ⟨qc _, ?_⟩
                 refine sN 4 rfl (by rw [qd]; rfl) (qX _) ?_ (by kernel_rfl)
                 refine ⟨qc _, ?_⟩
                 refine ⟨qc _, ?_⟩
                 exact ⟨(q, b8), hC ▸ hq, ⟨rfl, rfl, rfl, rfl, rfl, rfl, trivial⟩, .refl _, rfl⟩
               · intro b8
                 refine ⟨qc _, ?_⟩
                 refine ce (fun w _ => ZO hn5 w) (fun q hq => ?_)
                 refine ⟨qc _, ?_⟩
                 refine sN 4 rfl (by rw [qd]; rfl) (qX _) ?_ (by kernel_rfl)
                 refine ⟨qc _, ?_⟩
                 refine ⟨qc _, ?_⟩
                 exact ⟨(q, b8), hC ▸ hq, ⟨rfl, rfl, rfl, rfl, rfl, rfl, trivial⟩, .refl _, rfl⟩
             · intro b8
               refine ⟨qc _, ?_⟩
               refine ce (fun w _ => qas hn1 hn4 rfl w) (fun n5 hn5 => ?_)
               refine ⟨qc _, ?_⟩
               refine ce (fun w _ => ZO hn5 w) (fun q hq => ?_)
               refine ⟨qc _, ?_⟩
               refine sN 4 rfl (by rw [qd]; rfl) (qX _) ?_ (by kernel_rfl)
               refine ⟨qc _, ?_⟩
               refine ⟨qc _, ?_⟩
               exact ⟨(q, b8), hC ▸ hq, ⟨rfl, rfl, rfl, rfl, rfl, rfl, trivial⟩, .refl _, rfl⟩
           · intro b8
             refine ⟨qc _, ?_⟩
             refine ce (fun w _ => QH hn3 ho1 rfl w) (fun n4 hn4 => ?_)
             refine ⟨qc _, ?_⟩
             refine ce (fun w _ => qas hn1 hn4 rfl w) (fun n5 hn5 => ?_)
             refine ⟨qc _, ?_⟩
             refine ce (fun w _ => ZO hn5 w) (fun q hq => ?_)
             refine ⟨qc _, ?_⟩
             refine sN 4 rfl (by rw [qd]; rfl) (qX _) ?_ (by kernel_rfl)
             refine ⟨qc _, ?_⟩
             refine ⟨qc _, ?_⟩
             exact ⟨(q, b8), hC ▸ hq, ⟨rfl, rfl, rfl, rfl, rfl, rfl, trivial⟩, .refl _, rfl⟩
         · intro b8
           refine ⟨qc _, ?_⟩
           refine ce (fun w _ => qs hn2 hsq rfl w) (fun n3 hn3 => ?_)
           refine ⟨qc _, ?_⟩
           refine ce (fun w _ => QH hn3 ho1 rfl w) (fun n4 hn4 => ?_)
           refine ⟨qc _, ?_⟩
           refine ce (fun w _ => qas hn1 hn4 rfl w) (fun n5 hn5 => ?_)
           refine ⟨qc _, ?_⟩
           refine ce (fun w _ => ZO hn5 w) (fun q hq => ?_)
           refine ⟨qc _, ?_⟩
           refine sN 4 rfl (by rw [qd]; rfl) (qX _) ?_ (by kernel_rfl)
           refine ⟨qc _, ?_⟩
           refine ⟨qc _, ?_⟩
           exact ⟨(q, b8), hC ▸ hq, ⟨rfl, rfl, rfl, rfl, rfl, rfl, trivial⟩, .refl _, rfl⟩
       · intro b8
         refine ⟨qc _, ?_⟩
         refine ce (fun w _ => qc0 w) (fun n2 hn2 => ?_)
         refine ⟨qc _, ?_⟩
         refine ce (fun w _ => qs hn2 hsq rfl w) (fun n3 hn3 => ?_)
         refine ⟨qc _, ?_⟩
         refine ce (fun w _ => QH hn3 ho1 rfl w) (fun n4 hn4 => ?_)
         refine ⟨qc _, ?_⟩
         refine ce (fun w _ => qas hn1 hn4 rfl w) (fun n5 hn5 => ?_)
         refine ⟨qc _, ?_⟩
         refine ce (fun w _ => ZO hn5 w) (fun q hq => ?_)
         refine ⟨qc _, ?_⟩
         refine sN 4 rfl (by rw [qd]; rfl) (qX _) ?_ (by kernel_rfl)
         refine ⟨qc _, ?_⟩
         refine ⟨qc _, ?_⟩
         exact ⟨(q, b8), hC ▸ hq, ⟨rfl, rfl, rfl, rfl, rfl, rfl, trivial⟩, .refl _, rfl⟩
     · intro b8
       refine ⟨qc _, ?_⟩
       refine ce (fun w _ => QN hsq ho1 rfl w) (fun n1 hn1 => ?_)
       refine ⟨qc _, ?_⟩
       refine ce (fun w _ => qc0 w) (fun n2 hn2 => ?_)
       refine ⟨qc _, ?_⟩
       refine ce (fun w _ => qs hn2 hsq rfl w) (fun n3 hn3 => ?_)
       refine ⟨qc _, ?_⟩
       refine ce (fun w _ => QH hn3 ho1 rfl w) (fun n4 hn4 => ?_)
       refine ⟨qc _, ?_⟩
       refine ce (fun w _ => qas hn1 hn4 rfl w) (fun n5 hn5 => ?_)
       refine ⟨qc _, ?_⟩
       refine ce (fun w _ => ZO hn5 w) (fun q hq => ?_)
       refine ⟨qc _, ?_⟩
       refine sN 4 rfl (by rw [qd]; rfl) (qX _) ?_ (by kernel_rfl)
       refine ⟨qc _, ?_⟩
       refine ⟨qc _, ?_⟩
       exact ⟨(q, b8), hC ▸ hq, ⟨rfl, rfl, rfl, rfl, rfl, rfl, trivial⟩, .refl _, rfl⟩
   · rintro ⟨q, b8⟩ hq
     dsimp only at hq
     refine ldN 4 rfl (qd _) ?_
     refine bu (c := e4 0) (by kernel_rfl) ?_
     refine cv (fun w => is_zero4 q (rt3 (cx Y)) _ hq.1 hq.2 rfl w) ?_
     have hno : ∀ v : Bool × Nat × Nat, bes (cx Y) even Y = (false, 0, 1) → ZS 0 0 0 false (bes (cx Y) even Y).2.1 (bes (cx Y) even Y).2.2 (1 % PP) := fun _ h => by
      rw [h]; exact ⟨⟨by decide, by decide, by decide⟩, .inr ⟨rfl, rfl, ZH, rfl⟩⟩
     have no : bes (cx Y) even Y = (false, 0, 1) → ∀ w1, St [] w w1 [cl b2 (e4 y) 180, cl b4 (pt 0 0 0 false) 182, cl b6 (e4 o1) 180, cl b7 (e4 sq) 180, cl b8 (e4 q) 180] → ∃ (x y z1 : Nat) (b : Bool), ZS x y z1 b (bes (cx Y) even Y).2.1 (bes (cx Y) even Y).2.2 (1 % PP) ∧ Value.tuple #[.agg (pt 0 0 0 false), .bool false] = .tuple #[.agg (pt x y z1 b), .bool (bes (cx Y) even Y).1] ∧ Below w.heap.size w w1 := fun h w1 hs => ⟨0, 0, 0, false, hno (false, 0, 1) h, by rw [h], hs.below⟩
     have hq0 : El (0 % PP) 0 := ⟨by decide, rfl⟩
     cases hok : zd (cx Y) with
     | false =>
      repeat (first | refine cf rfl ?_ | refine ct rfl ?_)
      refine bu (c := pt 0 0 0 false) (by kernel_rfl) ?_
      refine sN 1 rfl (by rw [qn]; rfl) (by rw [Array.all_toList]; exact Qx _ _ _ _) ?_ (by kernel_rfl)
      refine ldN 1 rfl (qn _ _ _ _) ?_
      exact ⟨fun w1 hs => no (bes_no1 (cx Y) even Y hok) w1 hs⟩
     | true =>
      cases even with
      | true =>
       have hb := qbm (cx Y) Y hok
       cases decide (rt3 (cx Y) = 0 % PP) <;>
       · repeat (first | refine cf rfl ?_ | refine ct rfl ?_)
         refine ldN 4 rfl (qd _) ?_
         refine ldN 0 rfl (qd _) ?_
         refine ldN 2 rfl (qd _) ?_
         refine ce (fun w _ => el_made hq hy1 ho1 w) (fun r hr => ?_)
         refine sN 1 rfl (by rw [qn]; rfl) (by rw [Array.all_toList]; exact Qx _ _ _ _) ?_ (by kernel_rfl)
         refine ldN 1 rfl (qn _ _ _ _) ?_
         exact ⟨fun w1 hs => ⟨_, _, _, _, by rw [hb]; exact hr, by rw [hb]; rfl, hs.below⟩⟩
      | false =>
       cases hz : decide (rt3 (cx Y) = 0 % PP) with
       | true =>
        repeat (first | refine cf rfl ?_ | refine ct rfl ?_)
        refine bu (c := pt 0 0 0 false) (by kernel_rfl) ?_
        refine sN 1 rfl (by rw [qn]; rfl) (by rw [Array.all_toList]; exact Qx _ _ _ _) ?_ (by kernel_rfl)
        refine ldN 1 rfl (qn _ _ _ _) ?_
        exact ⟨fun w1 hs => no (bes_no2 (cx Y) Y (of_decide_eq_true hz)) w1 hs⟩
       | false =>
        have hb := bes_odd (cx Y) Y hok (fun h => of_decide_eq_false hz h)
        repeat (first | refine cf rfl ?_ | refine ct rfl ?_)
        refine bu (c := e4 0) (by kernel_rfl) ?_
        refine ldN 4 rfl (qd _) ?_
        refine ce (fun w _ => QN hq0 hq rfl w) (fun q2 hq2 => ?_)
        refine sN 4 rfl (by rw [qd]; rfl) (qX _) ?_ (by kernel_rfl)
        refine ldN 4 rfl (qd _) ?_
        refine ldN 0 rfl (qd _) ?_
        refine ldN 2 rfl (qd _) ?_
        refine ce (fun w _ => el_made hq2 hy1 ho1 w) (fun r hr => ?_)
        refine sN 1 rfl (by rw [qn]; rfl) (by rw [Array.all_toList]; exact Qx _ _ _ _) ?_ (by kernel_rfl)
        refine ldN 1 rfl (qn _ _ _ _) ?_
        exact ⟨fun w1 hs => ⟨_, _, _, _, by rw [hb]; exact hr, by rw [hb]; rfl, hs.below⟩⟩
end
section
open Go.RowKit Go.Sx
def ZG (D X1 Y1 Z1 X2 Y2 Z2 : Nat) : Nat × Nat × Nat :=
 let A := Z1 * Z2 % PP
 let XX := X1 * X2 % PP
 let YY := Y1 * Y2 % PP
 let B := A * A % PP
 let E1 := D * XX % PP
 let E := E1 * YY % PP
 let F := (B + (PP - E)) % PP
 let G := (B + E) % PP
 let S1 := (X1 + Y1) % PP
 let S2 := (X2 + Y2) % PP
 let S3 := S1 * S2 % PP
 let S4 := (S3 + (PP - XX)) % PP
 let CR := (S4 + (PP - YY)) % PP
 let T1 := A * F % PP
 let T2 := A * G % PP
 let T3 := (YY + XX) % PP
 (T1 * CR % PP, T2 * T3 % PP, F * G % PP)
theorem padd_def (D X1 Y1 Z1 X2 Y2 Z2 A XX YY Bq E1 E F G S1 S2 S3 S4 CR T1 T2 T3 X3 Y3 Z3 : Nat) (hA : A = Z1 * Z2 % PP) (hXX : XX = X1 * X2 % PP) (hYY : YY = Y1 * Y2 % PP) (hBq : Bq = A * A % PP) (hE1 : E1 = D * XX % PP) (hE : E = E1 * YY % PP) (hF : F = (Bq + (PP - E)) % PP) (hG : G = (Bq + E) % PP) (hS1 : S1 = (X1 + Y1) % PP) (hS2 : S2 = (X2 + Y2) % PP) (hS3 : S3 = S1 * S2 % PP) (hS4 : S4 = (S3 + (PP - XX)) % PP) (hCR : CR = (S4 + (PP - YY)) % PP) (hT1 : T1 = A * F % PP) (hT2 : T2 = A * G % PP) (hT3 : T3 = (YY + XX) % PP) (hX3 : X3 = T1 * CR % PP) (hY3 : Y3 = T2 * T3 % PP) (hZ3 : Z3 = F * G % PP) : ZG D X1 Y1 Z1 X2 Y2 Z2 = (X3, Y3, Z3) := by
 unfold ZG
 rw [hX3, hY3, hZ3, hT1, hT2, hT3, hCR, hS4, hS3, hS1, hS2, hF, hG, hE, hE1, hBq, hA, hXX, hYY]
theorem add_of (d D : Nat) (hd : d < 115792089237316195423570985008687907853269984665640564039457584007913129639936) (hdD : d % PP = D) (x1 y1 c1 : Nat) (b1 : Bool) (X1 Y1 Z1 : Nat) (p1 : ZS x1 y1 c1 b1 X1 Y1 Z1) (x2 y2 c2 : Nat) (b2 : Bool) (X2 Y2 Z2 : Nat) (p2 : ZS x2 y2 c2 b2 X2 Y2 Z2) (w : World) :
 Calls Tryz.prog 169 #[.agg (e4 d), .agg (pt x1 y1 c1 b1), .agg (pt x2 y2 c2 b2)] w (PtP (ZG D X1 Y1 Z1 X2 Y2 Z2).1 (ZG D X1 Y1 Z1 X2 Y2 Z2).2.1 (ZG D X1 Y1 Z1 X2 Y2 Z2).2.2 w) := by
 have hd : El D d := ⟨hd, hdD⟩
 obtain ⟨A, hA⟩ : ∃ v, v = Z1 * Z2 % PP := ⟨_, rfl⟩
 obtain ⟨XX, hXX⟩ : ∃ v, v = X1 * X2 % PP := ⟨_, rfl⟩
 obtain ⟨YY, hYY⟩ : ∃ v, v = Y1 * Y2 % PP := ⟨_, rfl⟩
 obtain ⟨Bq, hBq⟩ : ∃ v, v = A * A % PP := ⟨_, rfl⟩
 obtain ⟨E1, hE1⟩ : ∃ v, v = D * XX % PP := ⟨_, rfl⟩
 obtain ⟨E, hE⟩ : ∃ v, v = E1 * YY % PP := ⟨_, rfl⟩
 obtain ⟨F, hF⟩ : ∃ v, v = (Bq + (PP - E)) % PP := ⟨_, rfl⟩
 obtain ⟨G, hG⟩ : ∃ v, v = (Bq + E) % PP := ⟨_, rfl⟩
 obtain ⟨S1, hS1⟩ : ∃ v, v = (X1 + Y1) % PP := ⟨_, rfl⟩
 obtain ⟨S2, hS2⟩ : ∃ v, v = (X2 + Y2) % PP := ⟨_, rfl⟩
 obtain ⟨S3, hS3⟩ : ∃ v, v = S1 * S2 % PP := ⟨_, rfl⟩
 obtain ⟨S4, hS4⟩ : ∃ v, v = (S3 + (PP - XX)) % PP := ⟨_, rfl⟩
 obtain ⟨CR, hCR⟩ : ∃ v, v = (S4 + (PP - YY)) % PP := ⟨_, rfl⟩
 obtain ⟨T1, hT1⟩ : ∃ v, v = A * F % PP := ⟨_, rfl⟩
 obtain ⟨T2, hT2⟩ : ∃ v, v = A * G % PP := ⟨_, rfl⟩
 obtain ⟨T3, hT3⟩ : ∃ v, v = (YY + XX) % PP := ⟨_, rfl⟩
 obtain ⟨X3, hX3⟩ : ∃ v, v = T1 * CR % PP := ⟨_, rfl⟩
 obtain ⟨Y3, hY3⟩ : ∃ v, v = T2 * T3 % PP := ⟨_, rfl⟩
 obtain ⟨Z3, hZ3⟩ : ∃ v, v = F * G % PP := ⟨_, rfl⟩
 have hpd := padd_def D X1 Y1 Z1 X2 Y2 Z2 A XX YY Bq E1 E F G S1 S2 S3 S4 CR T1 T2 T3 X3 Y3 Z3 hA hXX hYY hBq hE1 hE hF hG hS1 hS2 hS3 hS4 hCR hT1 hT2 hT3 hX3 hY3 hZ3
 rw [hpd]
 clear hpd
 refine (enter (R := fun v w' => ∃ (x y z1 : Nat) (b : Bool), ZS x y z1 b X3 Y3 Z3 ∧ v = .agg (pt x y z1 b) ∧ Below w.heap.size w w') qe Tryz.func169 rfl Tryz.ntmps169 rfl (St.start w) ?_).mono (fun e w' ⟨v, he, x, y, z1, b, h1, h2, h3⟩ => ⟨x, y, z1, b, h1, by rw [he, h2], h3⟩)
 intro b3 b4 b5 b6
 refine ldN 1 rfl (qn _ _ _ _) ?_
 refine ce (fun w _ => el_plain p1 w) (fun u hu => ?_)
 obtain ⟨u1, u2, u3⟩ := u
 obtain ⟨hu1, hu2, hu3⟩ := hu
 intro b7 b8 b9
 refine sN 4 rfl (by rw [qd]; rfl) (qX _) ?_ (by kernel_rfl)
 refine sN 5 rfl (by rw [qd]; rfl) (qX _) ?_ (by kernel_rfl)
 refine sN 6 rfl (by rw [qd]; rfl) (qX _) ?_ (by kernel_rfl)
 refine ldN 2 rfl (qn _ _ _ _) ?_
 refine ce (fun w _ => el_plain p2 w) (fun v hv => ?_)
 obtain ⟨v1, v2, v3⟩ := v
 obtain ⟨hv1, hv2, hv3⟩ := hv
 intro b10 b11 b12
 refine sN 7 rfl (by rw [qd]; rfl) (qX _) ?_ (by kernel_rfl)
 refine sN 8 rfl (by rw [qd]; rfl) (qX _) ?_ (by kernel_rfl)
 refine sN 9 rfl (by rw [qd]; rfl) (qX _) ?_ (by kernel_rfl)
 dsimp only at hu1 hu2 hu3 hv1 hv2 hv3
 refine cut (α := Nat × Nat × Nat × Nat × Nat × Nat) (fun x => El (A) x.1 ∧ El (XX) x.2.1 ∧ El (YY) x.2.2.1) (fun x => ⟨[(13, pq x.2.2.2.1), (14, pq x.2.2.2.2.1), (15, pq x.2.2.2.2.2), (3, pq b3), (4, pq b4), (5, pq b5), (6, pq b6), (7, pq b7), (8, pq b8), (9, pq b9), (10, pq b10), (11, pq b11), (12, pq b12)], [cl b3 (e4 d) 244, cl b4 (pt x1 y1 c1 b1) 182, cl b5 (pt x2 y2 c2 b2) 182, cl b6 pt0 182, cl b7 (e4 u1) 180, cl b8 (e4 u2) 180, cl b9 (e4 u3) 180, cl b10 (e4 v1) 180, cl b11 (e4 v2) 180, cl b12 (e4 v3) 180, cl x.2.2.2.1 (e4 x.1) 180, cl x.2.2.2.2.1 (e4 x.2.1) 180, cl x.2.2.2.2.2 (e4 x.2.2.1) 180], []⟩) ?_ ?_
 · let Sl : Fr := [(3, pq b3), (4, pq b4), (5, pq b5), (6, pq b6), (7, pq b7), (8, pq b8), (9, pq b9), (10, pq b10), (11, pq b11), (12, pq b12)]
   let En : List Ent := [cl b3 (e4 d) 244, cl b4 (pt x1 y1 c1 b1) 182, cl b5 (pt x2 y2 c2 b2) 182, cl b6 pt0 182, cl b7 (e4 u1) 180, cl b8 (e4 u2) 180, cl b9 (e4 u3) 180, cl b10 (e4 v1) 180, cl b11 (e4 v2) 180, cl b12 (e4 v3) 180]
   let Zr : Array Value := #[.int .u64 0, .int .u64 0, .int .u64 0, .int .u64 0]
   refine drg En [0, 1, 3, 4, 6, 7] 9 qe qk (by kernel_rfl) (by kernel_rfl) (.refl _) (fun T g => ?_)
   have H0 : ∀ (a xx yy b13 b14 b15 : Nat), El (A) a → El (XX) xx → El (YY) yy → T 0 #[tt,tt,tt,tt,tt,tt,tt,tt,tt,tt,tt,tt,tt,tt,tt] ⟨(13, pq b13) :: (14, pq b14) :: (15, pq b15) :: Sl, En ++ [cl b13 (e4 a) 180, cl b14 (e4 xx) 180, cl b15 (e4 yy) 180], []⟩ := by
    intro a xx yy b13 b14 b15 ha hxx hyy
    refine g.fin _ _ _ (by kernel_rfl) ?_
    exact ⟨(a, xx, yy, b13, b14, b15), ⟨ha, hxx, hyy⟩, ⟨rfl, rfl, rfl, rfl, rfl, rfl, rfl, rfl, rfl, rfl, rfl, rfl, rfl, trivial⟩, .refl _, rfl⟩
   have H1 : ∀ (a xx yy b13 b14 b15 : Nat), El (A) a → El (XX) xx → El (YY) yy → T 1 #[tt,tt,tt,tt,tt,tt,tt,tt,tt,tt,tt,tt,tt,tt,ff] ⟨(41, .agg (e4 yy)) :: (13, pq b13) :: (14, pq b14) :: (15, pq b15) :: Sl, En ++ [cl b13 (e4 a) 180, cl b14 (e4 xx) 180, cl b15 Zr 180], []⟩ := by
    intro a xx yy b13 b14 b15 ha hxx hyy
    refine g.one _ _ _ 14 (by kernel_rfl) (qc _) ?_
    refine sN 12 rfl (by rw [qd]; rfl) (qX _) ?_ (by kernel_rfl)
    refine ⟨qc _, ?_⟩
    exact g.go (H0 a xx yy b13 b14 b15 ha hxx hyy) (qc _) ⟨rfl, rfl, rfl, rfl, rfl, rfl, rfl, rfl, rfl, rfl, rfl, rfl, rfl, trivial⟩ ⟨_, .refl _, .refl _⟩ rfl
   have H2 : ∀ (a xx yy b13 b14 b15 : Nat), El (A) a → El (XX) xx → El (YY) yy → T 2 #[tt,tt,tt,tt,tt,tt,tt,tt,tt,tt,tt,tt,tt,ff,ff] ⟨(38, .agg (e4 xx)) :: (41, .agg (e4 yy)) :: (13, pq b13) :: (14, pq b14) :: (15, pq b15) :: Sl, En ++ [cl b13 (e4 a) 180, cl b14 Zr 180, cl b15 Zr 180], []⟩ := by
    intro a xx yy b13 b14 b15 ha hxx hyy
    refine g.one _ _ _ 13 (by kernel_rfl) (qc _) ?_
    refine sN 11 rfl (by rw [qd]; rfl) (qX _) ?_ (by kernel_rfl)
    refine ⟨qc _, ?_⟩
    exact g.go (H1 a xx yy b13 b14 b15 ha hxx hyy) (qc _) ⟨rfl, rfl, rfl, rfl, rfl, rfl, rfl, rfl, rfl, rfl, rfl, rfl, rfl, rfl, trivial⟩ ⟨_, .refl _, .refl _⟩ rfl
   have H3 : ∀ (a xx yy b13 b14 b15 : Nat), El (A) a → El (XX) xx → El (YY) yy → T 3 #[tt,tt,tt,tt,tt,tt,tt,tt,tt,tt,tt,tt,ff,ff,ff] ⟨(35, .agg (e4 a)) :: (38, .agg (e4 xx)) :: (41, .agg (e4 yy)) :: (13, pq b13) :: (14, pq b14) :: (15, pq b15) :: Sl, En ++ [cl b13 Zr 180, cl b14 Zr 180, cl b15 Zr 180], []⟩ := by
    intro a xx yy b13 b14 b15 ha hxx hyy
    refine g.one _ _ _ 12 (by kernel_rfl) (qc _) ?_
    refine sN 10 rfl (by rw [qd]; rfl) (qX _) ?_ (by kernel_rfl)
    refine ⟨qc _, ?_⟩
    exact g.go (H2 a xx yy b13 b14 b15 ha hxx hyy) (qc _) ⟨rfl, rfl, rfl, rfl, rfl, rfl, rfl, rfl, rfl, rfl, rfl, rfl, rfl, rfl, rfl, trivial⟩ ⟨_, .refl _, .refl _⟩ rfl
   have H4 : ∀ (a xx yy b13 b14 : Nat), El (A) a → El (XX) xx → El (YY) yy → T 4 #[tt,tt,tt,tt,tt,tt,tt,tt,tt,tt,tt,ff,ff,ff,ff] ⟨(35, .agg (e4 a)) :: (38, .agg (e4 xx)) :: (41, .agg (e4 yy)) :: (13, pq b13) :: (14, pq b14) :: Sl, En ++ [cl b13 Zr 180, cl b14 Zr 180], []⟩ := by
    intro a xx yy b13 b14 ha hxx hyy
    refine g.one _ _ _ 11 (by kernel_rfl) (qc _) ?_
    intro b15
    refine ⟨qc _, ?_⟩
    exact g.go (H3 a xx yy b13 b14 b15 ha hxx hyy) (qc _) ⟨rfl, rfl, rfl, rfl, rfl, rfl, rfl, rfl, rfl, rfl, rfl, rfl, rfl, rfl, rfl, rfl, trivial⟩ ⟨_, .refl _, .refl _⟩ rfl
   have H5 : ∀ (a xx yy b13 b15 : Nat), El (A) a → El (XX) xx → El (YY) yy → T 4 #[tt,tt,tt,tt,tt,tt,tt,tt,tt,tt,ff,tt,ff,ff,ff] ⟨(35, .agg (e4 a)) :: (38, .agg (e4 xx)) :: (41, .agg (e4 yy)) :: (13, pq b13) :: (15, pq b15) :: Sl, En ++ [cl b13 Zr 180, cl b15 Zr 180], []⟩ := by
    intro a xx yy b13 b15 ha hxx hyy
    refine g.one _ _ _ 10 (by kernel_rfl) (qc _) ?_
    intro b14
    refine ⟨qc _, ?_⟩
    exact g.go (H3 a xx yy b13 b14 b15 ha hxx hyy) (qc _) ⟨rfl, rfl, rfl, rfl, rfl, rfl, rfl, rfl, rfl, rfl, rfl, rfl, rfl, rfl, rfl, rfl, trivial⟩ ⟨_, qJ [_, _, _, _, _, _, _, _, _, _, _] _ [_], .refl _⟩ rfl
   have H6 : ∀ (a xx yy b14 b15 : Nat), El (A) a → El (XX) xx → El (YY) yy → T 4 #[tt,tt,tt,tt,tt,tt,tt,tt,tt,ff,tt,tt,ff,ff,ff] ⟨(35, .agg (e4 a)) :: (38, .agg (e4 xx)) :: (41, .agg (e4 yy)) :: (14, pq b14) :: (15, pq b15) :: Sl, En ++ [cl b14 Zr 180, cl b15 Zr 180], []⟩ := by
    intro a xx yy b14 b15 ha hxx hyy
    refine g.one _ _ _ 9 (by kernel_rfl) (qc _) ?_
    intro b13
    refine ⟨qc _, ?_⟩
    exact g.go (H3 a xx yy b13 b14 b15 ha hxx hyy) (qc _) ⟨rfl, rfl, rfl, rfl, rfl, rfl, rfl, rfl, rfl, rfl, rfl, rfl, rfl, rfl, rfl, rfl, trivial⟩ ⟨_, qJ [_, _, _, _, _, _, _, _, _, _] _ [_, _], .refl _⟩ rfl
   have H7 : ∀ (a xx b13 b14 b15 : Nat), El (A) a → El (XX) xx → T 4 #[tt,tt,tt,tt,tt,tt,tt,tt,ff,tt,tt,tt,ff,ff,ff] ⟨(35, .agg (e4 a)) :: (38, .agg (e4 xx)) :: (39, .agg (e4 u2)) :: (40, .agg (e4 v2)) :: (13, pq b13) :: (14, pq b14) :: (15, pq b15) :: Sl, En ++ [cl b13 Zr 180, cl b14 Zr 180, cl b15 Zr 180], []⟩ := by
    intro a xx b13 b14 b15 ha hxx
    refine g.one _ _ _ 8 (by kernel_rfl) (qc _) ?_
    refine ce (fun w _ => qs hu2 hv2 hYY w) (fun yy hyy => ?_)
    refine ⟨qc _, ?_⟩
    exact g.go (H3 a xx yy b13 b14 b15 ha hxx hyy) (qc _) ⟨rfl, rfl, rfl, rfl, rfl, rfl, rfl, rfl, rfl, rfl, rfl, rfl, rfl, rfl, rfl, rfl, trivial⟩ ⟨_, .refl _, .refl _⟩ rfl
   have H8 : ∀ (a xx yy b13 : Nat), El (A) a → El (XX) xx → El (YY) yy → T 5 #[tt,tt,tt,tt,tt,tt,tt,tt,tt,tt,ff,ff,ff,ff,ff] ⟨(35, .agg (e4 a)) :: (38, .agg (e4 xx)) :: (41, .agg (e4 yy)) :: (13, pq b13) :: Sl, En ++ [cl b13 Zr 180], []⟩ := by
    intro a xx yy b13 ha hxx hyy
    refine g.two _ _ _ 10 11 (by kernel_rfl) (qc _) ?_ ?_
    · intro b14
      refine ⟨qc _, ?_⟩
      exact g.go (H4 a xx yy b13 b14 ha hxx hyy) (qc _) ⟨rfl, rfl, rfl, rfl, rfl, rfl, rfl, rfl, rfl, rfl, rfl, rfl, rfl, rfl, rfl, trivial⟩ ⟨_, .refl _, .refl _⟩ rfl
    · intro b15
      refine ⟨qc _, ?_⟩
      exact g.go (H5 a xx yy b13 b15 ha hxx hyy) (qc _) ⟨rfl, rfl, rfl, rfl, rfl, rfl, rfl, rfl, rfl, rfl, rfl, rfl, rfl, rfl, rfl, trivial⟩ ⟨_, .refl _, .refl _⟩ rfl
   have H9 : ∀ (a xx yy b14 : Nat), El (A) a → El (XX) xx → El (YY) yy → T 5 #[tt,tt,tt,tt,tt,tt,tt,tt,tt,ff,tt,ff,ff,ff,ff] ⟨(35, .agg (e4 a)) :: (38, .agg (e4 xx)) :: (41, .agg (e4 yy)) :: (14, pq b14) :: Sl, En ++ [cl b14 Zr 180], []⟩ := by
    intro a xx yy b14 ha hxx hyy
    refine g.two _ _ _ 9 11 (by kernel_rfl) (qc _) ?_ ?_
    · intro b13
      refine ⟨qc _, ?_⟩
      exact g.go (H4 a xx yy b13 b14 ha hxx hyy) (qc _) ⟨rfl, rfl, rfl, rfl, rfl, rfl, rfl, rfl, rfl, rfl, rfl, rfl, rfl, rfl, rfl, trivial⟩ ⟨_, qJ [_, _, _, _, _, _, _, _, _, _] _ [_], .refl _⟩ rfl
    · intro b15
      refine ⟨qc _, ?_⟩
      exact g.go (H6 a xx yy b14 b15 ha hxx hyy) (qc _) ⟨rfl, rfl, rfl, rfl, rfl, rfl, rfl, rfl, rfl, rfl, rfl, rfl, rfl, rfl, rfl, trivial⟩ ⟨_, .refl _, .refl _⟩ rfl
   have H10 : ∀ (a xx yy b15 : Nat), El (A) a → El (XX) xx → El (YY) yy → T 5 #[tt,tt,tt,tt,tt,tt,tt,tt,tt,ff,ff,tt,ff,ff,ff] ⟨(35, .agg (e4 a)) :: (38, .agg (e4 xx)) :: (41, .agg (e4 yy)) :: (15, pq b15) :: Sl, En ++ [cl b15 Zr 180], []⟩ := by
    intro a xx yy b15 ha hxx hyy
    refine g.two _ _ _ 9 10 (by kernel_rfl) (qc _) ?_ ?_
    · intro b13
      refine ⟨qc _, ?_⟩
      exact g.go (H5 a xx yy b13 b15 ha hxx hyy) (qc _) ⟨rfl, rfl, rfl, rfl, rfl, rfl, rfl, rfl, rfl, rfl, rfl, rfl, rfl, rfl, rfl, trivial⟩ ⟨_, qJ [_, _, _, _, _, _, _, _, _, _] _ [_], .refl _⟩ rfl
    · intro b14
      refine ⟨qc _, ?_⟩
      exact g.go (H6 a xx yy b14 b15 ha hxx hyy) (qc _) ⟨rfl, rfl, rfl, rfl, rfl, rfl, rfl, rfl, rfl, rfl, rfl, rfl, rfl, rfl, rfl, trivial⟩ ⟨_, qJ [_, _, _, _, _, _, _, _, _, _] _ [_], .refl _⟩ rfl
   have H11 : ∀ (a xx b13 b14 : Nat), El (A) a → El (XX) xx → T 5 #[tt,tt,tt,tt,tt,tt,tt,tt,ff,tt,tt,ff,ff,ff,ff] ⟨(35, .agg (e4 a)) :: (38, .agg (e4 xx)) :: (39, .agg (e4 u2)) :: (40, .agg (e4 v2)) :: (13, pq b13) :: (14, pq b14) :: Sl, En ++ [cl b13 Zr 180, cl b14 Zr 180], []⟩ := by
    intro a xx b13 b14 ha hxx
    refine g.two _ _ _ 8 11 (by kernel_rfl) (qc _) ?_ ?_
    · refine ce (fun w _ => qs hu2 hv2 hYY w) (fun yy hyy => ?_)
      refine ⟨qc _, ?_⟩
      exact g.go (H4 a xx yy b13 b14 ha hxx hyy) (qc _) ⟨rfl, rfl, rfl, rfl, rfl, rfl, rfl, rfl, rfl, rfl, rfl, rfl, rfl, rfl, rfl, trivial⟩ ⟨_, .refl _, .refl _⟩ rfl
    · intro b15
      refine ⟨qc _, ?_⟩
      exact g.go (H7 a xx b13 b14 b15 ha hxx) (qc _) ⟨rfl, rfl, rfl, rfl, rfl, rfl, rfl, rfl, rfl, rfl, rfl, rfl, rfl, rfl, rfl, rfl, rfl, trivial⟩ ⟨_, .refl _, .refl _⟩ rfl
   have H12 : ∀ (a xx b13 b15 : Nat), El (A) a → El (XX) xx → T 5 #[tt,tt,tt,tt,tt,tt,tt,tt,ff,tt,ff,tt,ff,ff,ff] ⟨(35, .agg (e4 a)) :: (38, .agg (e4 xx)) :: (39, .agg (e4 u2)) :: (40, .agg (e4 v2)) :: (13, pq b13) :: (15, pq b15) :: Sl, En ++ [cl b13 Zr 180, cl b15 Zr 180], []⟩ := by
    intro a xx b13 b15 ha hxx
    refine g.two _ _ _ 8 10 (by kernel_rfl) (qc _) ?_ ?_
    · refine ce (fun w _ => qs hu2 hv2 hYY w) (fun yy hyy => ?_)
      refine ⟨qc _, ?_⟩
      exact g.go (H5 a xx yy b13 b15 ha hxx hyy) (qc _) ⟨rfl, rfl, rfl, rfl, rfl, rfl, rfl, rfl, rfl, rfl, rfl, rfl, rfl, rfl, rfl, trivial⟩ ⟨_, .refl _, .refl _⟩ rfl
    · intro b14
      refine ⟨qc _, ?_⟩
      exact g.go (H7 a xx b13 b14 b15 ha hxx) (qc _) ⟨rfl, rfl, rfl, rfl, rfl, rfl, rfl, rfl, rfl, rfl, rfl, rfl, rfl, rfl, rfl, rfl, rfl, trivial⟩ ⟨_, qJ [_, _, _, _, _, _, _, _, _, _, _] _ [_], .refl _⟩ rfl
   have H13 : ∀ (a xx b14 b15 : Nat), El (A) a → El (XX) xx → T 5 #[tt,tt,tt,tt,tt,tt,tt,tt,ff,ff,tt,tt,ff,ff,ff] ⟨(35, .agg (e4 a)) :: (38, .agg (e4 xx)) :: (39, .agg (e4 u2)) :: (40, .agg (e4 v2)) :: (14, pq b14) :: (15, pq b15) :: Sl, En ++ [cl b14 Zr 180, cl b15 Zr 180], []⟩ := by
    intro a xx b14 b15 ha hxx
    refine g.two _ _ _ 8 9 (by kernel_rfl) (qc _) ?_ ?_
    · refine ce (fun w _ => qs hu2 hv2 hYY w) (fun yy hyy => ?_)
      refine ⟨qc _, ?_⟩
      exact g.go (H6 a xx yy b14 b15 ha hxx hyy) (qc _) ⟨rfl, rfl, rfl, rfl, rfl, rfl, rfl, rfl, rfl, rfl, rfl, rfl, rfl, rfl, rfl, trivial⟩ ⟨_, .refl _, .refl _⟩ rfl
    · intro b13
      refine ⟨qc _, ?_⟩
      exact g.go (H7 a xx b13 b14 b15 ha hxx) (qc _) ⟨rfl, rfl, rfl, rfl, rfl, rfl, rfl, rfl, rfl, rfl, rfl, rfl, rfl, rfl, rfl, rfl, rfl, trivial⟩ ⟨_, qJ [_, _, _, _, _, _, _, _, _, _] _ [_, _], .refl _⟩ rfl
   have H14 : ∀ (a b13 b14 b15 : Nat), El (A) a → T 5 #[tt,tt,tt,tt,tt,ff,tt,tt,ff,tt,tt,tt,ff,ff,ff] ⟨(35, .agg (e4 a)) :: (36, .agg (e4 u1)) :: (37, .agg (e4 v1)) :: (39, .agg (e4 u2)) :: (40, .agg (e4 v2)) :: (13, pq b13) :: (14, pq b14) :: (15, pq b15) :: Sl, En ++ [cl b13 Zr 180, cl b14 Zr 180, cl b15 Zr 180], []⟩ := by
    intro a b13 b14 b15 ha
    refine g.one _ _ _ 5 (by kernel_rfl) (qc _) ?_
    refine ce (fun w _ => qs hu1 hv1 hXX w) (fun xx hxx => ?_)
    refine ⟨qc _, ?_⟩
    exact g.go (H7 a xx b13 b14 b15 ha hxx) (qc _) ⟨rfl, rfl, rfl, rfl, rfl, rfl, rfl, rfl, rfl, rfl, rfl, rfl, rfl, rfl, rfl, rfl, rfl, trivial⟩ ⟨_, .refl _, .refl _⟩ rfl
   have H15 : ∀ (a xx yy : Nat), El (A) a → El (XX) xx → El (YY) yy → T 6 #[tt,tt,tt,tt,tt,tt,tt,tt,tt,ff,ff,ff,ff,ff,ff] ⟨(35, .agg (e4 a)) :: (38, .agg (e4 xx)) :: (41, .agg (e4 yy)) :: Sl, En, []⟩ := by
    intro a xx yy ha hxx hyy
    refine g.three _ _ _ 9 10 11 (by kernel_rfl) (qc _) ?_ ?_ ?_
    · intro b13
      refine ⟨qc _, ?_⟩
      exact g.go (H8 a xx yy b13 ha hxx hyy) (qc _) ⟨rfl, rfl, rfl, rfl, rfl, rfl, rfl, rfl, rfl, rfl, rfl, rfl, rfl, rfl, trivial⟩ ⟨_, .refl _, .refl _⟩ rfl
    · intro b14
      refine ⟨qc _, ?_⟩
      exact g.go (H9 a xx yy b14 ha hxx hyy) (qc _) ⟨rfl, rfl, rfl, rfl, rfl, rfl, rfl, rfl, rfl, rfl, rfl, rfl, rfl, rfl, trivial⟩ ⟨_, .refl _, .refl _⟩ rfl
    · intro b15
      refine ⟨qc _, ?_⟩
      exact g.go (H10 a xx yy b15 ha hxx hyy) (qc _) ⟨rfl, rfl, rfl, rfl, rfl, rfl, rfl, rfl, rfl, rfl, rfl, rfl, rfl, rfl, trivial⟩ ⟨_, .refl _, .refl _⟩ rfl
   have H16 : ∀ (a xx b13 : Nat), El (A) a → El (XX) xx → T 6 #[tt,tt,tt,tt,tt,tt,tt,tt,ff,tt,ff,ff,ff,ff,ff] ⟨(35, .agg (e4 a)) :: (38, .agg (e4 xx)) :: (39, .agg (e4 u2)) :: (40, .agg (e4 v2)) :: (13, pq b13) :: Sl, En ++ [cl b13 Zr 180], []⟩ := by
    intro a xx b13 ha hxx
    refine g.three _ _ _ 8 10 11 (by kernel_rfl) (qc _) ?_ ?_ ?_
    · refine ce (fun w _ => qs hu2 hv2 hYY w) (fun yy hyy => ?_)
      refine ⟨qc _, ?_⟩
      exact g.go (H8 a xx yy b13 ha hxx hyy) (qc _) ⟨rfl, rfl, rfl, rfl, rfl, rfl, rfl, rfl, rfl, rfl, rfl, rfl, rfl, rfl, trivial⟩ ⟨_, .refl _, .refl _⟩ rfl
    · intro b14
      refine ⟨qc _, ?_⟩
      exact g.go (H11 a xx b13 b14 ha hxx) (qc _) ⟨rfl, rfl, rfl, rfl, rfl, rfl, rfl, rfl, rfl, rfl, rfl, rfl, rfl, rfl, rfl, rfl, trivial⟩ ⟨_, .refl _, .refl _⟩ rfl
    · intro b15
      refine ⟨qc _, ?_⟩
      exact g.go (H12 a xx b13 b15 ha hxx) (qc _) ⟨rfl, rfl, rfl, rfl, rfl, rfl, rfl, rfl, rfl, rfl, rfl, rfl, rfl, rfl, rfl, rfl, trivial⟩ ⟨_, .refl _, .refl _⟩ rfl
   have H17 : ∀ (a xx b14 : Nat), El (A) a → El (XX) xx → T 6 #[tt,tt,tt,tt,tt,tt,tt,tt,ff,ff,tt,ff,ff,ff,ff] ⟨(35, .agg (e4 a)) :: (38, .agg (e4 xx)) :: (39, .agg (e4 u2)) :: (40, .agg (e4 v2)) :: (14, pq b14) :: Sl, En ++ [cl b14 Zr 180], []⟩ := by
    intro a xx b14 ha hxx
    refine g.three _ _ _ 8 9 11 (by kernel_rfl) (qc _) ?_ ?_ ?_
    · refine ce (fun w _ => qs hu2 hv2 hYY w) (fun yy hyy => ?_)
      refine ⟨qc _, ?_⟩
      exact g.go (H9 a xx yy b14 ha hxx hyy) (qc _) ⟨rfl, rfl, rfl, rfl, rfl, rfl, rfl, rfl, rfl, rfl, rfl, rfl, rfl, rfl, trivial⟩ ⟨_, .refl _, .refl _⟩ rfl
    · intro b13
      refine ⟨qc _, ?_⟩
      exact g.go (H11 a xx b13 b14 ha hxx) (qc _) ⟨rfl, rfl, rfl, rfl, rfl, rfl, rfl, rfl, rfl, rfl, rfl, rfl, rfl, rfl, rfl, rfl, trivial⟩ ⟨_, qJ [_, _, _, _, _, _, _, _, _, _] _ [_], .refl _⟩ rfl
    · intro b15
      refine ⟨qc _, ?_⟩
      exact g.go (H13 a xx b14 b15 ha hxx) (qc _) ⟨rfl, rfl, rfl, rfl, rfl, rfl, rfl, rfl, rfl, rfl, rfl, rfl, rfl, rfl, rfl, rfl, trivial⟩ ⟨_, .refl _, .refl _⟩ rfl
   have H18 : ∀ (a xx b15 : Nat), El (A) a → El (XX) xx → T 6 #[tt,tt,tt,tt,tt,tt,tt,tt,ff,ff,ff,tt,ff,ff,ff] ⟨(35, .agg (e4 a)) :: (38, .agg (e4 xx)) :: (39, .agg (e4 u2)) :: (40, .agg (e4 v2)) :: (15, pq b15) :: Sl, En ++ [cl b15 Zr 180], []⟩ := by
    intro a xx b15 ha hxx
    refine g.three _ _ _ 8 9 10 (by kernel_rfl) (qc _) ?_ ?_ ?_
    · refine ce (fun w _ => qs hu2 hv2 hYY w) (fun yy hyy => ?_)
      refine ⟨qc _, ?_⟩
      exact g.go (H10 a xx yy b15 ha hxx hyy) (qc _) ⟨rfl, rfl, rfl, rfl, rfl, rfl, rfl, rfl, rfl, rfl, rfl, rfl, rfl, rfl, trivial⟩ ⟨_, .refl _, .refl _⟩ rfl
    · intro b13
      refine ⟨qc _, ?_⟩
      exact g.go (H12 a xx b13 b15 ha hxx) (qc _) ⟨rfl, rfl, rfl, rfl, rfl, rfl, rfl, rfl, rfl, rfl, rfl, rfl, rfl, rfl, rfl, rfl, trivial⟩ ⟨_, qJ [_, _, _, _, _, _, _, _, _, _] _ [_], .refl _⟩ rfl
    · intro b14
      refine ⟨qc _, ?_⟩
      exact g.go (H13 a xx b14 b15 ha hxx) (qc _) ⟨rfl, rfl, rfl, rfl, rfl, rfl, rfl, rfl, rfl, rfl, rfl, rfl, rfl, rfl, rfl, rfl, trivial⟩ ⟨_, qJ [_, _, _, _, _, _, _, _, _, _] _ [_], .refl _⟩ rfl
   have H19 : ∀ (a b13 b14 : Nat), El (A) a → T 6 #[tt,tt,tt,tt,tt,ff,tt,tt,ff,tt,tt,ff,ff,ff,ff] ⟨(35, .agg (e4 a)) :: (36, .agg (e4 u1)) :: (37, .agg (e4 v1)) :: (39, .agg (e4 u2)) :: (40, .agg (e4 v2)) :: (13, pq b13) :: (14, pq b14) :: Sl, En ++ [cl b13 Zr 180, cl b14 Zr 180], []⟩ := by
    intro a b13 b14 ha
    refine g.two _ _ _ 5 11 (by kernel_rfl) (qc _) ?_ ?_
    · refine ce (fun w _ => qs hu1 hv1 hXX w) (fun xx hxx => ?_)
      refine ⟨qc _, ?_⟩
      exact g.go (H11 a xx b13 b14 ha hxx) (qc _) ⟨rfl, rfl, rfl, rfl, rfl, rfl, rfl, rfl, rfl, rfl, rfl, rfl, rfl, rfl, rfl, rfl, trivial⟩ ⟨_, .refl _, .refl _⟩ rfl
    · intro b15
      refine ⟨qc _, ?_⟩
      exact g.go (H14 a b13 b14 b15 ha) (qc _) ⟨rfl, rfl, rfl, rfl, rfl, rfl, rfl, rfl, rfl, rfl, rfl, rfl, rfl, rfl, rfl, rfl, rfl, rfl, trivial⟩ ⟨_, .refl _, .refl _⟩ rfl
   have H20 : ∀ (a b13 b15 : Nat), El (A) a → T 6 #[tt,tt,tt,tt,tt,ff,tt,tt,ff,tt,ff,tt,ff,ff,ff] ⟨(35, .agg (e4 a)) :: (36, .agg (e4 u1)) :: (37, .agg (e4 v1)) :: (39, .agg (e4 u2)) :: (40, .agg (e4 v2)) :: (13, pq b13) :: (15, pq b15) :: Sl, En ++ [cl b13 Zr 180, cl b15 Zr 180], []⟩ := by
    intro a b13 b15 ha
    refine g.two _ _ _ 5 10 (by kernel_rfl) (qc _) ?_ ?_
    · refine ce (fun w _ => qs hu1 hv1 hXX w) (fun xx hxx => ?_)
      refine ⟨qc _, ?_⟩
      exact g.go (H12 a xx b13 b15 ha hxx) (qc _) ⟨rfl, rfl, rfl, rfl, rfl, rfl, rfl, rfl, rfl, rfl, rfl, rfl, rfl, rfl, rfl, rfl, trivial⟩ ⟨_, .refl _, .refl _⟩ rfl
    · intro b14
      refine ⟨qc _, ?_⟩
      exact g.go (H14 a b13 b14 b15 ha) (qc _) ⟨rfl, rfl, rfl, rfl, rfl, rfl, rfl, rfl, rfl, rfl, rfl, rfl, rfl, rfl, rfl, rfl, rfl, rfl, trivial⟩ ⟨_, qJ [_, _, _, _, _, _, _, _, _, _, _] _ [_], .refl _⟩ rfl
   have H21 : ∀ (a b14 b15 : Nat), El (A) a → T 6 #[tt,tt,tt,tt,tt,ff,tt,tt,ff,ff,tt,tt,ff,ff,ff] ⟨(35, .agg (e4 a)) :: (36, .agg (e4 u1)) :: (37, .agg (e4 v1)) :: (39, .agg (e4 u2)) :: (40, .agg (e4 v2)) :: (14, pq b14) :: (15, pq b15) :: Sl, En ++ [cl b14 Zr 180, cl b15 Zr 180], []⟩ := by
    intro a b14 b15 ha
    refine g.two _ _ _ 5 9 (by kernel_rfl) (qc _) ?_ ?_
    · refine ce (fun w _ => qs hu1 hv1 hXX w) (fun xx hxx => ?_)
      refine ⟨qc _, ?_⟩
      exact g.go (H13 a xx b14 b15 ha hxx) (qc _) ⟨rfl, rfl, rfl, rfl, rfl, rfl, rfl, rfl, rfl, rfl, rfl, rfl, rfl, rfl, rfl, rfl, trivial⟩ ⟨_, .refl _, .refl _⟩ rfl
    · intro b13
      refine ⟨qc _, ?_⟩
      exact g.go (H14 a b13 b14 b15 ha) (qc _) ⟨rfl, rfl, rfl, rfl, rfl, rfl, rfl, rfl, rfl, rfl, rfl, rfl, rfl, rfl, rfl, rfl, rfl, rfl, trivial⟩ ⟨_, qJ [_, _, _, _, _, _, _, _, _, _] _ [_, _], .refl _⟩ rfl
   have H22 : ∀ (b13 b14 b15 : Nat), T 6 #[tt,tt,ff,tt,tt,ff,tt,tt,ff,tt,tt,tt,ff,ff,ff] ⟨(33, .agg (e4 u3)) :: (34, .agg (e4 v3)) :: (36, .agg (e4 u1)) :: (37, .agg (e4 v1)) :: (39, .agg (e4 u2)) :: (40, .agg (e4 v2)) :: (13, pq b13) :: (14, pq b14) :: (15, pq b15) :: Sl, En ++ [cl b13 Zr 180, cl b14 Zr 180, cl b15 Zr 180], []⟩ := by
    intro b13 b14 b15
    refine g.one _ _ _ 2 (by kernel_rfl) (qc _) ?_
    refine ce (fun w _ => qs hu3 hv3 hA w) (fun a ha => ?_)
    refine ⟨qc _, ?_⟩
    exact g.go (H14 a b13 b14 b15 ha) (qc _) ⟨rfl, rfl, rfl, rfl, rfl, rfl, rfl, rfl, rfl, rfl, rfl, rfl, rfl, rfl, rfl, rfl, rfl, rfl, trivial⟩ ⟨_, .refl _, .refl _⟩ rfl
   have H23 : ∀ (a xx : Nat), El (A) a → El (XX) xx → T 7 #[tt,tt,tt,tt,tt,tt,tt,tt,ff,ff,ff,ff,ff,ff,ff] ⟨(35, .agg (e4 a)) :: (38, .agg (e4 xx)) :: (39, .agg (e4 u2)) :: (40, .agg (e4 v2)) :: Sl, En, []⟩ := by
    intro a xx ha hxx
    refine g.four _ _ _ 8 9 10 11 (by kernel_rfl) (qc _) ?_ ?_ ?_ ?_
    · refine ce (fun w _ => qs hu2 hv2 hYY w) (fun yy hyy => ?_)
      refine ⟨qc _, ?_⟩
      exact g.go (H15 a xx yy ha hxx hyy) (qc _) ⟨rfl, rfl, rfl, rfl, rfl, rfl, rfl, rfl, rfl, rfl, rfl, rfl, rfl, trivial⟩ ⟨_, .refl _, .refl _⟩ rfl
    · intro b13
      refine ⟨qc _, ?_⟩
      exact g.go (H16 a xx b13 ha hxx) (qc _) ⟨rfl, rfl, rfl, rfl, rfl, rfl, rfl, rfl, rfl, rfl, rfl, rfl, rfl, rfl, rfl, trivial⟩ ⟨_, .refl _, .refl _⟩ rfl
    · intro b14
      refine ⟨qc _, ?_⟩
      exact g.go (H17 a xx b14 ha hxx) (qc _) ⟨rfl, rfl, rfl, rfl, rfl, rfl, rfl, rfl, rfl, rfl, rfl, rfl, rfl, rfl, rfl, trivial⟩ ⟨_, .refl _, .refl _⟩ rfl
    · intro b15
      refine ⟨qc _, ?_⟩
      exact g.go (H18 a xx b15 ha hxx) (qc _) ⟨rfl, rfl, rfl, rfl, rfl, rfl, rfl, rfl, rfl, rfl, rfl, rfl, rfl, rfl, rfl, trivial⟩ ⟨_, .refl _, .refl _⟩ rfl
   have H24 : ∀ (a b13 : Nat), El (A) a → T 7 #[tt,tt,tt,tt,tt,ff,tt,tt,ff,tt,ff,ff,ff,ff,ff] ⟨(35, .agg (e4 a)) :: (36, .agg (e4 u1)) :: (37, .agg (e4 v1)) :: (39, .agg (e4 u2)) :: (40, .agg (e4 v2)) :: (13, pq b13) :: Sl, En ++ [cl b13 Zr 180], []⟩ := by
    intro a b13 ha
    refine g.three _ _ _ 5 10 11 (by kernel_rfl) (qc _) ?_ ?_ ?_
    · refine ce (fun w _ => qs hu1 hv1 hXX w) (fun xx hxx => ?_)
      refine ⟨qc _, ?_⟩
      exact g.go (H16 a xx b13 ha hxx) (qc _) ⟨rfl, rfl, rfl, rfl, rfl, rfl, rfl, rfl, rfl, rfl, rfl, rfl, rfl, rfl, rfl, trivial⟩ ⟨_, .refl _, .refl _⟩ rfl
    · intro b14
      refine ⟨qc _, ?_⟩
      exact g.go (H19 a b13 b14 ha) (qc _) ⟨rfl, rfl, rfl, rfl, rfl, rfl, rfl, rfl, rfl, rfl, rfl, rfl, rfl, rfl, rfl, rfl, rfl, trivial⟩ ⟨_, .refl _, .refl _⟩ rfl
    · intro b15
      refine ⟨qc _, ?_⟩
      exact g.go (H20 a b13 b15 ha) (qc _) ⟨rfl, rfl, rfl, rfl, rfl, rfl, rfl, rfl, rfl, rfl, rfl, rfl, rfl, rfl, rfl, rfl, rfl, trivial⟩ ⟨_, .refl _, .refl _⟩ rfl
   have H25 : ∀ (a b14 : Nat), El (A) a → T 7 #[tt,tt,tt,tt,tt,ff,tt,tt,ff,ff,tt,ff,ff,ff,ff] ⟨(35, .agg (e4 a)) :: (36, .agg (e4 u1)) :: (37, .agg (e4 v1)) :: (39, .agg (e4 u2)) :: (40, .agg (e4 v2)) :: (14, pq b14) :: Sl, En ++ [cl b14 Zr 180], []⟩ := by
    intro a b14 ha
    refine g.three _ _ _ 5 9 11 (by kernel_rfl) (qc _) ?_ ?_ ?_
    · refine ce (fun w _ => qs hu1 hv1 hXX w) (fun xx hxx => ?_)
      refine ⟨qc _, ?_⟩
      exact g.go (H17 a xx b14 ha hxx) (qc _) ⟨rfl, rfl, rfl, rfl, rfl, rfl, rfl, rfl, rfl, rfl, rfl, rfl, rfl, rfl, rfl, trivial⟩ ⟨_, .refl _, .refl _⟩ rfl
    · intro b13
      refine ⟨qc _, ?_⟩
      exact g.go (H19 a b13 b14 ha) (qc _) ⟨rfl, rfl, rfl, rfl, rfl, rfl, rfl, rfl, rfl, rfl, rfl, rfl, rfl, rfl, rfl, rfl, rfl, trivial⟩ ⟨_, qJ [_, _, _, _, _, _, _, _, _, _] _ [_], .refl _⟩ rfl
    · intro b15
      refine ⟨qc _, ?_⟩
      exact g.go (H21 a b14 b15 ha) (qc _) ⟨rfl, rfl, rfl, rfl, rfl, rfl, rfl, rfl, rfl, rfl, rfl, rfl, rfl, rfl, rfl, rfl, rfl, trivial⟩ ⟨_, .refl _, .refl _⟩ rfl
   have H26 : ∀ (a b15 : Nat), El (A) a → T 7 #[tt,tt,tt,tt,tt,ff,tt,tt,ff,ff,ff,tt,ff,ff,ff] ⟨(35, .agg (e4 a)) :: (36, .agg (e4 u1)) :: (37, .agg (e4 v1)) :: (39, .agg (e4 u2)) :: (40, .agg (e4 v2)) :: (15, pq b15) :: Sl, En ++ [cl b15 Zr 180], []⟩ := by
    intro a b15 ha
    refine g.three _ _ _ 5 9 10 (by kernel_rfl) (qc _) ?_ ?_ ?_
    · refine ce (fun w _ => qs hu1 hv1 hXX w) (fun xx hxx => ?_)
      refine ⟨qc _, ?_⟩
      exact g.go (H18 a xx b15 ha hxx) (qc _) ⟨rfl, rfl, rfl, rfl, rfl, rfl, rfl, rfl, rfl, rfl, rfl, rfl, rfl, rfl, rfl, trivial⟩ ⟨_, .refl _, .refl _⟩ rfl
    · intro b13
      refine ⟨qc _, ?_⟩
      exact g.go (H20 a b13 b15 ha) (qc _) ⟨rfl, rfl, rfl, rfl, rfl, rfl, rfl, rfl, rfl, rfl, rfl, rfl, rfl, rfl, rfl, rfl, rfl, trivial⟩ ⟨_, qJ [_, _, _, _, _, _, _, _, _, _] _ [_], .refl _⟩ rfl
    · intro b14
      refine ⟨qc _, ?_⟩
      exact g.go (H21 a b14 b15 ha) (qc _) ⟨rfl, rfl, rfl, rfl, rfl, rfl, rfl, rfl, rfl, rfl, rfl, rfl, rfl, rfl, rfl, rfl, rfl, trivial⟩ ⟨_, qJ [_, _, _, _, _, _, _, _, _, _] _ [_], .refl _⟩ rfl
   have H27 : ∀ (b13 b14 : Nat), T 7 #[tt,tt,ff,tt,tt,ff,tt,tt,ff,tt,tt,ff,ff,ff,ff] ⟨(33, .agg (e4 u3)) :: (34, .agg (e4 v3)) :: (36, .agg (e4 u1)) :: (37, .agg (e4 v1)) :: (39, .agg (e4 u2)) :: (40, .agg (e4 v2)) :: (13, pq b13) :: (14, pq b14) :: Sl, En ++ [cl b13 Zr 180, cl b14 Zr 180], []⟩ := by
    intro b13 b14
    refine g.two _ _ _ 2 11 (by kernel_rfl) (qc _) ?_ ?_
    · refine ce (fun w _ => qs hu3 hv3 hA w) (fun a ha => ?_)
      refine ⟨qc _, ?_⟩
      exact g.go (H19 a b13 b14 ha) (qc _) ⟨rfl, rfl, rfl, rfl, rfl, rfl, rfl, rfl, rfl, rfl, rfl, rfl, rfl, rfl, rfl, rfl, rfl, trivial⟩ ⟨_, .refl _, .refl _⟩ rfl
    · intro b15
      refine ⟨qc _, ?_⟩
      exact g.go (H22 b13 b14 b15) (qc _) ⟨rfl, rfl, rfl, rfl, rfl, rfl, rfl, rfl, rfl, rfl, rfl, rfl, rfl, rfl, rfl, rfl, rfl, rfl, rfl, trivial⟩ ⟨_, .refl _, .refl _⟩ rfl
   have H28 : ∀ (b13 b15 : Nat), T 7 #[tt,tt,ff,tt,tt,ff,tt,tt,ff,tt,ff,tt,ff,ff,ff] ⟨(33, .agg (e4 u3)) :: (34, .agg (e4 v3)) :: (36, .agg (e4 u1)) :: (37, .agg (e4 v1)) :: (39, .agg (e4 u2)) :: (40, .agg (e4 v2)) :: (13, pq b13) :: (15, pq b15) :: Sl, En ++ [cl b13 Zr 180, cl b15 Zr 180], []⟩ := by
    intro b13 b15
    refine g.two _ _ _ 2 10 (by kernel_rfl) (qc _) ?_ ?_
    · refine ce (fun w _ => qs hu3 hv3 hA w) (fun a ha => ?_)
      refine ⟨qc _, ?_⟩
      exact g.go (H20 a b13 b15 ha) (qc _) ⟨rfl, rfl, rfl, rfl, rfl, rfl, rfl, rfl, rfl, rfl, rfl, rfl, rfl, rfl, rfl, rfl, rfl, trivial⟩ ⟨_, .refl _, .refl _⟩ rfl
    · intro b14
      refine ⟨qc _, ?_⟩
      exact g.go (H22 b13 b14 b15) (qc _) ⟨rfl, rfl, rfl, rfl, rfl, rfl, rfl, rfl, rfl, rfl, rfl, rfl, rfl, rfl, rfl, rfl, rfl, rfl, rfl, trivial⟩ ⟨_, qJ [_, _, _, _, _, _, _, _, _, _, _] _ [_], .refl _⟩ rfl
   have H29 : ∀ (b14 b15 : Nat), T 7 #[tt,tt,ff,tt,tt,ff,tt,tt,ff,ff,tt,tt,ff,ff,ff] ⟨(33, .agg (e4 u3)) :: (34, .agg (e4 v3)) :: (36, .agg (e4 u1)) :: (37, .agg (e4 v1)) :: (39, .agg (e4 u2)) :: (40, .agg (e4 v2)) :: (14, pq b14) :: (15, pq b15) :: Sl, En ++ [cl b14 Zr 180, cl b15 Zr 180], []⟩ := by
    intro b14 b15
    refine g.two _ _ _ 2 9 (by kernel_rfl) (qc _) ?_ ?_
    · refine ce (fun w _ => qs hu3 hv3 hA w) (fun a ha => ?_)
      refine ⟨qc _, ?_⟩
      exact g.go (H21 a b14 b15 ha) (qc _) ⟨rfl, rfl, rfl, rfl, rfl, rfl, rfl, rfl, rfl, rfl, rfl, rfl, rfl, rfl, rfl, rfl, rfl, trivial⟩ ⟨_, .refl _, .refl _⟩ rfl
    · intro b13
      refine ⟨qc _, ?_⟩
      exact g.go (H22 b13 b14 b15) (qc _) ⟨rfl, rfl, rfl, rfl, rfl, rfl, rfl, rfl, rfl, rfl, rfl, rfl, rfl, rfl, rfl, rfl, rfl, rfl, rfl, trivial⟩ ⟨_, qJ [_, _, _, _, _, _, _, _, _, _] _ [_, _], .refl _⟩ rfl
   have H30 : ∀ (a : Nat), El (A) a → T 8 #[tt,tt,tt,tt,tt,ff,tt,tt,ff,ff,ff,ff,ff,ff,ff] ⟨(35, .agg (e4 a)) :: (36, .agg (e4 u1)) :: (37, .agg (e4 v1)) :: (39, .agg (e4 u2)) :: (40, .agg (e4 v2)) :: Sl, En, []⟩ := by
    intro a ha
    refine g.four _ _ _ 5 9 10 11 (by kernel_rfl) (qc _) ?_ ?_ ?_ ?_
    · refine ce (fun w _ => qs hu1 hv1 hXX w) (fun xx hxx => ?_)
      refine ⟨qc _, ?_⟩
      exact g.go (H23 a xx ha hxx) (qc _) ⟨rfl, rfl, rfl, rfl, rfl, rfl, rfl, rfl, rfl, rfl, rfl, rfl, rfl, rfl, trivial⟩ ⟨_, .refl _, .refl _⟩ rfl
    · intro b13
      refine ⟨qc _, ?_⟩
      exact g.go (H24 a b13 ha) (qc _) ⟨rfl, rfl, rfl, rfl, rfl, rfl, rfl, rfl, rfl, rfl, rfl, rfl, rfl, rfl, rfl, rfl, trivial⟩ ⟨_, .refl _, .refl _⟩ rfl
    · intro b14
      refine ⟨qc _, ?_⟩
      exact g.go (H25 a b14 ha) (qc _) ⟨rfl, rfl, rfl, rfl, rfl, rfl, rfl, rfl, rfl, rfl, rfl, rfl, rfl, rfl, rfl, rfl, trivial⟩ ⟨_, .refl _, .refl _⟩ rfl
    · intro b15
      refine ⟨qc _, ?_⟩
      exact g.go (H26 a b15 ha) (qc _) ⟨rfl, rfl, rfl, rfl, rfl, rfl, rfl, rfl, rfl, rfl, rfl, rfl, rfl, rfl, rfl, rfl, trivial⟩ ⟨_, .refl _, .refl _⟩ rfl
   have H31 : ∀ (b13 : Nat), T 8 #[tt,tt,ff,tt,tt,ff,tt,tt,ff,tt,ff,ff,ff,ff,ff] ⟨(33, .agg (e4 u3)) :: (34, .agg (e4 v3)) :: (36, .agg (e4 u1)) :: (37, .agg (e4 v1)) :: (39, .agg (e4 u2)) :: (40, .agg (e4 v2)) :: (13, pq b13) :: Sl, En ++ [cl b13 Zr 180], []⟩ := by
    intro b13
    refine g.three _ _ _ 2 10 11 (by kernel_rfl) (qc _) ?_ ?_ ?_
    · refine ce (fun w _ => qs hu3 hv3 hA w) (fun a ha => ?_)
      refine ⟨qc _, ?_⟩
      exact g.go (H24 a b13 ha) (qc _) ⟨rfl, rfl, rfl, rfl, rfl, rfl, rfl, rfl, rfl, rfl, rfl, rfl, rfl, rfl, rfl, rfl, trivial⟩ ⟨_, .refl _, .refl _⟩ rfl
    · intro b14
      refine ⟨qc _, ?_⟩
      exact g.go (H27 b13 b14) (qc _) ⟨rfl, rfl, rfl, rfl, rfl, rfl, rfl, rfl, rfl, rfl, rfl, rfl, rfl, rfl, rfl, rfl, rfl, rfl, trivial⟩ ⟨_, .refl _, .refl _⟩ rfl
    · intro b15
      refine ⟨qc _, ?_⟩
      exact g.go (H28 b13 b15) (qc _) ⟨rfl, rfl, rfl, rfl, rfl, rfl, rfl, rfl, rfl, rfl, rfl, rfl, rfl, rfl, rfl, rfl, rfl, rfl, trivial⟩ ⟨_, .refl _, .refl _⟩ rfl
   have H32 : ∀ (b14 : Nat), T 8 #[tt,tt,ff,tt,tt,ff,tt,tt,ff,ff,tt,ff,ff,ff,ff] ⟨(33, .agg (e4 u3)) :: (34, .agg (e4 v3)) :: (36, .agg (e4 u1)) :: (37, .agg (e4 v1)) :: (39, .agg (e4 u2)) :: (40, .agg (e4 v2)) :: (14, pq b14) :: Sl, En ++ [cl b14 Zr 180], []⟩ := by
    intro b14
    refine g.three _ _ _ 2 9 11 (by kernel_rfl) (qc _) ?_ ?_ ?_
    · refine ce (fun w _ => qs hu3 hv3 hA w) (fun a ha => ?_)
      refine ⟨qc _, ?_⟩
      exact g.go (H25 a b14 ha) (qc _) ⟨rfl, rfl, rfl, rfl, rfl, rfl, rfl, rfl, rfl, rfl, rfl, rfl, rfl, rfl, rfl, rfl, trivial⟩ ⟨_, .refl _, .refl _⟩ rfl
    · intro b13
      refine ⟨qc _, ?_⟩
      exact g.go (H27 b13 b14) (qc _) ⟨rfl, rfl, rfl, rfl, rfl, rfl, rfl, rfl, rfl, rfl, rfl, rfl, rfl, rfl, rfl, rfl, rfl, rfl, trivial⟩ ⟨_, qJ [_, _, _, _, _, _, _, _, _, _] _ [_], .refl _⟩ rfl
    · intro b15
      refine ⟨qc _, ?_⟩
      exact g.go (H29 b14 b15) (qc _) ⟨rfl, rfl, rfl, rfl, rfl, rfl, rfl, rfl, rfl, rfl, rfl, rfl, rfl, rfl, rfl, rfl, rfl, rfl, trivial⟩ ⟨_, .refl _, .refl _⟩ rfl
   have H33 : ∀ (b15 : Nat), T 8 #[tt,tt,ff,tt,tt,ff,tt,tt,ff,ff,ff,tt,ff,ff,ff] ⟨(33, .agg (e4 u3)) :: (34, .agg (e4 v3)) :: (36, .agg (e4 u1)) :: (37, .agg (e4 v1)) :: (39, .agg (e4 u2)) :: (40, .agg (e4 v2)) :: (15, pq b15) :: Sl, En ++ [cl b15 Zr 180], []⟩ := by
    intro b15
    refine g.three _ _ _ 2 9 10 (by kernel_rfl) (qc _) ?_ ?_ ?_
    · refine ce (fun w _ => qs hu3 hv3 hA w) (fun a ha => ?_)
      refine ⟨qc _, ?_⟩
      exact g.go (H26 a b15 ha) (qc _) ⟨rfl, rfl, rfl, rfl, rfl, rfl, rfl, rfl, rfl, rfl, rfl, rfl, rfl, rfl, rfl, rfl, trivial⟩ ⟨_, .refl _, .refl _⟩ rfl
    · intro b13
      refine ⟨qc _, ?_⟩
      exact g.go (H28 b13 b15) (qc _) ⟨rfl, rfl, rfl, rfl, rfl, rfl, rfl, rfl, rfl, rfl, rfl, rfl, rfl, rfl, rfl, rfl, rfl, rfl, trivial⟩ ⟨_, qJ [_, _, _, _, _, _, _, _, _, _] _ [_], .refl _⟩ rfl
    · intro b14
      refine ⟨qc _, ?_⟩
      exact g.go (H29 b14 b15) (qc _) ⟨rfl, rfl, rfl, rfl, rfl, rfl, rfl, rfl, rfl, rfl, rfl, rfl, rfl, rfl, rfl, rfl, rfl, rfl, trivial⟩ ⟨_, qJ [_, _, _, _, _, _, _, _, _, _] _ [_], .refl _⟩ rfl
   have H : T 9 #[tt,tt,ff,tt,tt,ff,tt,tt,ff,ff,ff,ff,ff,ff,ff] ⟨(33, .agg (e4 u3)) :: (34, .agg (e4 v3)) :: (36, .agg (e4 u1)) :: (37, .agg (e4 v1)) :: (39, .agg (e4 u2)) :: (40, .agg (e4 v2)) :: Sl, En, []⟩ := by
    refine g.four _ _ _ 2 9 10 11 (by kernel_rfl) (qc _) ?_ ?_ ?_ ?_
    · refine ce (fun w _ => qs hu3 hv3 hA w) (fun a ha => ?_)
      refine ⟨qc _, ?_⟩
      exact g.go (H30 a ha) (qc _) ⟨rfl, rfl, rfl, rfl, rfl, rfl, rfl, rfl, rfl, rfl, rfl, rfl, rfl, rfl, rfl, trivial⟩ ⟨_, .refl _, .refl _⟩ rfl
    · intro b13
      refine ⟨qc _, ?_⟩
      exact g.go (H31 b13) (qc _) ⟨rfl, rfl, rfl, rfl, rfl, rfl, rfl, rfl, rfl, rfl, rfl, rfl, rfl, rfl, rfl, rfl, rfl, trivial⟩ ⟨_, .refl _, .refl _⟩ rfl
    · intro b14
      refine ⟨qc _, ?_⟩
      exact g.go (H32 b14) (qc _) ⟨rfl, rfl, rfl, rfl, rfl, rfl, rfl, rfl, rfl, rfl, rfl, rfl, rfl, rfl, rfl, rfl, rfl, trivial⟩ ⟨_, .refl _, .refl _⟩ rfl
    · intro b15
      refine ⟨qc _, ?_⟩
      exact g.go (H33 b15) (qc _) ⟨rfl, rfl, rfl, rfl, rfl, rfl, rfl, rfl, rfl, rfl, rfl, rfl, rfl, rfl, rfl, rfl, rfl, trivial⟩ ⟨_, .refl _, .refl _⟩ rfl
   refine ldN 6 rfl (qd _) ?_
   refine ldN 9 rfl (qd _) ?_
   refine ldN 4 rfl (qd _) ?_
   refine ldN 7 rfl (qd _) ?_
   refine ldN 5 rfl (qd _) ?_
   refine ldN 8 rfl (qd _) ?_
   exact g.go H (qc _) ⟨rfl, rfl, rfl, rfl, rfl, rfl, rfl, rfl, rfl, rfl, rfl, rfl, rfl, rfl, rfl, rfl, trivial⟩ ⟨_, .refl _, .refl _⟩ rfl
 · rintro ⟨a, xx, yy, b13, b14, b15⟩ ⟨ha, hxx, hyy⟩
   refine ldN 10 rfl (qd _) ?_
   refine ldN 10 rfl (qd _) ?_
   refine ce (fun w _ => qs ha ha hBq w) (fun bq hbq => ?_)
   intro b16
   refine sN 13 rfl (by rw [qd]; rfl) (qX _) ?_ (by kernel_rfl)
   refine cut (α := Nat × Nat × Nat) (fun x => El (E1) x.1 ∧ El (E) x.2.1) (fun x => ⟨[(17, pq x.2.2), (3, pq b3), (4, pq b4), (5, pq b5), (6, pq b6), (7, pq b7), (8, pq b8), (9, pq b9), (10, pq b10), (11, pq b11), (12, pq b12), (13, pq b13), (14, pq b14), (15, pq b15), (16, pq b16)], [cl b3 (e4 d) 244, cl b4 (pt x1 y1 c1 b1) 182, cl b5 (pt x2 y2 c2 b2) 182, cl b6 pt0 182, cl b7 (e4 u1) 180, cl b8 (e4 u2) 180, cl b9 (e4 u3) 180, cl b10 (e4 v1) 180, cl b11 (e4 v2) 180, cl b12 (e4 v3) 180, cl b13 (e4 a) 180, cl b14 (e4 xx) 180, cl b15 (e4 yy) 180, cl b16 (e4 bq) 180, cl x.2.2 (e4 x.2.1) 180], []⟩) ?_ ?_
   · let Sl : Fr := [(3, pq b3), (4, pq b4), (5, pq b5), (6, pq b6), (7, pq b7), (8, pq b8), (9, pq b9), (10, pq b10), (11, pq b11), (12, pq b12), (13, pq b13), (14, pq b14), (15, pq b15), (16, pq b16)]
     let En : List Ent := [cl b3 (e4 d) 244, cl b4 (pt x1 y1 c1 b1) 182, cl b5 (pt x2 y2 c2 b2) 182, cl b6 pt0 182, cl b7 (e4 u1) 180, cl b8 (e4 u2) 180, cl b9 (e4 u3) 180, cl b10 (e4 v1) 180, cl b11 (e4 v2) 180, cl b12 (e4 v3) 180, cl b13 (e4 a) 180, cl b14 (e4 xx) 180, cl b15 (e4 yy) 180, cl b16 (e4 bq) 180]
     let Zr : Array Value := #[.int .u64 0, .int .u64 0, .int .u64 0, .int .u64 0]
     refine drg En [0, 1, 3] 4 qe qk (by kernel_rfl) (by kernel_rfl) (.refl _) (fun T g => ?_)
     have H0 : ∀ (e1 ee b17 : Nat), El (E1) e1 → El (E) ee → T 0 #[tt,tt,tt,tt,tt,tt,tt] ⟨(17, pq b17) :: Sl, En ++ [cl b17 (e4 ee) 180], []⟩ := by
      intro e1 ee b17 he1 hee
      refine g.fin _ _ _ (by kernel_rfl) ?_
      exact ⟨(e1, ee, b17), ⟨he1, hee⟩, ⟨rfl, rfl, rfl, rfl, rfl, rfl, rfl, rfl, rfl, rfl, rfl, rfl, rfl, rfl, rfl, trivial⟩, .refl _, rfl⟩
     have H1 : ∀ (e1 ee b17 : Nat), El (E1) e1 → El (E) ee → T 1 #[tt,tt,tt,tt,tt,tt,ff] ⟨(49, .agg (e4 ee)) :: (17, pq b17) :: Sl, En ++ [cl b17 Zr 180], []⟩ := by
      intro e1 ee b17 he1 hee
      refine g.one _ _ _ 6 (by kernel_rfl) (qc _) ?_
      refine sN 14 rfl (by rw [qd]; rfl) (qX _) ?_ (by kernel_rfl)
      refine ⟨qc _, ?_⟩
      exact g.go (H0 e1 ee b17 he1 hee) (qc _) ⟨rfl, rfl, rfl, rfl, rfl, rfl, rfl, rfl, rfl, rfl, rfl, rfl, rfl, rfl, rfl, trivial⟩ ⟨_, .refl _, .refl _⟩ rfl
     have H2 : ∀ (e1 ee : Nat), El (E1) e1 → El (E) ee → T 2 #[tt,tt,tt,tt,tt,ff,ff] ⟨(49, .agg (e4 ee)) :: Sl, En, []⟩ := by
      intro e1 ee he1 hee
      refine g.one _ _ _ 5 (by kernel_rfl) (qc _) ?_
      intro b17
      refine ⟨qc _, ?_⟩
      exact g.go (H1 e1 ee b17 he1 hee) (qc _) ⟨rfl, rfl, rfl, rfl, rfl, rfl, rfl, rfl, rfl, rfl, rfl, rfl, rfl, rfl, rfl, rfl, trivial⟩ ⟨_, .refl _, .refl _⟩ rfl
     have H3 : ∀ (e1 b17 : Nat), El (E1) e1 → T 2 #[tt,tt,tt,tt,ff,tt,ff] ⟨(47, .agg (e4 e1)) :: (48, .agg (e4 yy)) :: (17, pq b17) :: Sl, En ++ [cl b17 Zr 180], []⟩ := by
      intro e1 b17 he1
      refine g.one _ _ _ 4 (by kernel_rfl) (qc _) ?_
      refine ce (fun w _ => qs he1 hyy hE w) (fun ee hee => ?_)
      refine ⟨qc _, ?_⟩
      exact g.go (H1 e1 ee b17 he1 hee) (qc _) ⟨rfl, rfl, rfl, rfl, rfl, rfl, rfl, rfl, rfl, rfl, rfl, rfl, rfl, rfl, rfl, rfl, trivial⟩ ⟨_, .refl _, .refl _⟩ rfl
     have H4 : ∀ (e1 : Nat), El (E1) e1 → T 3 #[tt,tt,tt,tt,ff,ff,ff] ⟨(47, .agg (e4 e1)) :: (48, .agg (e4 yy)) :: Sl, En, []⟩ := by
      intro e1 he1
      refine g.two _ _ _ 4 5 (by kernel_rfl) (qc _) ?_ ?_
      · refine ce (fun w _ => qs he1 hyy hE w) (fun ee hee => ?_)
        refine ⟨qc _, ?_⟩
        exact g.go (H2 e1 ee he1 hee) (qc _) ⟨rfl, rfl, rfl, rfl, rfl, rfl, rfl, rfl, rfl, rfl, rfl, rfl, rfl, rfl, rfl, trivial⟩ ⟨_, .refl _, .refl _⟩ rfl
      · intro b17
        refine ⟨qc _, ?_⟩
        exact g.go (H3 e1 b17 he1) (qc _) ⟨rfl, rfl, rfl, rfl, rfl, rfl, rfl, rfl, rfl, rfl, rfl, rfl, rfl, rfl, rfl, rfl, rfl, trivial⟩ ⟨_, .refl _, .refl _⟩ rfl
     have H5 : ∀ (b17 : Nat), T 3 #[tt,tt,ff,tt,ff,tt,ff] ⟨(45, .agg (e4 d)) :: (46, .agg (e4 xx)) :: (48, .agg (e4 yy)) :: (17, pq b17) :: Sl, En ++ [cl b17 Zr 180], []⟩ := by
      intro b17
      refine g.one _ _ _ 2 (by kernel_rfl) (qc _) ?_
      refine ce (fun w _ => qs hd hxx hE1 w) (fun e1 he1 => ?_)
      refine ⟨qc _, ?_⟩
      exact g.go (H3 e1 b17 he1) (qc _) ⟨rfl, rfl, rfl, rfl, rfl, rfl, rfl, rfl, rfl, rfl, rfl, rfl, rfl, rfl, rfl, rfl, rfl, trivial⟩ ⟨_, .refl _, .refl _⟩ rfl
     have H : T 4 #[tt,tt,ff,tt,ff,ff,ff] ⟨(45, .agg (e4 d)) :: (46, .agg (e4 xx)) :: (48, .agg (e4 yy)) :: Sl, En, []⟩ := by
      refine g.two _ _ _ 2 5 (by kernel_rfl) (qc _) ?_ ?_
      · refine ce (fun w _ => qs hd hxx hE1 w) (fun e1 he1 => ?_)
        refine ⟨qc _, ?_⟩
        exact g.go (H4 e1 he1) (qc _) ⟨rfl, rfl, rfl, rfl, rfl, rfl, rfl, rfl, rfl, rfl, rfl, rfl, rfl, rfl, rfl, rfl, trivial⟩ ⟨_, .refl _, .refl _⟩ rfl
      · intro b17
        refine ⟨qc _, ?_⟩
        exact g.go (H5 b17) (qc _) ⟨rfl, rfl, rfl, rfl, rfl, rfl, rfl, rfl, rfl, rfl, rfl, rfl, rfl, rfl, rfl, rfl, rfl, rfl, trivial⟩ ⟨_, .refl _, .refl _⟩ rfl
     refine ldN 0 rfl (qd _) ?_
     refine ldN 11 rfl (qd _) ?_
     refine ldN 12 rfl (qd _) ?_
     exact g.go H (qc _) ⟨rfl, rfl, rfl, rfl, rfl, rfl, rfl, rfl, rfl, rfl, rfl, rfl, rfl, rfl, rfl, rfl, rfl, trivial⟩ ⟨_, .refl _, .refl _⟩ rfl
   · rintro ⟨e1, ee, b17⟩ ⟨he1, hee⟩
     refine cut (α := Nat × Nat × Nat × Nat) (fun x => El (F) x.1 ∧ El (G) x.2.1) (fun x => ⟨[(18, pq x.2.2.1), (19, pq x.2.2.2), (3, pq b3), (4, pq b4), (5, pq b5), (6, pq b6), (7, pq b7), (8, pq b8), (9, pq b9), (10, pq b10), (11, pq b11), (12, pq b12), (13, pq b13), (14, pq b14), (15, pq b15), (16, pq b16), (17, pq b17)], [cl b3 (e4 d) 244, cl b4 (pt x1 y1 c1 b1) 182, cl b5 (pt x2 y2 c2 b2) 182, cl b6 pt0 182, cl b7 (e4 u1) 180, cl b8 (e4 u2) 180, cl b9 (e4 u3) 180, cl b10 (e4 v1) 180, cl b11 (e4 v2) 180, cl b12 (e4 v3) 180, cl b13 (e4 a) 180, cl b14 (e4 xx) 180, cl b15 (e4 yy) 180, cl b16 (e4 bq) 180, cl b17 (e4 ee) 180, cl x.2.2.1 (e4 x.1) 180, cl x.2.2.2 (e4 x.2.1) 180], []⟩) ?_ ?_
     · let Sl : Fr := [(3, pq b3), (4, pq b4), (5, pq b5), (6, pq b6), (7, pq b7), (8, pq b8), (9, pq b9), (10, pq b10), (11, pq b11), (12, pq b12), (13, pq b13), (14, pq b14), (15, pq b15), (16, pq b16), (17, pq b17)]
       let En : List Ent := [cl b3 (e4 d) 244, cl b4 (pt x1 y1 c1 b1) 182, cl b5 (pt x2 y2 c2 b2) 182, cl b6 pt0 182, cl b7 (e4 u1) 180, cl b8 (e4 u2) 180, cl b9 (e4 u3) 180, cl b10 (e4 v1) 180, cl b11 (e4 v2) 180, cl b12 (e4 v3) 180, cl b13 (e4 a) 180, cl b14 (e4 xx) 180, cl b15 (e4 yy) 180, cl b16 (e4 bq) 180, cl b17 (e4 ee) 180]
       let Zr : Array Value := #[.int .u64 0, .int .u64 0, .int .u64 0, .int .u64 0]
       refine drg En [0, 1, 3, 4] 6 qe qk (by kernel_rfl) (by kernel_rfl) (.refl _) (fun T g => ?_)
       have H0 : ∀ (f gg b18 b19 : Nat), El (F) f → El (G) gg → T 0 #[tt,tt,tt,tt,tt,tt,tt,tt,tt,tt] ⟨(18, pq b18) :: (19, pq b19) :: Sl, En ++ [cl b18 (e4 f) 180, cl b19 (e4 gg) 180], []⟩ := by
        intro f gg b18 b19 hf hgg
        refine g.fin _ _ _ (by kernel_rfl) ?_
        exact ⟨(f, gg, b18, b19), ⟨hf, hgg⟩, ⟨rfl, rfl, rfl, rfl, rfl, rfl, rfl, rfl, rfl, rfl, rfl, rfl, rfl, rfl, rfl, rfl, rfl, trivial⟩, .refl _, rfl⟩
       have H1 : ∀ (f gg b18 b19 : Nat), El (F) f → El (G) gg → T 1 #[tt,tt,tt,tt,tt,tt,tt,tt,tt,ff] ⟨(55, .agg (e4 gg)) :: (18, pq b18) :: (19, pq b19) :: Sl, En ++ [cl b18 (e4 f) 180, cl b19 Zr 180], []⟩ := by
        intro f gg b18 b19 hf hgg
        refine g.one _ _ _ 9 (by kernel_rfl) (qc _) ?_
        refine sN 16 rfl (by rw [qd]; rfl) (qX _) ?_ (by kernel_rfl)
        refine ⟨qc _, ?_⟩
        exact g.go (H0 f gg b18 b19 hf hgg) (qc _) ⟨rfl, rfl, rfl, rfl, rfl, rfl, rfl, rfl, rfl, rfl, rfl, rfl, rfl, rfl, rfl, rfl, rfl, trivial⟩ ⟨_, .refl _, .refl _⟩ rfl
       have H2 : ∀ (f gg b18 b19 : Nat), El (F) f → El (G) gg → T 2 #[tt,tt,tt,tt,tt,tt,tt,tt,ff,ff] ⟨(52, .agg (e4 f)) :: (55, .agg (e4 gg)) :: (18, pq b18) :: (19, pq b19) :: Sl, En ++ [cl b18 Zr 180, cl b19 Zr 180], []⟩ := by
        intro f gg b18 b19 hf hgg
        refine g.one _ _ _ 8 (by kernel_rfl) (qc _) ?_
        refine sN 15 rfl (by rw [qd]; rfl) (qX _) ?_ (by kernel_rfl)
        refine ⟨qc _, ?_⟩
        exact g.go (H1 f gg b18 b19 hf hgg) (qc _) ⟨rfl, rfl, rfl, rfl, rfl, rfl, rfl, rfl, rfl, rfl, rfl, rfl, rfl, rfl, rfl, rfl, rfl, rfl, trivial⟩ ⟨_, .refl _, .refl _⟩ rfl
       have H3 : ∀ (f gg b18 : Nat), El (F) f → El (G) gg → T 3 #[tt,tt,tt,tt,tt,tt,tt,ff,ff,ff] ⟨(52, .agg (e4 f)) :: (55, .agg (e4 gg)) :: (18, pq b18) :: Sl, En ++ [cl b18 Zr 180], []⟩ := by
        intro f gg b18 hf hgg
        refine g.one _ _ _ 7 (by kernel_rfl) (qc _) ?_
        intro b19
        refine ⟨qc _, ?_⟩
        exact g.go (H2 f gg b18 b19 hf hgg) (qc _) ⟨rfl, rfl, rfl, rfl, rfl, rfl, rfl, rfl, rfl, rfl, rfl, rfl, rfl, rfl, rfl, rfl, rfl, rfl, rfl, trivial⟩ ⟨_, .refl _, .refl _⟩ rfl
       have H4 : ∀ (f gg b19 : Nat), El (F) f → El (G) gg → T 3 #[tt,tt,tt,tt,tt,tt,ff,tt,ff,ff] ⟨(52, .agg (e4 f)) :: (55, .agg (e4 gg)) :: (19, pq b19) :: Sl, En ++ [cl b19 Zr 180], []⟩ := by
        intro f gg b19 hf hgg
        refine g.one _ _ _ 6 (by kernel_rfl) (qc _) ?_
        intro b18
        refine ⟨qc _, ?_⟩
        exact g.go (H2 f gg b18 b19 hf hgg) (qc _) ⟨rfl, rfl, rfl, rfl, rfl, rfl, rfl, rfl, rfl, rfl, rfl, rfl, rfl, rfl, rfl, rfl, rfl, rfl, rfl, trivial⟩ ⟨_, qJ [_, _, _, _, _, _, _, _, _, _, _, _, _, _, _] _ [_], .refl _⟩ rfl
       have H5 : ∀ (f b18 b19 : Nat), El (F) f → T 3 #[tt,tt,tt,tt,tt,ff,tt,tt,ff,ff] ⟨(52, .agg (e4 f)) :: (53, .agg (e4 bq)) :: (54, .agg (e4 ee)) :: (18, pq b18) :: (19, pq b19) :: Sl, En ++ [cl b18 Zr 180, cl b19 Zr 180], []⟩ := by
        intro f b18 b19 hf
        refine g.one _ _ _ 5 (by kernel_rfl) (qc _) ?_
        refine ce (fun w _ => QH hbq hee hG w) (fun gg hgg => ?_)
        refine ⟨qc _, ?_⟩
        exact g.go (H2 f gg b18 b19 hf hgg) (qc _) ⟨rfl, rfl, rfl, rfl, rfl, rfl, rfl, rfl, rfl, rfl, rfl, rfl, rfl, rfl, rfl, rfl, rfl, rfl, rfl, trivial⟩ ⟨_, .refl _, .refl _⟩ rfl
       have H6 : ∀ (f gg : Nat), El (F) f → El (G) gg → T 4 #[tt,tt,tt,tt,tt,tt,ff,ff,ff,ff] ⟨(52, .agg (e4 f)) :: (55, .agg (e4 gg)) :: Sl, En, []⟩ := by
        intro f gg hf hgg
        refine g.two _ _ _ 6 7 (by kernel_rfl) (qc _) ?_ ?_
        · intro b18
          refine ⟨qc _, ?_⟩
          exact g.go (H3 f gg b18 hf hgg) (qc _) ⟨rfl, rfl, rfl, rfl, rfl, rfl, rfl, rfl, rfl, rfl, rfl, rfl, rfl, rfl, rfl, rfl, rfl, rfl, trivial⟩ ⟨_, .refl _, .refl _⟩ rfl
        · intro b19
          refine ⟨qc _, ?_⟩
          exact g.go (H4 f gg b19 hf hgg) (qc _) ⟨rfl, rfl, rfl, rfl, rfl, rfl, rfl, rfl, rfl, rfl, rfl, rfl, rfl, rfl, rfl, rfl, rfl, rfl, trivial⟩ ⟨_, .refl _, .refl _⟩ rfl
       have H7 : ∀ (f b18 : Nat), El (F) f → T 4 #[tt,tt,tt,tt,tt,ff,tt,ff,ff,ff] ⟨(52, .agg (e4 f)) :: (53, .agg (e4 bq)) :: (54, .agg (e4 ee)) :: (18, pq b18) :: Sl, En ++ [cl b18 Zr 180], []⟩ := by
        intro f b18 hf
        refine g.two _ _ _ 5 7 (by kernel_rfl) (qc _) ?_ ?_
        · refine ce (fun w _ => QH hbq hee hG w) (fun gg hgg => ?_)
          refine ⟨qc _, ?_⟩
          exact g.go (H3 f gg b18 hf hgg) (qc _) ⟨rfl, rfl, rfl, rfl, rfl, rfl, rfl, rfl, rfl, rfl, rfl, rfl, rfl, rfl, rfl, rfl, rfl, rfl, trivial⟩ ⟨_, .refl _, .refl _⟩ rfl
        · intro b19
          refine ⟨qc _, ?_⟩
          exact g.go (H5 f b18 b19 hf) (qc _) ⟨rfl, rfl, rfl, rfl, rfl, rfl, rfl, rfl, rfl, rfl, rfl, rfl, rfl, rfl, rfl, rfl, rfl, rfl, rfl, rfl, trivial⟩ ⟨_, .refl _, .refl _⟩ rfl
       have H8 : ∀ (f b19 : Nat), El (F) f → T 4 #[tt,tt,tt,tt,tt,ff,ff,tt,ff,ff] ⟨(52, .agg (e4 f)) :: (53, .agg (e4 bq)) :: (54, .agg (e4 ee)) :: (19, pq b19) :: Sl, En ++ [cl b19 Zr 180], []⟩ := by
        intro f b19 hf
        refine g.two _ _ _ 5 6 (by kernel_rfl) (qc _) ?_ ?_
        · refine ce (fun w _ => QH hbq hee hG w) (fun gg hgg => ?_)
          refine ⟨qc _, ?_⟩
          exact g.go (H4 f gg b19 hf hgg) (qc _) ⟨rfl, rfl, rfl, rfl, rfl, rfl, rfl, rfl, rfl, rfl, rfl, rfl, rfl, rfl, rfl, rfl, rfl, rfl, trivial⟩ ⟨_, .refl _, .refl _⟩ rfl
        · intro b18
          refine ⟨qc _, ?_⟩
          exact g.go (H5 f b18 b19 hf) (qc _) ⟨rfl, rfl, rfl, rfl, rfl, rfl, rfl, rfl, rfl, rfl, rfl, rfl, rfl, rfl, rfl, rfl, rfl, rfl, rfl, rfl, trivial⟩ ⟨_, qJ [_, _, _, _, _, _, _, _, _, _, _, _, _, _, _] _ [_], .refl _⟩ rfl
       have H9 : ∀ (b18 b19 : Nat), T 4 #[tt,tt,ff,tt,tt,ff,tt,tt,ff,ff] ⟨(50, .agg (e4 bq)) :: (51, .agg (e4 ee)) :: (53, .agg (e4 bq)) :: (54, .agg (e4 ee)) :: (18, pq b18) :: (19, pq b19) :: Sl, En ++ [cl b18 Zr 180, cl b19 Zr 180], []⟩ := by
        intro b18 b19
        refine g.one _ _ _ 2 (by kernel_rfl) (qc _) ?_
        refine ce (fun w _ => QN hbq hee hF w) (fun f hf => ?_)
        refine ⟨qc _, ?_⟩
        exact g.go (H5 f b18 b19 hf) (qc _) ⟨rfl, rfl, rfl, rfl, rfl, rfl, rfl, rfl, rfl, rfl, rfl, rfl, rfl, rfl, rfl, rfl, rfl, rfl, rfl, rfl, trivial⟩ ⟨_, .refl _, .refl _⟩ rfl
       have H10 : ∀ (f : Nat), El (F) f → T 5 #[tt,tt,tt,tt,tt,ff,ff,ff,ff,ff] ⟨(52, .agg (e4 f)) :: (53, .agg (e4 bq)) :: (54, .agg (e4 ee)) :: Sl, En, []⟩ := by
        intro f hf
        refine g.three _ _ _ 5 6 7 (by kernel_rfl) (qc _) ?_ ?_ ?_
        · refine ce (fun w _ => QH hbq hee hG w) (fun gg hgg => ?_)
          refine ⟨qc _, ?_⟩
          exact g.go (H6 f gg hf hgg) (qc _) ⟨rfl, rfl, rfl, rfl, rfl, rfl, rfl, rfl, rfl, rfl, rfl, rfl, rfl, rfl, rfl, rfl, rfl, trivial⟩ ⟨_, .refl _, .refl _⟩ rfl
        · intro b18
          refine ⟨qc _, ?_⟩
          exact g.go (H7 f b18 hf) (qc _) ⟨rfl, rfl, rfl, rfl, rfl, rfl, rfl, rfl, rfl, rfl, rfl, rfl, rfl, rfl, rfl, rfl, rfl, rfl, rfl, trivial⟩ ⟨_, .refl _, .refl _⟩ rfl
        · intro b19
          refine ⟨qc _, ?_⟩
          exact g.go (H8 f b19 hf) (qc _) ⟨rfl, rfl, rfl, rfl, rfl, rfl, rfl, rfl, rfl, rfl, rfl, rfl, rfl, rfl, rfl, rfl, rfl, rfl, rfl, trivial⟩ ⟨_, .refl _, .refl _⟩ rfl
       have H11 : ∀ (b18 : Nat), T 5 #[tt,tt,ff,tt,tt,ff,tt,ff,ff,ff] ⟨(50, .agg (e4 bq)) :: (51, .agg (e4 ee)) :: (53, .agg (e4 bq)) :: (54, .agg (e4 ee)) :: (18, pq b18) :: Sl, En ++ [cl b18 Zr 180], []⟩ := by
        intro b18
        refine g.two _ _ _ 2 7 (by kernel_rfl) (qc _) ?_ ?_
        · refine ce (fun w _ => QN hbq hee hF w) (fun f hf => ?_)
          refine ⟨qc _, ?_⟩
          exact g.go (H7 f b18 hf) (qc _) ⟨rfl, rfl, rfl, rfl, rfl, rfl, rfl, rfl, rfl, rfl, rfl, rfl, rfl, rfl, rfl, rfl, rfl, rfl, rfl, trivial⟩ ⟨_, .refl _, .refl _⟩ rfl
        · intro b19
          refine ⟨qc _, ?_⟩
          exact g.go (H9 b18 b19) (qc _) ⟨rfl, rfl, rfl, rfl, rfl, rfl, rfl, rfl, rfl, rfl, rfl, rfl, rfl, rfl, rfl, rfl, rfl, rfl, rfl, rfl, rfl, trivial⟩ ⟨_, .refl _, .refl _⟩ rfl
       have H12 : ∀ (b19 : Nat), T 5 #[tt,tt,ff,tt,tt,ff,ff,tt,ff,ff] ⟨(50, .agg (e4 bq)) :: (51, .agg (e4 ee)) :: (53, .agg (e4 bq)) :: (54, .agg (e4 ee)) :: (19, pq b19) :: Sl, En ++ [cl b19 Zr 180], []⟩ := by
        intro b19
        refine g.two _ _ _ 2 6 (by kernel_rfl) (qc _) ?_ ?_
        · refine ce (fun w _ => QN hbq hee hF w) (fun f hf => ?_)
          refine ⟨qc _, ?_⟩
          exact g.go (H8 f b19 hf) (qc _) ⟨rfl, rfl, rfl, rfl, rfl, rfl, rfl, rfl, rfl, rfl, rfl, rfl, rfl, rfl, rfl, rfl, rfl, rfl, rfl, trivial⟩ ⟨_, .refl _, .refl _⟩ rfl
        · intro b18
          refine ⟨qc _, ?_⟩
          exact g.go (H9 b18 b19) (qc _) ⟨rfl, rfl, rfl, rfl, rfl, rfl, rfl, rfl, rfl, rfl, rfl, rfl, rfl, rfl, rfl, rfl, rfl, rfl, rfl, rfl, rfl, trivial⟩ ⟨_, qJ [_, _, _, _, _, _, _, _, _, _, _, _, _, _, _] _ [_], .refl _⟩ rfl
       have H : T 6 #[tt,tt,ff,tt,tt,ff,ff,ff,ff,ff] ⟨(50, .agg (e4 bq)) :: (51, .agg (e4 ee)) :: (53, .agg (e4 bq)) :: (54, .agg (e4 ee)) :: Sl, En, []⟩ := by
        refine g.three _ _ _ 2 6 7 (by kernel_rfl) (qc _) ?_ ?_ ?_
        · refine ce (fun w _ => QN hbq hee hF w) (fun f hf => ?_)
          refine ⟨qc _, ?_⟩
          exact g.go (H10 f hf) (qc _) ⟨rfl, rfl, rfl, rfl, rfl, rfl, rfl, rfl, rfl, rfl, rfl, rfl, rfl, rfl, rfl, rfl, rfl, rfl, trivial⟩ ⟨_, .refl _, .refl _⟩ rfl
        · intro b18
          refine ⟨qc _, ?_⟩
          exact g.go (H11 b18) (qc _) ⟨rfl, rfl, rfl, rfl, rfl, rfl, rfl, rfl, rfl, rfl, rfl, rfl, rfl, rfl, rfl, rfl, rfl, rfl, rfl, rfl, trivial⟩ ⟨_, .refl _, .refl _⟩ rfl
        · intro b19
          refine ⟨qc _, ?_⟩
          exact g.go (H12 b19) (qc _) ⟨rfl, rfl, rfl, rfl, rfl, rfl, rfl, rfl, rfl, rfl, rfl, rfl, rfl, rfl, rfl, rfl, rfl, rfl, rfl, rfl, trivial⟩ ⟨_, .refl _, .refl _⟩ rfl
       refine ldN 13 rfl (qd _) ?_
       refine ldN 14 rfl (qd _) ?_
       refine ldN 13 rfl (qd _) ?_
       refine ldN 14 rfl (qd _) ?_
       exact g.go H (qc _) ⟨rfl, rfl, rfl, rfl, rfl, rfl, rfl, rfl, rfl, rfl, rfl, rfl, rfl, rfl, rfl, rfl, rfl, rfl, rfl, trivial⟩ ⟨_, .refl _, .refl _⟩ rfl
     · rintro ⟨f, gg, b18, b19⟩ ⟨hf, hgg⟩
       refine cut (α := Nat × Nat × Nat × Nat × Nat × Nat) (fun x => El (S1) x.1 ∧ El (S2) x.2.1 ∧ El (S3) x.2.2.1 ∧ El (S4) x.2.2.2.1 ∧ El (CR) x.2.2.2.2.1) (fun x => ⟨[(20, pq x.2.2.2.2.2), (3, pq b3), (4, pq b4), (5, pq b5), (6, pq b6), (7, pq b7), (8, pq b8), (9, pq b9), (10, pq b10), (11, pq b11), (12, pq b12), (13, pq b13), (14, pq b14), (15, pq b15), (16, pq b16), (17, pq b17), (18, pq b18), (19, pq b19)], [cl b3 (e4 d) 244, cl b4 (pt x1 y1 c1 b1) 182, cl b5 (pt x2 y2 c2 b2) 182, cl b6 pt0 182, cl b7 (e4 u1) 180, cl b8 (e4 u2) 180, cl b9 (e4 u3) 180, cl b10 (e4 v1) 180, cl b11 (e4 v2) 180, cl b12 (e4 v3) 180, cl b13 (e4 a) 180, cl b14 (e4 xx) 180, cl b15 (e4 yy) 180, cl b16 (e4 bq) 180, cl b17 (e4 ee) 180, cl b18 (e4 f) 180, cl b19 (e4 gg) 180, cl x.2.2.2.2.2 (e4 x.2.2.2.2.1) 180], []⟩) ?_ ?_
       · let Sl : Fr := [(3, pq b3), (4, pq b4), (5, pq b5), (6, pq b6), (7, pq b7), (8, pq b8), (9, pq b9), (10, pq b10), (11, pq b11), (12, pq b12), (13, pq b13), (14, pq b14), (15, pq b15), (16, pq b16), (17, pq b17), (18, pq b18), (19, pq b19)]
         let En : List Ent := [cl b3 (e4 d) 244, cl b4 (pt x1 y1 c1 b1) 182, cl b5 (pt x2 y2 c2 b2) 182, cl b6 pt0 182, cl b7 (e4 u1) 180, cl b8 (e4 u2) 180, cl b9 (e4 u3) 180, cl b10 (e4 v1) 180, cl b11 (e4 v2) 180, cl b12 (e4 v3) 180, cl b13 (e4 a) 180, cl b14 (e4 xx) 180, cl b15 (e4 yy) 180, cl b16 (e4 bq) 180, cl b17 (e4 ee) 180, cl b18 (e4 f) 180, cl b19 (e4 gg) 180]
         let Zr : Array Value := #[.int .u64 0, .int .u64 0, .int .u64 0, .int .u64 0]
         refine drg En [0, 1, 3, 4, 7, 9] 7 qe qk (by kernel_rfl) (by kernel_rfl) (.refl _) (fun T g => ?_)
         have H0 : ∀ (s1 s2 s3 s4 cr b20 : Nat), El (S1) s1 → El (S2) s2 → El (S3) s3 → El (S4) s4 → El (CR) cr → T 0 #[tt,tt,tt,tt,tt,tt,tt,tt,tt,tt,tt,tt,tt] ⟨(20, pq b20) :: Sl, En ++ [cl b20 (e4 cr) 180], []⟩ := by
          intro s1 s2 s3 s4 cr b20 hs1 hs2 hs3 hs4 hcr
          refine g.fin _ _ _ (by kernel_rfl) ?_
          exact ⟨(s1, s2, s3, s4, cr, b20), ⟨hs1, hs2, hs3, hs4, hcr⟩, ⟨rfl, rfl, rfl, rfl, rfl, rfl, rfl, rfl, rfl, rfl, rfl, rfl, rfl, rfl, rfl, rfl, rfl, rfl, trivial⟩, .refl _, rfl⟩
         have H1 : ∀ (s1 s2 s3 s4 cr b20 : Nat), El (S1) s1 → El (S2) s2 → El (S3) s3 → El (S4) s4 → El (CR) cr → T 1 #[tt,tt,tt,tt,tt,tt,tt,tt,tt,tt,tt,tt,ff] ⟨(66, .agg (e4 cr)) :: (20, pq b20) :: Sl, En ++ [cl b20 Zr 180], []⟩ := by
          intro s1 s2 s3 s4 cr b20 hs1 hs2 hs3 hs4 hcr
          refine g.one _ _ _ 12 (by kernel_rfl) (qc _) ?_
          refine sN 17 rfl (by rw [qd]; rfl) (qX _) ?_ (by kernel_rfl)
          refine ⟨qc _, ?_⟩
          exact g.go (H0 s1 s2 s3 s4 cr b20 hs1 hs2 hs3 hs4 hcr) (qc _) ⟨rfl, rfl, rfl, rfl, rfl, rfl, rfl, rfl, rfl, rfl, rfl, rfl, rfl, rfl, rfl, rfl, rfl, rfl, trivial⟩ ⟨_, .refl _, .refl _⟩ rfl
         have H2 : ∀ (s1 s2 s3 s4 cr : Nat), El (S1) s1 → El (S2) s2 → El (S3) s3 → El (S4) s4 → El (CR) cr → T 2 #[tt,tt,tt,tt,tt,tt,tt,tt,tt,tt,tt,ff,ff] ⟨(66, .agg (e4 cr)) :: Sl, En, []⟩ := by
          intro s1 s2 s3 s4 cr hs1 hs2 hs3 hs4 hcr
          refine g.one _ _ _ 11 (by kernel_rfl) (qc _) ?_
          intro b20
          refine ⟨qc _, ?_⟩
          exact g.go (H1 s1 s2 s3 s4 cr b20 hs1 hs2 hs3 hs4 hcr) (qc _) ⟨rfl, rfl, rfl, rfl, rfl, rfl, rfl, rfl, rfl, rfl, rfl, rfl, rfl, rfl, rfl, rfl, rfl, rfl, rfl, trivial⟩ ⟨_, .refl _, .refl _⟩ rfl
         have H3 : ∀ (s1 s2 s3 s4 b20 : Nat), El (S1) s1 → El (S2) s2 → El (S3) s3 → El (S4) s4 → T 2 #[tt,tt,tt,tt,tt,tt,tt,tt,tt,tt,ff,tt,ff] ⟨(64, .agg (e4 s4)) :: (65, .agg (e4 yy)) :: (20, pq b20) :: Sl, En ++ [cl b20 Zr 180], []⟩ := by
          intro s1 s2 s3 s4 b20 hs1 hs2 hs3 hs4
          refine g.one _ _ _ 10 (by kernel_rfl) (qc _) ?_
          refine ce (fun w _ => QN hs4 hyy hCR w) (fun cr hcr => ?_)
          refine ⟨qc _, ?_⟩
          exact g.go (H1 s1 s2 s3 s4 cr b20 hs1 hs2 hs3 hs4 hcr) (qc _) ⟨rfl, rfl, rfl, rfl, rfl, rfl, rfl, rfl, rfl, rfl, rfl, rfl, rfl, rfl, rfl, rfl, rfl, rfl, rfl, trivial⟩ ⟨_, .refl _, .refl _⟩ rfl
         have H4 : ∀ (s1 s2 s3 s4 : Nat), El (S1) s1 → El (S2) s2 → El (S3) s3 → El (S4) s4 → T 3 #[tt,tt,tt,tt,tt,tt,tt,tt,tt,tt,ff,ff,ff] ⟨(64, .agg (e4 s4)) :: (65, .agg (e4 yy)) :: Sl, En, []⟩ := by
          intro s1 s2 s3 s4 hs1 hs2 hs3 hs4
          refine g.two _ _ _ 10 11 (by kernel_rfl) (qc _) ?_ ?_
          · refine ce (fun w _ => QN hs4 hyy hCR w) (fun cr hcr => ?_)
            refine ⟨qc _, ?_⟩
            exact g.go (H2 s1 s2 s3 s4 cr hs1 hs2 hs3 hs4 hcr) (qc _) ⟨rfl, rfl, rfl, rfl, rfl, rfl, rfl, rfl, rfl, rfl, rfl, rfl, rfl, rfl, rfl, rfl, rfl, rfl, trivial⟩ ⟨_, .refl _, .refl _⟩ rfl
          · intro b20
            refine ⟨qc _, ?_⟩
            exact g.go (H3 s1 s2 s3 s4 b20 hs1 hs2 hs3 hs4) (qc _) ⟨rfl, rfl, rfl, rfl, rfl, rfl, rfl, rfl, rfl, rfl, rfl, rfl, rfl, rfl, rfl, rfl, rfl, rfl, rfl, rfl, trivial⟩ ⟨_, .refl _, .refl _⟩ rfl
         have H5 : ∀ (s1 s2 s3 b20 : Nat), El (S1) s1 → El (S2) s2 → El (S3) s3 → T 3 #[tt,tt,tt,tt,tt,tt,tt,tt,ff,tt,ff,tt,ff] ⟨(62, .agg (e4 s3)) :: (63, .agg (e4 xx)) :: (65, .agg (e4 yy)) :: (20, pq b20) :: Sl, En ++ [cl b20 Zr 180], []⟩ := by
          intro s1 s2 s3 b20 hs1 hs2 hs3
          refine g.one _ _ _ 8 (by kernel_rfl) (qc _) ?_
          refine ce (fun w _ => QN hs3 hxx hS4 w) (fun s4 hs4 => ?_)
          refine ⟨qc _, ?_⟩
          exact g.go (H3 s1 s2 s3 s4 b20 hs1 hs2 hs3 hs4) (qc _) ⟨rfl, rfl, rfl, rfl, rfl, rfl, rfl, rfl, rfl, rfl, rfl, rfl, rfl, rfl, rfl, rfl, rfl, rfl, rfl, rfl, trivial⟩ ⟨_, .refl _, .refl _⟩ rfl
         have H6 : ∀ (s1 s2 s3 : Nat), El (S1) s1 → El (S2) s2 → El (S3) s3 → T 4 #[tt,tt,tt,tt,tt,tt,tt,tt,ff,tt,ff,ff,ff] ⟨(62, .agg (e4 s3)) :: (63, .agg (e4 xx)) :: (65, .agg (e4 yy)) :: Sl, En, []⟩ := by
          intro s1 s2 s3 hs1 hs2 hs3
          refine g.two _ _ _ 8 11 (by kernel_rfl) (qc _) ?_ ?_
          · refine ce (fun w _ => QN hs3 hxx hS4 w) (fun s4 hs4 => ?_)
            refine ⟨qc _, ?_⟩
            exact g.go (H4 s1 s2 s3 s4 hs1 hs2 hs3 hs4) (qc _) ⟨rfl, rfl, rfl, rfl, rfl, rfl, rfl, rfl, rfl, rfl, rfl, rfl, rfl, rfl, rfl, rfl, rfl, rfl, rfl, trivial⟩ ⟨_, .refl _, .refl _⟩ rfl
          · intro b20
            refine ⟨qc _, ?_⟩
            exact g.go (H5 s1 s2 s3 b20 hs1 hs2 hs3) (qc _) ⟨rfl, rfl, rfl, rfl, rfl, rfl, rfl, rfl, rfl, rfl, rfl, rfl, rfl, rfl, rfl, rfl, rfl, rfl, rfl, rfl, rfl, trivial⟩ ⟨_, .refl _, .refl _⟩ rfl
         have H7 : ∀ (s1 s2 b20 : Nat), El (S1) s1 → El (S2) s2 → T 4 #[tt,tt,tt,tt,tt,tt,ff,tt,ff,tt,ff,tt,ff] ⟨(58, .agg (e4 s1)) :: (61, .agg (e4 s2)) :: (63, .agg (e4 xx)) :: (65, .agg (e4 yy)) :: (20, pq b20) :: Sl, En ++ [cl b20 Zr 180], []⟩ := by
          intro s1 s2 b20 hs1 hs2
          refine g.one _ _ _ 6 (by kernel_rfl) (qc _) ?_
          refine ce (fun w _ => qs hs1 hs2 hS3 w) (fun s3 hs3 => ?_)
          refine ⟨qc _, ?_⟩
          exact g.go (H5 s1 s2 s3 b20 hs1 hs2 hs3) (qc _) ⟨rfl, rfl, rfl, rfl, rfl, rfl, rfl, rfl, rfl, rfl, rfl, rfl, rfl, rfl, rfl, rfl, rfl, rfl, rfl, rfl, rfl, trivial⟩ ⟨_, .refl _, .refl _⟩ rfl
         have H8 : ∀ (s1 s2 : Nat), El (S1) s1 → El (S2) s2 → T 5 #[tt,tt,tt,tt,tt,tt,ff,tt,ff,tt,ff,ff,ff] ⟨(58, .agg (e4 s1)) :: (61, .agg (e4 s2)) :: (63, .agg (e4 xx)) :: (65, .agg (e4 yy)) :: Sl, En, []⟩ := by
          intro s1 s2 hs1 hs2
          refine g.two _ _ _ 6 11 (by kernel_rfl) (qc _) ?_ ?_
          · refine ce (fun w _ => qs hs1 hs2 hS3 w) (fun s3 hs3 => ?_)
            refine ⟨qc _, ?_⟩
            exact g.go (H6 s1 s2 s3 hs1 hs2 hs3) (qc _) ⟨rfl, rfl, rfl, rfl, rfl, rfl, rfl, rfl, rfl, rfl, rfl, rfl, rfl, rfl, rfl, rfl, rfl, rfl, rfl, rfl, trivial⟩ ⟨_, .refl _, .refl _⟩ rfl
          · intro b20
            refine ⟨qc _, ?_⟩
            exact g.go (H7 s1 s2 b20 hs1 hs2) (qc _) ⟨rfl, rfl, rfl, rfl, rfl, rfl, rfl, rfl, rfl, rfl, rfl, rfl, rfl, rfl, rfl, rfl, rfl, rfl, rfl, rfl, rfl, rfl, trivial⟩ ⟨_, .refl _, .refl _⟩ rfl
         have H9 : ∀ (s1 b20 : Nat), El (S1) s1 → T 5 #[tt,tt,tt,tt,tt,ff,ff,tt,ff,tt,ff,tt,ff] ⟨(58, .agg (e4 s1)) :: (59, .agg (e4 v1)) :: (60, .agg (e4 v2)) :: (63, .agg (e4 xx)) :: (65, .agg (e4 yy)) :: (20, pq b20) :: Sl, En ++ [cl b20 Zr 180], []⟩ := by
          intro s1 b20 hs1
          refine g.one _ _ _ 5 (by kernel_rfl) (qc _) ?_
          refine ce (fun w _ => QH hv1 hv2 hS2 w) (fun s2 hs2 => ?_)
          refine ⟨qc _, ?_⟩
          exact g.go (H7 s1 s2 b20 hs1 hs2) (qc _) ⟨rfl, rfl, rfl, rfl, rfl, rfl, rfl, rfl, rfl, rfl, rfl, rfl, rfl, rfl, rfl, rfl, rfl, rfl, rfl, rfl, rfl, rfl, trivial⟩ ⟨_, .refl _, .refl _⟩ rfl
         have H10 : ∀ (s1 : Nat), El (S1) s1 → T 6 #[tt,tt,tt,tt,tt,ff,ff,tt,ff,tt,ff,ff,ff] ⟨(58, .agg (e4 s1)) :: (59, .agg (e4 v1)) :: (60, .agg (e4 v2)) :: (63, .agg (e4 xx)) :: (65, .agg (e4 yy)) :: Sl, En, []⟩ := by
          intro s1 hs1
          refine g.two _ _ _ 5 11 (by kernel_rfl) (qc _) ?_ ?_
          · refine ce (fun w _ => QH hv1 hv2 hS2 w) (fun s2 hs2 => ?_)
            refine ⟨qc _, ?_⟩
            exact g.go (H8 s1 s2 hs1 hs2) (qc _) ⟨rfl, rfl, rfl, rfl, rfl, rfl, rfl, rfl, rfl, rfl, rfl, rfl, rfl, rfl, rfl, rfl, rfl, rfl, rfl, rfl, rfl, trivial⟩ ⟨_, .refl _, .refl _⟩ rfl
          · intro b20
            refine ⟨qc _, ?_⟩
            exact g.go (H9 s1 b20 hs1) (qc _) ⟨rfl, rfl, rfl, rfl, rfl, rfl, rfl, rfl, rfl, rfl, rfl, rfl, rfl, rfl, rfl, rfl, rfl, rfl, rfl, rfl, rfl, rfl, rfl, trivial⟩ ⟨_, .refl _, .refl _⟩ rfl
         have H11 : ∀ (b20 : Nat), T 6 #[tt,tt,ff,tt,tt,ff,ff,tt,ff,tt,ff,tt,ff] ⟨(56, .agg (e4 u1)) :: (57, .agg (e4 u2)) :: (59, .agg (e4 v1)) :: (60, .agg (e4 v2)) :: (63, .agg (e4 xx)) :: (65, .agg (e4 yy)) :: (20, pq b20) :: Sl, En ++ [cl b20 Zr 180], []⟩ := by
          intro b20
          refine g.one _ _ _ 2 (by kernel_rfl) (qc _) ?_
          refine ce (fun w _ => QH hu1 hu2 hS1 w) (fun s1 hs1 => ?_)
          refine ⟨qc _, ?_⟩
          exact g.go (H9 s1 b20 hs1) (qc _) ⟨rfl, rfl, rfl, rfl, rfl, rfl, rfl, rfl, rfl, rfl, rfl, rfl, rfl, rfl, rfl, rfl, rfl, rfl, rfl, rfl, rfl, rfl, rfl, trivial⟩ ⟨_, .refl _, .refl _⟩ rfl
         have H : T 7 #[tt,tt,ff,tt,tt,ff,ff,tt,ff,tt,ff,ff,ff] ⟨(56, .agg (e4 u1)) :: (57, .agg (e4 u2)) :: (59, .agg (e4 v1)) :: (60, .agg (e4 v2)) :: (63, .agg (e4 xx)) :: (65, .agg (e4 yy)) :: Sl, En, []⟩ := by
          refine g.two _ _ _ 2 11 (by kernel_rfl) (qc _) ?_ ?_
          · refine ce (fun w _ => QH hu1 hu2 hS1 w) (fun s1 hs1 => ?_)
            refine ⟨qc _, ?_⟩
            exact g.go (H10 s1 hs1) (qc _) ⟨rfl, rfl, rfl, rfl, rfl, rfl, rfl, rfl, rfl, rfl, rfl, rfl, rfl, rfl, rfl, rfl, rfl, rfl, rfl, rfl, rfl, rfl, trivial⟩ ⟨_, .refl _, .refl _⟩ rfl
          · intro b20
            refine ⟨qc _, ?_⟩
            exact g.go (H11 b20) (qc _) ⟨rfl, rfl, rfl, rfl, rfl, rfl, rfl, rfl, rfl, rfl, rfl, rfl, rfl, rfl, rfl, rfl, rfl, rfl, rfl, rfl, rfl, rfl, rfl, rfl, trivial⟩ ⟨_, .refl _, .refl _⟩ rfl
         refine ldN 4 rfl (qd _) ?_
         refine ldN 5 rfl (qd _) ?_
         refine ldN 7 rfl (qd _) ?_
         refine ldN 8 rfl (qd _) ?_
         refine ldN 11 rfl (qd _) ?_
         refine ldN 12 rfl (qd _) ?_
         exact g.go H (qc _) ⟨rfl, rfl, rfl, rfl, rfl, rfl, rfl, rfl, rfl, rfl, rfl, rfl, rfl, rfl, rfl, rfl, rfl, rfl, rfl, rfl, rfl, rfl, rfl, trivial⟩ ⟨_, .refl _, .refl _⟩ rfl
       · rintro ⟨s1, s2, s3, s4, cr, b20⟩ ⟨hs1, hs2, hs3, hs4, hcr⟩
         have hK : Sub [cl b3 (e4 d) 244, cl b4 (pt x1 y1 c1 b1) 182, cl b5 (pt x2 y2 c2 b2) 182, dead, cl b7 (e4 u1) 180, cl b8 (e4 u2) 180, cl b9 (e4 u3) 180, cl b10 (e4 v1) 180, cl b11 (e4 v2) 180, cl b12 (e4 v3) 180, cl b13 (e4 a) 180, cl b14 (e4 xx) 180, cl b15 (e4 yy) 180, cl b16 (e4 bq) 180, cl b17 (e4 ee) 180, cl b18 (e4 f) 180, cl b19 (e4 gg) 180, cl b20 (e4 cr) 180] [cl b3 (e4 d) 244, cl b4 (pt x1 y1 c1 b1) 182, cl b5 (pt x2 y2 c2 b2) 182, cl b6 pt0 182, cl b7 (e4 u1) 180, cl b8 (e4 u2) 180, cl b9 (e4 u3) 180, cl b10 (e4 v1) 180, cl b11 (e4 v2) 180, cl b12 (e4 v3) 180, cl b13 (e4 a) 180, cl b14 (e4 xx) 180, cl b15 (e4 yy) 180, cl b16 (e4 bq) 180, cl b17 (e4 ee) 180, cl b18 (e4 f) 180, cl b19 (e4 gg) 180, cl b20 (e4 cr) 180] := (.cons (.cons (.cons (.dead (.cons (.cons (.cons (.cons (.cons (.cons (.cons (.cons (.cons (.cons (.cons (.cons (.cons (.cons .nil))))))))))))))))))
         refine drs [cl b3 (e4 d) 244, cl b4 (pt x1 y1 c1 b1) 182, cl b5 (pt x2 y2 c2 b2) 182, dead, cl b7 (e4 u1) 180, cl b8 (e4 u2) 180, cl b9 (e4 u3) 180, cl b10 (e4 v1) 180, cl b11 (e4 v2) 180, cl b12 (e4 v3) 180, cl b13 (e4 a) 180, cl b14 (e4 xx) 180, cl b15 (e4 yy) 180, cl b16 (e4 bq) 180, cl b17 (e4 ee) 180, cl b18 (e4 f) 180, cl b19 (e4 gg) 180, cl b20 (e4 cr) 180] [16] (.t 0 (.t 1 (.t 3 (.t 5 (.t 6 (.t 8 (.t 9 (.t 12 (.t 13 (.n 2 (.n 4 (.n 7 (.n 10 (.n 11 (.n 14 (.n 15 (.n 16 .nil))))))))))))))))) qe qk (by kernel_rfl) hK ?_
         refine ldN 10 rfl (qd _) ?_
         refine ldN 15 rfl (qd _) ?_
         refine ldN 17 rfl (qd _) ?_
         refine ldN 10 rfl (qd _) ?_
         refine ldN 16 rfl (qd _) ?_
         refine ldN 12 rfl (qd _) ?_
         refine ldN 11 rfl (qd _) ?_
         refine ldN 15 rfl (qd _) ?_
         refine ldN 16 rfl (qd _) ?_
         refine ce (fun w _ => qs ha hf hT1 w) (fun t1 ht1 => ?_)
         refine ⟨hK, ?_⟩
         refine ce (fun w _ => qs ht1 hcr hX3 w) (fun x3 hx3 => ?_)
         refine ⟨hK, ?_⟩
         refine ce (fun w _ => qs ha hgg hT2 w) (fun t2 ht2 => ?_)
         refine ⟨hK, ?_⟩
         refine ce (fun w _ => QH hyy hxx hT3 w) (fun t3 ht3 => ?_)
         refine ⟨hK, ?_⟩
         refine ce (fun w _ => qs ht2 ht3 hY3 w) (fun y3 hy3 => ?_)
         refine ⟨hK, ?_⟩
         refine ce (fun w _ => qs hf hgg hZ3 w) (fun z3 hz3 => ?_)
         refine ⟨hK, ?_⟩
         refine ce (fun w _ => el_made hx3 hy3 hz3 w) (fun r hr => ?_)
         refine ⟨hK, ?_⟩
         refine sN 3 rfl (by rw [qn]; rfl) (by rw [Array.all_toList]; exact Qx _ _ _ _) ?_ (by kernel_rfl)
         refine ldN 3 rfl (qn _ _ _ _) ?_
         exact ⟨fun w1 hs => ⟨_, _, _, _, hr, rfl, hs.below⟩⟩
end
section
instance : NeZero PP := ⟨by have := QF; omega⟩
def fi (a : Nat) : Fin PP := Fin.ofNat PP a
theorem Zb (a b : Nat) : fi a = fi b ↔ a % PP = b % PP := by
 unfold fi
 constructor
 · intro h; exact congrArg Fin.val h
 · intro h; exact Fin.ext h
theorem Qk (a : Nat) : fi (a % PP) = fi a := (Zb _ _).2 (Nat.mod_mod _ _)
theorem q6 (a b : Nat) : fi (a * b) = fi a * fi b := by
 apply Fin.ext
 show a * b % PP = (a % PP) * (b % PP) % PP
 exact Nat.mul_mod _ _ _
theorem zF (a b : Nat) : fi (a + b) = fi a + fi b := by
 apply Fin.ext
 show (a + b) % PP = ((a % PP) + (b % PP)) % PP
 exact Nat.add_mod _ _ _
theorem zL : fi 0 = 0 := rfl
theorem zi : fi 1 = 1 := rfl
theorem fi_PP : fi PP = 0 := (Zb PP 0).2 (by rw [Nat.mod_self, Nat.zero_mod])
theorem qbG (b : Nat) : fi (PP - b % PP) = - fi b := by
 have hb : b % PP ≤ PP := Nat.le_of_lt (Nat.mod_lt _ qG)
 have h : fi (PP - b % PP) + fi b = 0 := by
  rw [← Qk b, ← zF, Nat.sub_add_cancel hb, fi_PP]
 grind
theorem QM (a : Fin PP) : fi a.val = a := Fin.ext (Nat.mod_eq_of_lt a.isLt)
theorem fi_ne (a : Nat) (h : a % PP ≠ 0) : fi a ≠ 0 := by
 rw [← zL]
 intro h2
 exact h (((Zb _ _).1 h2).trans (Nat.zero_mod _))
theorem fi_ne0 (a : Nat) (h : fi a ≠ 0) : a % PP ≠ 0 := by
 intro h2
 apply h
 rw [← zL]
 exact (Zb _ _).2 (h2.trans (Nat.zero_mod _).symm)
def qN (a : Fin PP) : Fin PP := fi (pwm a.val (PP - 2))
def fd : Fin PP := fi SL
def fI : Fin PP := fi rti
theorem sl_e : (PP - 1) / 2 < 2 ^ 256 := by decide +kernel
theorem sl_pm : Nm.pm PP 256 SL ((PP - 1) / 2) = PP - 1 := by decide +kernel
theorem chi_SL : chi SL = PP - 1 := by
 unfold chi; rw [qcC _ _ sl_e, sl_pm]
theorem chi_sqr (s : Nat) (h : s % PP ≠ 0) : chi (s * s) = 1 := by rw [chi_mul]; exact chi_sq s h
theorem SL_ne : SL % PP ≠ 0 := by decide +kernel
theorem non_sq (s t : Nat) (h : s * s % PP = SL * (t * t) % PP) : t % PP = 0 := by
 by_cases ht : t % PP = 0
 · exact ht
 · exfalso
   have h1 : (1 : Nat) < PP := by have := QF; omega
   by_cases hs : s % PP = 0
   · rw [Nat.mul_mod, hs, Nat.zero_mul, Nat.zero_mod] at h
     rcases qa4 _ _ h.symm with h | h
     · exact SL_ne h
     · rcases qa4 _ _ h with h | h <;> exact ht h
   · have e1 := chi_sqr s hs
     have e2 := chi_sqr t ht
     have e3 : chi (SL * (t * t)) = PP - 1 := by
      rw [chi_mul, e2, chi_SL, Nat.mul_one, Nat.mod_eq_of_lt (show PP - 1 < PP by omega)]
     have e4 : chi (s * s) = chi (SL * (t * t)) := by rw [← chi_mod (s * s), h, chi_mod]
     rw [e1, e3] at e4
     have := QF
     omega
theorem fld : Fld PP fd fI qN where
 dom := by
  intro a b h
  rw [← QM a, ← QM b, ← q6, ← zL] at h
  have h2 := ((Zb _ _).1 h).trans (Nat.zero_mod _)
  rcases qa4 _ _ h2 with h3 | h3
  · left; rw [← QM a, ← zL]; exact (Zb _ _).2 (h3.trans (Nat.zero_mod _).symm)
  · right; rw [← QM b, ← zL]; exact (Zb _ _).2 (h3.trans (Nat.zero_mod _).symm)
 one := by
  rw [← zi]; exact fi_ne 1 (by rw [ZH]; decide)
 two := by
  rw [← zi, ← zF]
  exact fi_ne 2 (by have := QF; rw [Nat.mod_eq_of_lt (by omega)]; decide)
 root := by
  have h : fi (rti * rti) = fi (PP - 1 % PP) := (Zb _ _).2 (by rw [rti_sq, ZH, Nat.mod_eq_of_lt (by have := QF; omega)])
  rw [q6, qbG, zi] at h
  exact h
 non := by
  intro s t h
  rw [← QM s, ← QM t] at h
  unfold fd at h
  rw [← q6, ← q6, ← q6] at h
  have h2 := non_sq _ _ ((Zb _ _).1 h)
  rw [← QM t, ← zL]; exact (Zb _ _).2 (h2.trans (Nat.zero_mod _).symm)
 inv := by
  intro a ha
  have h0 : a.val % PP ≠ 0 := fi_ne0 _ (by rw [QM]; exact ha)
  have h1 := over_undoes 1 a.val h0
  rw [Nat.one_mul] at h1
  unfold qN
  rw [← zi, ← QM a, QM a, ← QM a, QM a]
  have h2 : fi (a.val * pwm a.val (PP - 2)) = fi 1 := (Zb _ _).2 (by rw [Nat.mul_comm]; rw [Nat.mod_mul_mod] at h1; exact h1)
  rw [q6, QM] at h2
  exact h2
def Rep (X Y Z : Nat) (p : Fin PP × Fin PP) : Prop := fi X = p.1 * fi Z ∧ fi Y = p.2 * fi Z ∧ fi Z ≠ 0 ∧ OnP fd p
theorem qa0 (X1 Y1 Z1 X2 Y2 Z2 : Nat) (p q : Fin PP × Fin PP) (hp : Rep X1 Y1 Z1 p) (hq : Rep X2 Y2 Z2 q) :
 Rep (ZG SL X1 Y1 Z1 X2 Y2 Z2).1 (ZG SL X1 Y1 Z1 X2 Y2 Z2).2.1 (ZG SL X1 Y1 Z1 X2 Y2 Z2).2.2 (QD qN fd p q) := by
 obtain ⟨x1, y1, z1, o1⟩ := hp
 obtain ⟨x2, y2, z2, o2⟩ := hq
 have ex := fld.sx_eq p.1 p.2 q.1 q.2 o1 o2
 have ey := fld.sy_eq p.1 p.2 q.1 q.2 o1 o2
 have np := fld.plus_ne p.1 p.2 q.1 q.2 o1 o2
 have nm := fld.minus_ne p.1 p.2 q.1 q.2 o1 o2
 have hA : fi Z1 * fi Z2 ≠ 0 := fld.mul_ne z1 z2
 have ho := fld.on_add p q o1 o2
 have eF : fi (((Z1 * Z2 % PP) * (Z1 * Z2 % PP) % PP + (PP - SL * (X1 * X2 % PP) % PP * (Y1 * Y2 % PP) % PP)) % PP) = fi Z1 * fi Z2 * (fi Z1 * fi Z2) * (1 - fd * p.1 * q.1 * p.2 * q.2) := by
  simp only [Qk, qbG, q6, zF]
  rw [x1, x2, y1, y2]
  show _ + -(fd * _ * _) = _
  grind
 have eG : fi (((Z1 * Z2 % PP) * (Z1 * Z2 % PP) % PP + SL * (X1 * X2 % PP) % PP * (Y1 * Y2 % PP) % PP) % PP) = fi Z1 * fi Z2 * (fi Z1 * fi Z2) * (1 + fd * p.1 * q.1 * p.2 * q.2) := by
  simp only [Qk, q6, zF]
  rw [x1, x2, y1, y2]
  show _ + fd * _ * _ = _
  grind
 have eC : fi ((((X1 + Y1) % PP * ((X2 + Y2) % PP) % PP + (PP - X1 * X2 % PP)) % PP + (PP - Y1 * Y2 % PP)) % PP) = fi Z1 * fi Z2 * (p.1 * q.2 + q.1 * p.2) := by
  simp only [Qk, qbG, q6, zF]
  rw [x1, x2, y1, y2]
  grind
 have eD : fi ((Y1 * Y2 % PP + X1 * X2 % PP) % PP) = fi Z1 * fi Z2 * (p.2 * q.2 + p.1 * q.1) := by
  simp only [Qk, q6, zF]
  rw [x1, x2, y1, y2]
  grind
 unfold Rep QD
 unfold ZG
 refine ⟨?_, ?_, ?_, ho⟩
 · show fi (_ * _ % PP) = sx qN fd p.1 p.2 q.1 q.2 * fi (_ * _ % PP)
   simp only [Qk, q6] at eF eG eC eD ⊢
   rw [eF, eG, eC, ← ex]
   grind
 · show fi (_ * _ % PP) = sy qN fd p.1 p.2 q.1 q.2 * fi (_ * _ % PP)
   simp only [Qk, q6] at eF eG eC eD ⊢
   rw [eF, eG, eD, ← ey]
   grind
 · show fi (_ * _ % PP) ≠ 0
   rw [Qk, q6, eF, eG]
   exact fld.mul_ne (fld.mul_ne (fld.mul_ne hA hA) nm) (fld.mul_ne (fld.mul_ne hA hA) np)
end
section
open Go.RowKit Go.Lib
theorem pplus_any (x1 y1 c1 : Nat) (b1 : Bool) (X1 Y1 Z1 : Nat) (p1 : ZS x1 y1 c1 b1 X1 Y1 Z1) (x2 y2 c2 : Nat) (b2 : Bool) (X2 Y2 Z2 : Nat) (p2 : ZS x2 y2 c2 b2 X2 Y2 Z2) (w : World) :
 Calls Tryz.prog 172 #[.agg (pt x1 y1 c1 b1), .agg (pt x2 y2 c2 b2)] w (PtP (ZG SL X1 Y1 Z1 X2 Y2 Z2).1 (ZG SL X1 Y1 Z1 X2 Y2 Z2).2.1 (ZG SL X1 Y1 Z1 X2 Y2 Z2).2.2 w) := by
 have hadd := fun d hd hr w => add_of d SL hd hr x1 y1 c1 b1 X1 Y1 Z1 p1 x2 y2 c2 b2 X2 Y2 Z2 p2 w
 obtain ⟨R, hR⟩ : ∃ R, R = ZG SL X1 Y1 Z1 X2 Y2 Z2 := ⟨_, rfl⟩
 rw [← hR] at hadd ⊢
 clear hR p1 p2
 have Hadd := Lib.hid hadd; clear hadd
 go_enter Tryz.func172, Tryz.ntmps172
 repeat ((fail_if_success (with_reducible (show wpList _ _ _ _ _ _))); go_step)
 iterate 3 (refine wpList_step (fun K hK => ?_); go_simp; (try go_bits); refine hK _ _ ?_; clear hK K)
 refine wpList_nil ?_
 have M2 := Lib.hid (((Has.new w  (pt x1 y1 c1 b1) 182).alloc (.cells (pt x2 y2 c2 b2) 182)).alloc (.cells (#[.int .u64 0, .int .u64 0, .int .u64 0, .int .u64 0, .int .u64 0, .int .u64 0, .int .u64 0, .int .u64 0, .int .u64 0, .int .u64 0, .int .u64 0, .int .u64 0, .bool false] : Array Value) 182))
 have M3 := Lib.hid ((Has.new1 w (.cells (pt x1 y1 c1 b1) 182) (pt x2 y2 c2 b2) 182).alloc (.cells (#[.int .u64 0, .int .u64 0, .int .u64 0, .int .u64 0, .int .u64 0, .int .u64 0, .int .u64 0, .int .u64 0, .int .u64 0, .int .u64 0, .int .u64 0, .int .u64 0, .bool false] : Array Value) 182))
 have M4 := Lib.hid (HasN.new2 w (.cells (pt x1 y1 c1 b1) 182) (.cells (pt x2 y2 c2 b2) 182) (#[.int .u64 0, .int .u64 0, .int .u64 0, .int .u64 0, .int .u64 0, .int .u64 0, .int .u64 0, .int .u64 0, .int .u64 0, .int .u64 0, .int .u64 0, .int .u64 0, .bool false] : Array Value) 182 13 (by kernel_rfl))
 have HB := Lib.hid (Qz w (.cells (pt x1 y1 c1 b1) 182) (.cells (pt x2 y2 c2 b2) 182) (.cells (#[.int .u64 0, .int .u64 0, .int .u64 0, .int .u64 0, .int .u64 0, .int .u64 0, .int .u64 0, .int .u64 0, .int .u64 0, .int .u64 0, .int .u64 0, .int .u64 0, .bool false] : Array Value) 182))
 obtain ⟨yw1, hwyw1⟩ : ∃ ww, ww = (((w.alloc (.cells (pt x1 y1 c1 b1) 182)).alloc (.cells (pt x2 y2 c2 b2) 182)).alloc (.cells (#[.int .u64 0, .int .u64 0, .int .u64 0, .int .u64 0, .int .u64 0, .int .u64 0, .int .u64 0, .int .u64 0, .int .u64 0, .int .u64 0, .int .u64 0, .int .u64 0, .bool false] : Array Value) 182)) := ⟨_, rfl⟩
 rw [← hwyw1] at M2 M3 M4 HB ⊢
 clear hwyw1
 repeat ((fail_if_success (with_reducible (show wpList _ _ _ _ _ _))); go_step)
 refine wp_region_noPanic ?_
 refine Qu 4 5 #[ff,ff,ff,ff,ff] (by kernel_rfl) rfl rfl ?_
 intro W2 hW2
 rw [← hW2] at M2 M3 M4 HB
 clear hW2
 have M4N := Lib.hid (by first | exact M4.out | exact M4.out.toN (by first | exact qd _ | exact qh _ | exact qg _ | exact qn .. | exact qL ..) : HasN W2 (w.heap.size + 1 + 1) _ _)
 refine qi 1 6 #[ff,tt,ff,ff,ff] rfl rfl rfl (by kernel_rfl) (qj (by rfl) 182 _ rfl (w.heap.size) rfl 182 (pt x1 y1 c1 b1) (fun _ h => M2.out.below h M2.out.lt) Tryz.underlying182 rfl (by rw [qn]; kernel_rfl)) ((qF W2)) ?_
 (try simp only [sI, sS, sZ])
 refine qi 2 7 #[ff,tt,tt,ff,ff] rfl rfl rfl (by kernel_rfl) (qj (by rfl) 182 _ rfl (w.heap.size + 1) rfl 182 (pt x2 y2 c2 b2) (fun _ h => M3.out.below h M3.out.lt) Tryz.underlying182 rfl (by rw [qn]; kernel_rfl)) ((qF W2)) ?_
 (try simp only [sI, sS, sZ])
 refine qq (i := 0) (by kernel_rfl) ?_
 refine qM 0 5 #[tt,tt,tt,ff,ff] rfl rfl rfl (by rfl) rfl rfl (by rfl) ent168 (by rfl) (qbu _) ?_
 rintro e wW21 ⟨d, hd, hdr, rfl, hb⟩
 have hkW21 := qf (qF W2) hb
 refine ⟨_, rfl, fun _ => hkW21, ?_⟩
 clear hb
 (try simp only [sI, sS, sZ])
 refine qq (i := 3) (by kernel_rfl) ?_
 refine qM 3 8 #[tt,tt,tt,tt,ff] rfl rfl rfl (by rfl) rfl rfl (by rfl) qbI (by rfl) (Hadd.out d hd hdr _) ?_
 rintro e wW22 ⟨px, py, pz, pb, hpt, rfl, hb⟩
 have hkW22 := qf hkW21 hb
 refine ⟨_, rfl, fun _ => hkW22, ?_⟩
 clear hb
 (try simp only [sI, sS, sZ])
 refine qq (i := 4) (by kernel_rfl) ?_
 obtain ⟨Zq, hZ, mZ⟩ := M4N.out.below hkW22 M4N.out.lt
 have MZ := Lib.hid mZ; clear mZ
 have HZ := Lib.hid hZ; clear hZ
 refine qac 4 #[tt,tt,tt,tt,tt] rfl rfl rfl (by rfl) 182 _ _ rfl (w.heap.size + 1 + 1) _ rfl rfl 182 Zq MZ.out (by rw [qn]; kernel_rfl) (HZ.out.trans (qn ..).symm) (Qx _ _ _ _) ⟨fun h => (h rfl).elim, ?_⟩
 (try simp only [sI, sS, sZ])
 refine qD (by kernel_rfl) (NoPanic.normal ?_)
 replace M2 := Lib.hid ((M2.out.call hkW22).setRow_other (w.heap.size + 1 + 1) (pt px py pz pb) (by omega))
 replace M3 := Lib.hid ((M3.out.call hkW22).setRow_other (w.heap.size + 1 + 1) (pt px py pz pb) (by omega))
 clear M4 M4N
 have M4 := Lib.hid (MZ.out.setRow (pt px py pz pb)); clear MZ HZ
 replace HB := Lib.hid (below_setRow (qf HB.out hkW22) (w.heap.size + 1 + 1) (pt px py pz pb) (by omega))
 obtain ⟨yw3, hwyw3⟩ : ∃ ww, ww = wW22.setRow (w.heap.size + 1 + 1) (pt px py pz pb) := ⟨_, rfl⟩
 rw [← hwyw3] at M2 M3 M4 HB ⊢
 clear hwyw3
 go_wp2_with fail
 exact bodyPost_ret (v := .agg (pt px py pz pb)) (results_cell_row (t := 182) (by rfl) _ _ (w.heap.size + 1 + 1) _ _ _ rfl M4.out Tryz.underlying182 rfl (by rw [qn]; kernel_rfl)) rfl ⟨px, py, pz, pb, hpt, rfl, HB.out⟩
def negP (X : Nat) : Nat := (0 % PP + (PP - X)) % PP
theorem pminus_any (x1 y1 c1 : Nat) (b1 : Bool) (X1 Y1 Z1 : Nat) (p1 : ZS x1 y1 c1 b1 X1 Y1 Z1) (x2 y2 c2 : Nat) (b2 : Bool) (X2 Y2 Z2 : Nat) (p2 : ZS x2 y2 c2 b2 X2 Y2 Z2) (w : World) :
 Calls Tryz.prog 125 #[.agg (pt x1 y1 c1 b1), .agg (pt x2 y2 c2 b2)] w (PtP (ZG SL X1 Y1 Z1 (negP X2) Y2 Z2).1 (ZG SL X1 Y1 Z1 (negP X2) Y2 Z2).2.1 (ZG SL X1 Y1 Z1 (negP X2) Y2 Z2).2.2 w) := by
 have hpl := fun w => qby x2 y2 c2 b2 X2 Y2 Z2 p2 w
 have hplus := fun x y z b h w => pplus_any x1 y1 c1 b1 X1 Y1 Z1 p1 x y z b (negP X2) Y2 Z2 h w
 have hmi := zq
 have hmd := made_any
 obtain ⟨NX, hNX⟩ : ∃ n, n = negP X2 := ⟨_, rfl⟩
 rw [← hNX] at hplus ⊢
 have hnx : ∀ m u, u % PP = X2 → m % PP = (0 % PP + (PP - u % PP)) % PP → m % PP = NX := by
  intro m u h1 h2; rw [hNX, h2, h1]; rfl
 obtain ⟨R, hR⟩ : ∃ R, R = ZG SL X1 Y1 Z1 NX Y2 Z2 := ⟨_, rfl⟩
 rw [← hR] at hplus ⊢
 clear hR hNX p1 p2
 have Hpl := Lib.hid hpl; clear hpl
 have Hplus := Lib.hid hplus; clear hplus
 have Hmi := Lib.hid hmi; clear hmi
 have Hmd := Lib.hid hmd; clear hmd
 have Hnx := Lib.hid hnx; clear hnx
 go_enter Tryz.func125, Tryz.ntmps125
 repeat ((fail_if_success (with_reducible (show wpList _ _ _ _ _ _))); go_step)
 iterate 3 (refine wpList_step (fun K hK => ?_); go_simp; (try go_bits); refine hK _ _ ?_; clear hK K)
 refine wpList_nil ?_
 have M2 := Lib.hid (((Has.new w  (pt x1 y1 c1 b1) 182).alloc (.cells (pt x2 y2 c2 b2) 182)).alloc (.cells (#[.int .u64 0, .int .u64 0, .int .u64 0, .int .u64 0, .int .u64 0, .int .u64 0, .int .u64 0, .int .u64 0, .int .u64 0, .int .u64 0, .int .u64 0, .int .u64 0, .bool false] : Array Value) 182))
 have M3 := Lib.hid ((Has.new1 w (.cells (pt x1 y1 c1 b1) 182) (pt x2 y2 c2 b2) 182).alloc (.cells (#[.int .u64 0, .int .u64 0, .int .u64 0, .int .u64 0, .int .u64 0, .int .u64 0, .int .u64 0, .int .u64 0, .int .u64 0, .int .u64 0, .int .u64 0, .int .u64 0, .bool false] : Array Value) 182))
 have M4 := Lib.hid (HasN.new2 w (.cells (pt x1 y1 c1 b1) 182) (.cells (pt x2 y2 c2 b2) 182) (#[.int .u64 0, .int .u64 0, .int .u64 0, .int .u64 0, .int .u64 0, .int .u64 0, .int .u64 0, .int .u64 0, .int .u64 0, .int .u64 0, .int .u64 0, .int .u64 0, .bool false] : Array Value) 182 13 (by kernel_rfl))
 have HB := Lib.hid (Qz w (.cells (pt x1 y1 c1 b1) 182) (.cells (pt x2 y2 c2 b2) 182) (.cells (#[.int .u64 0, .int .u64 0, .int .u64 0, .int .u64 0, .int .u64 0, .int .u64 0, .int .u64 0, .int .u64 0, .int .u64 0, .int .u64 0, .int .u64 0, .int .u64 0, .bool false] : Array Value) 182))
 obtain ⟨yw1, hwyw1⟩ : ∃ ww, ww = (((w.alloc (.cells (pt x1 y1 c1 b1) 182)).alloc (.cells (pt x2 y2 c2 b2) 182)).alloc (.cells (#[.int .u64 0, .int .u64 0, .int .u64 0, .int .u64 0, .int .u64 0, .int .u64 0, .int .u64 0, .int .u64 0, .int .u64 0, .int .u64 0, .int .u64 0, .int .u64 0, .bool false] : Array Value) 182)) := ⟨_, rfl⟩
 rw [← hwyw1] at M2 M3 M4 HB ⊢
 clear hwyw1
 repeat ((fail_if_success (with_reducible (show wpList _ _ _ _ _ _))); go_step)
 refine qv (by rfl) 182 _ rfl (w.heap.size + 1) rfl 182 (pt x2 y2 c2 b2) M3.out Tryz.underlying182 rfl (by rw [qn]; kernel_rfl) 9 rfl ?_
 (try simp only [Act.put, sI, sS, sZ])
 refine qm (by rfl) rfl rfl (by rfl) ent171 (by rfl) (Hpl.out _) 10 rfl ?_
 rintro e uw1 ⟨u, s, t, ⟨hu, hs, ht⟩, ⟨hur, hsr, htr⟩, rfl, hb⟩
 replace M2 := Lib.hid (M2.out.call hb)
 replace M3 := Lib.hid (M3.out.call hb)
 replace M4 := Lib.hid (M4.out.call hb)
 replace HB := Lib.hid (qf HB.out hb)
 refine ⟨_, rfl, ?_⟩
 clear hb
 (try simp only [Act.put, sI, sS, sZ])
 iterate 4 (refine wpList_step (fun K hK => ?_); go_simp; (try go_bits); refine hK _ _ ?_; clear hK K)
 refine qE (by rfl) 180 rfl _ qb5 5 rfl ?_
 intro yw2 hw2
 have hlt3 := M2.out.lt
 have hlt4 := M3.out.lt
 have hlt5 := M4.out.lt
 have hsz := HB.out.size
 replace M2 := Lib.hid (M2.out.alloc (.cells z36 180))
 replace M3 := Lib.hid (M3.out.alloc (.cells z36 180))
 replace M4 := Lib.hid (M4.out.alloc (.cells z36 180))
 have M5 := Lib.hid (HasN.new uw1 z36 180 4 (by kernel_rfl))
 replace HB := Lib.hid (HB.out.alloc hsz (.cells z36 180))
 rw [← hw2] at M2 M3 M4 M5 HB; clear hw2
 (try simp only [Act.put, sI, sS, sZ])
 refine qE (by rfl) 180 rfl _ qb5 6 rfl ?_
 intro yw6 hw2
 have hlt7 := M2.out.lt
 have hlt8 := M3.out.lt
 have hlt9 := M4.out.lt
 have hlt10 := M5.out.lt
 have hsz := HB.out.size
 replace M2 := Lib.hid (M2.out.alloc (.cells z36 180))
 replace M3 := Lib.hid (M3.out.alloc (.cells z36 180))
 replace M4 := Lib.hid (M4.out.alloc (.cells z36 180))
 replace M5 := Lib.hid (M5.out.alloc (.cells z36 180))
 have M6 := Lib.hid (HasN.new yw2 z36 180 4 (by kernel_rfl))
 replace HB := Lib.hid (HB.out.alloc hsz (.cells z36 180))
 rw [← hw2] at M2 M3 M4 M5 M6 HB; clear hw2
 (try simp only [Act.put, sI, sS, sZ])
 refine qE (by rfl) 180 rfl _ qb5 7 rfl ?_
 intro yw11 hw2
 have hlt12 := M2.out.lt
 have hlt13 := M3.out.lt
 have hlt14 := M4.out.lt
 have hlt15 := M5.out.lt
 have hlt16 := M6.out.lt
 have hsz := HB.out.size
 replace M2 := Lib.hid (M2.out.alloc (.cells z36 180))
 replace M3 := Lib.hid (M3.out.alloc (.cells z36 180))
 replace M4 := Lib.hid (M4.out.alloc (.cells z36 180))
 replace M5 := Lib.hid (M5.out.alloc (.cells z36 180))
 replace M6 := Lib.hid (M6.out.alloc (.cells z36 180))
 have M7 := Lib.hid (HasN.new yw6 z36 180 4 (by kernel_rfl))
 replace HB := Lib.hid (HB.out.alloc hsz (.cells z36 180))
 rw [← hw2] at M2 M3 M4 M5 M6 M7 HB; clear hw2
 (try simp only [Act.put, sI, sS, sZ])
 first | (obtain ⟨Zq, hZ, mZ⟩ := M5.out) | (obtain ⟨Zq, hZ, mZ⟩ := M5.out.toN (qd ..))
 refine ql (by rfl) 180 _ _ rfl rfl (uw1.heap.size) (e4 u) rfl rfl 180 Zq mZ (by rw [qd]; kernel_rfl) (hZ.trans (qd ..).symm) (qo _ _ _) ?_
 intro yw17 hw2
 replace M2 := Lib.hid (M2.out.setRow_other (uw1.heap.size) (e4 u) (by omega))
 replace M3 := Lib.hid (M3.out.setRow_other (uw1.heap.size) (e4 u) (by omega))
 replace M4 := Lib.hid (M4.out.setRow_other (uw1.heap.size) (e4 u) (by omega))
 replace M6 := Lib.hid (M6.out.setRow_other (uw1.heap.size) (e4 u) (by omega))
 replace M7 := Lib.hid (M7.out.setRow_other (uw1.heap.size) (e4 u) (by omega))
 replace M5 := Lib.hid (mZ.setRow (e4 u))
 replace HB := Lib.hid (below_setRow HB.out (uw1.heap.size) (e4 u) (by omega))
 rw [← hw2] at M2 M3 M4 M6 M7 M5 HB; clear mZ hZ hw2
 first | (obtain ⟨Zq, hZ, mZ⟩ := M6.out) | (obtain ⟨Zq, hZ, mZ⟩ := M6.out.toN (qd ..))
 refine ql (by rfl) 180 _ _ rfl rfl (yw2.heap.size) (e4 s) rfl rfl 180 Zq mZ (by rw [qd]; kernel_rfl) (hZ.trans (qd ..).symm) (qo _ _ _) ?_
 intro yw18 hw2
 replace M2 := Lib.hid (M2.out.setRow_other (yw2.heap.size) (e4 s) (by omega))
 replace M3 := Lib.hid (M3.out.setRow_other (yw2.heap.size) (e4 s) (by omega))
 replace M4 := Lib.hid (M4.out.setRow_other (yw2.heap.size) (e4 s) (by omega))
 replace M5 := Lib.hid (M5.out.setRow_other (yw2.heap.size) (e4 s) (by omega))
 replace M7 := Lib.hid (M7.out.setRow_other (yw2.heap.size) (e4 s) (by omega))
 replace M6 := Lib.hid (mZ.setRow (e4 s))
 replace HB := Lib.hid (below_setRow HB.out (yw2.heap.size) (e4 s) (by omega))
 rw [← hw2] at M2 M3 M4 M5 M7 M6 HB; clear mZ hZ hw2
 first | (obtain ⟨Zq, hZ, mZ⟩ := M7.out) | (obtain ⟨Zq, hZ, mZ⟩ := M7.out.toN (qd ..))
 refine ql (by rfl) 180 _ _ rfl rfl (yw6.heap.size) (e4 t) rfl rfl 180 Zq mZ (by rw [qd]; kernel_rfl) (hZ.trans (qd ..).symm) (qo _ _ _) ?_
 intro yw19 hw2
 replace M2 := Lib.hid (M2.out.setRow_other (yw6.heap.size) (e4 t) (by omega))
 replace M3 := Lib.hid (M3.out.setRow_other (yw6.heap.size) (e4 t) (by omega))
 replace M4 := Lib.hid (M4.out.setRow_other (yw6.heap.size) (e4 t) (by omega))
 replace M5 := Lib.hid (M5.out.setRow_other (yw6.heap.size) (e4 t) (by omega))
 replace M6 := Lib.hid (M6.out.setRow_other (yw6.heap.size) (e4 t) (by omega))
 replace M7 := Lib.hid (mZ.setRow (e4 t))
 replace HB := Lib.hid (below_setRow HB.out (yw6.heap.size) (e4 t) (by omega))
 rw [← hw2] at M2 M3 M4 M5 M6 M7 HB; clear mZ hZ hw2
 refine wpList_nil ?_
 have Hur := Lib.hid hur; clear hur
 have Hsr := Lib.hid hsr; clear hsr
 have Htr := Lib.hid htr; clear htr
 repeat ((fail_if_success (with_reducible (show wpList _ _ _ _ _ _))); go_step)
 refine wp_region_noPanic ?_
 refine Qu 8 9 #[ff,ff,ff,ff,ff,ff,ff,ff,ff] (by kernel_rfl) rfl rfl ?_
 intro W20 hW20
 rw [← hW20] at M2 M3 M4 M5 M6 M7 HB
 clear hW20
 have M4N := Lib.hid (by first | exact M4.out | exact M4.out.toN (by first | exact qd _ | exact qh _ | exact qg _ | exact qn .. | exact qL ..) : HasN W20 (w.heap.size + 1 + 1) _ _)
 refine qi 0 14 #[tt,ff,ff,ff,ff,ff,ff,ff,ff] rfl rfl rfl (by kernel_rfl) (qj (by rfl) 182 _ rfl (w.heap.size) rfl 182 (pt x1 y1 c1 b1) (fun _ h => M2.out.below h M2.out.lt) Tryz.underlying182 rfl (by rw [qn]; kernel_rfl)) ((qF W20)) ?_
 (try simp only [sI, sS, sZ])
 refine qi 1 15 #[tt,tt,ff,ff,ff,ff,ff,ff,ff] rfl rfl rfl (by kernel_rfl) (zf (by rfl) 180 _ rfl _ (by rfl) (e4 0) (bd36z)) ((qF W20)) ?_
 (try simp only [sI, sS, sZ])
 refine qi 2 16 #[tt,tt,tt,ff,ff,ff,ff,ff,ff] rfl rfl rfl (by kernel_rfl) (qj (by rfl) 180 _ rfl (uw1.heap.size) rfl 180 (e4 u) (fun _ h => M5.out.below h M5.out.lt) Tryz.underlying180 rfl (by rw [qd]; kernel_rfl)) ((qF W20)) ?_
 (try simp only [sI, sS, sZ])
 refine qi 4 18 #[tt,tt,tt,ff,tt,ff,ff,ff,ff] rfl rfl rfl (by kernel_rfl) (qj (by rfl) 180 _ rfl (yw2.heap.size) rfl 180 (e4 s) (fun _ h => M6.out.below h M6.out.lt) Tryz.underlying180 rfl (by rw [qd]; kernel_rfl)) ((qF W20)) ?_
 (try simp only [sI, sS, sZ])
 refine qi 5 19 #[tt,tt,tt,ff,tt,tt,ff,ff,ff] rfl rfl rfl (by kernel_rfl) (qj (by rfl) 180 _ rfl (yw6.heap.size) rfl 180 (e4 t) (fun _ h => M7.out.below h M7.out.lt) Tryz.underlying180 rfl (by rw [qd]; kernel_rfl)) ((qF W20)) ?_
 (try simp only [sI, sS, sZ])
 refine qq (i := 3) (by kernel_rfl) ?_
 refine qM 3 17 #[tt,tt,tt,tt,tt,tt,ff,ff,ff] rfl rfl rfl (by rfl) rfl rfl (by rfl) ent174 (by rfl) (Hmi.out 0 u (by decide) hu _) ?_
 rintro e wW201 ⟨m, hm, hmr, rfl, hb⟩
 have hkW201 := qf (qF W20) hb
 refine ⟨_, rfl, fun _ => hkW201, ?_⟩
 clear hb
 (try simp only [sI, sS, sZ])
 refine qq (i := 6) (by kernel_rfl) ?_
 refine qM 6 20 #[tt,tt,tt,tt,tt,tt,tt,ff,ff] rfl rfl rfl (by rfl) rfl rfl (by rfl) ent173 (by rfl) (Hmd.out m s t hm hs ht _) ?_
 rintro e wW202 ⟨qx, qy, qz, qb, hq, rfl, hb⟩
 have hkW202 := qf hkW201 hb
 rw [Hnx.out m u Hur.out hmr, Hsr.out, Htr.out] at hq
 have Hq := Lib.hid hq; clear hq hmr
 refine ⟨_, rfl, fun _ => hkW202, ?_⟩
 clear hb
 (try simp only [sI, sS, sZ])
 refine qq (i := 7) (by kernel_rfl) ?_
 refine qM 7 21 #[tt,tt,tt,tt,tt,tt,tt,tt,ff] rfl rfl rfl (by rfl) rfl rfl (by rfl) ent172 (by rfl) (Hplus.out qx qy qz qb Hq.out _) ?_
 rintro e wW203 ⟨px, py, pz, pb, hpt, rfl, hb⟩
 have hkW203 := qf hkW202 hb
 refine ⟨_, rfl, fun _ => hkW203, ?_⟩
 clear hb
 (try simp only [sI, sS, sZ])
 refine qq (i := 8) (by kernel_rfl) ?_
 obtain ⟨Zq, hZ, mZ⟩ := M4N.out.below hkW203 M4N.out.lt
 have MZ := Lib.hid mZ; clear mZ
 have HZ := Lib.hid hZ; clear hZ
 refine qac 8 #[tt,tt,tt,tt,tt,tt,tt,tt,tt] rfl rfl rfl (by rfl) 182 _ _ rfl (w.heap.size + 1 + 1) _ rfl rfl 182 Zq MZ.out (by rw [qn]; kernel_rfl) (HZ.out.trans (qn ..).symm) (Qx _ _ _ _) ⟨fun h => (h rfl).elim, ?_⟩
 (try simp only [sI, sS, sZ])
 refine qD (by kernel_rfl) (NoPanic.normal ?_)
 replace M2 := Lib.hid ((M2.out.call hkW203).setRow_other (w.heap.size + 1 + 1) (pt px py pz pb) (by omega))
 replace M3 := Lib.hid ((M3.out.call hkW203).setRow_other (w.heap.size + 1 + 1) (pt px py pz pb) (by omega))
 replace M5 := Lib.hid ((M5.out.call hkW203).setRow_other (w.heap.size + 1 + 1) (pt px py pz pb) (by omega))
 replace M6 := Lib.hid ((M6.out.call hkW203).setRow_other (w.heap.size + 1 + 1) (pt px py pz pb) (by omega))
 replace M7 := Lib.hid ((M7.out.call hkW203).setRow_other (w.heap.size + 1 + 1) (pt px py pz pb) (by omega))
 clear M4 M4N
 have M4 := Lib.hid (MZ.out.setRow (pt px py pz pb)); clear MZ HZ
 replace HB := Lib.hid (below_setRow (qf HB.out hkW203) (w.heap.size + 1 + 1) (pt px py pz pb) (by omega))
 obtain ⟨yw21, hwyw21⟩ : ∃ ww, ww = wW203.setRow (w.heap.size + 1 + 1) (pt px py pz pb) := ⟨_, rfl⟩
 rw [← hwyw21] at M2 M3 M4 M5 M6 M7 HB ⊢
 clear hwyw21
 go_wp2_with fail
 exact bodyPost_ret (v := .agg (pt px py pz pb)) (results_cell_row (t := 182) (by rfl) _ _ (w.heap.size + 1 + 1) _ _ _ rfl M4.out Tryz.underlying182 rfl (by rw [qn]; kernel_rfl)) rfl ⟨px, py, pz, pb, hpt, rfl, HB.out⟩
end
section
open Go.RowKit Go.Lib
theorem and_128 (a : Nat) (h : a < 256) : bits .and .u8 (a : Int) 128 = ((a / 128 * 128 : Nat) : Int) := by
 have : (List.range 256).all (fun a => bits .and .u8 (a : Int) 128 == ((a / 128 * 128 : Nat) : Int)) = true := by decide +kernel
 simpa using List.all_eq_true.1 this a (by simpa using h)
theorem andn_128 (a : Nat) (h : a < 256) : bits .andNot .u8 (a : Int) 128 = ((a % 128 : Nat) : Int) := by
 have : (List.range 256).all (fun a => bits .andNot .u8 (a : Int) 128 == ((a % 128 : Nat) : Int)) = true := by decide +kernel
 simpa using List.all_eq_true.1 this a (by simpa using h)
theorem dg31_any (n : Nat) (h : n < 115792089237316195423570985008687907853269984665640564039457584007913129639936) : ∃ c : Nat, dg 256 n 31 = (c : Int) ∧ c < 256 ∧ c / 128 = n / 57896044618658097711785492504343953926634992332820282019728792003956564819968 ∧ c = n / 256 ^ 31 % 256 := by
 refine ⟨n / 256 ^ 31 % 256, rfl, Nat.mod_lt _ (by decide), ?_, rfl⟩
 rw [show (256 : Nat) ^ 31 = 452312848583266388373324160190187140051835877600158453279131187530910662656 by decide +kernel]
 omega
theorem key_clear (n c : Nat) (hc : c = n / 256 ^ 31 % 256) (x : Int) (hx : x = ((c % 128 : Nat) : Int)) : row .u8 32 (upd (dg 256 n) 31 x) = k32 (n % 57896044618658097711785492504343953926634992332820282019728792003956564819968) := by
 refine q7 _ _ _ _ fun i hi => ?_
 have e31 : (256 : Nat) ^ 31 = 452312848583266388373324160190187140051835877600158453279131187530910662656 := by decide +kernel
 by_cases e : i = 31
 · subst e
   rw [qr, hx, hc]
   unfold dg
   rw [e31]
   omega
 · rw [qt _ _ _ _ e]
   unfold dg
   have e1 : 57896044618658097711785492504343953926634992332820282019728792003956564819968 = 256 ^ i * (256 * (128 * 256 ^ (30 - i))) := by
    rw [show 256 ^ i * (256 * (128 * 256 ^ (30 - i))) = 128 * (256 ^ i * 256 ^ (30 - i) * 256) by ac_rfl, ← Nat.pow_add, show i + (30 - i) = 30 by omega]
   rw [e1, Nat.mod_mul, Nat.add_mul_div_left _ _ (Nat.pow_pos (by omega)), Nat.mod_mul, Nat.div_eq_of_lt (Nat.mod_lt n (Nat.pow_pos (by omega) : 0 < 256 ^ i)), Nat.zero_add, Nat.add_mul_mod_self_left, Nat.mod_mod]
def cof (n : Nat) : Bool × Nat × Nat := if n % 57896044618658097711785492504343953926634992332820282019728792003956564819968 < PP then bes (cx (n % 57896044618658097711785492504343953926634992332820282019728792003956564819968)) (decide (n / 57896044618658097711785492504343953926634992332820282019728792003956564819968 = 0)) (n % 57896044618658097711785492504343953926634992332820282019728792003956564819968) else (false, 0, 1)
theorem cof_yes (n : Nat) (h : n % 57896044618658097711785492504343953926634992332820282019728792003956564819968 < PP) : cof n = bes (cx (n % 57896044618658097711785492504343953926634992332820282019728792003956564819968)) (decide (n / 57896044618658097711785492504343953926634992332820282019728792003956564819968 = 0)) (n % 57896044618658097711785492504343953926634992332820282019728792003956564819968) := by unfold cof; rw [if_pos h]
theorem cof_no (n : Nat) (h : ¬ n % 57896044618658097711785492504343953926634992332820282019728792003956564819968 < PP) : cof n = (false, 0, 1) := by unfold cof; rw [if_neg h]
theorem even_bit (c q : Nat) (h : c / 128 = q) : (((c / 128 * 128 : Nat) : Int) == 0) = decide (q = 0) := by
 rw [← h]
 by_cases h0 : c / 128 = 0
 · rw [h0]; rfl
 · rw [decide_eq_false h0]
   exact beq_eq_false_iff_ne.2 (by omega)
theorem m255_lt (n : Nat) : n % 57896044618658097711785492504343953926634992332820282019728792003956564819968 < 115792089237316195423570985008687907853269984665640564039457584007913129639936 := by omega
theorem m255_m (n : Nat) : n % 57896044618658097711785492504343953926634992332820282019728792003956564819968 % 57896044618658097711785492504343953926634992332820282019728792003956564819968 = n % 57896044618658097711785492504343953926634992332820282019728792003956564819968 := Nat.mod_mod _ _
theorem pof_any (n : Nat) (hn : n < 115792089237316195423570985008687907853269984665640564039457584007913129639936) (w : World) : Calls Tryz.prog 119 #[.agg (k32 n)] w (BeP (cof n) w) := by
 obtain ⟨c, hc, hcl, hcq, hcd⟩ := dg31_any n hn
 have hand := and_128 c hcl
 have handn := andn_128 c hcl
 have hclr := key_clear n c hcd ((c % 128 : Nat) : Int) rfl
 have hyes := cof_yes n
 have hno := cof_no n
 obtain ⟨ev, hev⟩ : ∃ b, b = decide (n / 57896044618658097711785492504343953926634992332820282019728792003956564819968 = 0) := ⟨_, rfl⟩
 have hbit := even_bit c _ hcq
 rw [← hev] at hyes hbit
 have hl0 := m255_lt n
 have hmm := m255_m n
 obtain ⟨n0, hn0⟩ : ∃ m, m = n % 57896044618658097711785492504343953926634992332820282019728792003956564819968 := ⟨_, rfl⟩
 rw [← hn0] at hclr hyes hno hl0 hmm
 have hfo := fun w => fof_a n0 n0 hl0 hmm.symm w
 have hkey := fun w => key_any n0 hl0 w
 have hbe := fun w => qc8 n0 ev hl0 w
 obtain ⟨c1, hc1⟩ : ∃ c1 : Nat, c1 = c / 128 * 128 := ⟨_, rfl⟩
 obtain ⟨c2, hc2⟩ : ∃ c2 : Nat, c2 = c % 128 := ⟨_, rfl⟩
 rw [← hc1] at hand hbit
 rw [← hc2] at handn hclr
 obtain ⟨R, hR⟩ : ∃ R, R = cof n := ⟨_, rfl⟩
 rw [← hR] at hyes hno ⊢
 clear hR hc1 hc2 hn0 hmm hev hcq hcd
 have Hclr := Lib.hid hclr; clear hclr
 have Hyes := Lib.hid hyes; clear hyes
 have Hno := Lib.hid hno; clear hno
 have Hfo := Lib.hid hfo; clear hfo
 have Hkey := Lib.hid hkey; clear hkey
 have Hbe := Lib.hid hbe; clear hbe
 have Hc := Lib.hid hc; clear hc
 have Hl0 := Lib.hid hl0; clear hl0
 go_enter Tryz.func119, Tryz.ntmps119
 repeat ((fail_if_success (with_reducible (show wpList _ _ _ _ _ _))); go_step)
 iterate 3 (refine wpList_step (fun K hK => ?_); go_simp; (try go_bits); refine hK _ _ ?_; clear hK K)
 refine wpList_nil ?_
 have M1 := Lib.hid ((Has.new w  (k32 n) 36).alloc (.cells (#[.int .u64 0, .int .u64 0, .int .u64 0, .int .u64 0, .int .u64 0, .int .u64 0, .int .u64 0, .int .u64 0, .int .u64 0, .int .u64 0, .int .u64 0, .int .u64 0, .bool false] : Array Value) 182))
 have M2 := Lib.hid (HasN.new1 w (.cells (k32 n) 36) (#[.int .u64 0, .int .u64 0, .int .u64 0, .int .u64 0, .int .u64 0, .int .u64 0, .int .u64 0, .int .u64 0, .int .u64 0, .int .u64 0, .int .u64 0, .int .u64 0, .bool false] : Array Value) 182 13 (by kernel_rfl))
 have HB := Lib.hid (Qp w (.cells (k32 n) 36) (.cells (#[.int .u64 0, .int .u64 0, .int .u64 0, .int .u64 0, .int .u64 0, .int .u64 0, .int .u64 0, .int .u64 0, .int .u64 0, .int .u64 0, .int .u64 0, .int .u64 0, .bool false] : Array Value) 182))
 obtain ⟨yw1, hwyw1⟩ : ∃ ww, ww = ((w.alloc (.cells (k32 n) 36)).alloc (.cells (#[.int .u64 0, .int .u64 0, .int .u64 0, .int .u64 0, .int .u64 0, .int .u64 0, .int .u64 0, .int .u64 0, .int .u64 0, .int .u64 0, .int .u64 0, .int .u64 0, .bool false] : Array Value) 182)) := ⟨_, rfl⟩
 rw [← hwyw1] at M1 M2 HB ⊢
 clear hwyw1
 have h1 := M1.out.cell 31 (by omega)
 rw [Hc.out] at h1
 have hfz := M1.out.frozen 31
 repeat ((fail_if_success (with_reducible (show wpList _ _ _ _ _ _))); go_step)
 iterate 5 (refine wpList_step (fun K hK => ?_); go_simp; (try go_bits); refine hK _ _ ?_; clear hK K)
 refine wpList_nil ?_
 repeat ((fail_if_success (with_reducible (show wpList _ _ _ _ _ _))); go_step)
 iterate 5 (refine wpList_step (fun K hK => ?_); go_simp; (try go_bits); refine hK _ _ ?_; clear hK K)
 refine wpList_nil ?_
 clear h1 hfz
 have kq := M1.out.set (31) ((c2 : Int)); rw [Hclr.out] at kq; clear M1; have M1 := Lib.hid kq; clear kq
 have kq := M2.out.other ⟨w.heap.size, 31, none⟩ (.int .u8 ((c2 : Int))) (by simp <;> omega); clear M2; have M2 := Lib.hid kq; clear kq
 replace HB := Lib.hid (HB.out.setCell (p := ⟨w.heap.size, 31, none⟩) (show w.heap.size ≤ w.heap.size by omega) (.int .u8 ((c2 : Int))))
 obtain ⟨yw2, hwyw2⟩ : ∃ ww, ww = yw1.setCell ⟨w.heap.size, 31, none⟩ (.int .u8 ((c2 : Int))) := ⟨_, rfl⟩
 rw [← hwyw2] at M1 M2 HB ⊢
 clear hwyw2
 clear hand handn hbit hcl
 repeat ((fail_if_success (with_reducible (show wpList _ _ _ _ _ _))); go_step)
 refine qv (by rfl) 36 _ rfl (w.heap.size) rfl 36 (k32 n0) M1.out Tryz.underlying36 rfl (by rw [qg]; kernel_rfl) 14 rfl ?_
 (try simp only [Act.put, sI, sS, sZ])
 refine qm (by rfl) rfl rfl (by rfl) ent159 (by rfl) (Hfo.out _) 15 rfl ?_
 rintro e uw1 ⟨rfl, hb⟩
 replace M1 := Lib.hid (M1.out.call hb)
 replace M2 := Lib.hid (M2.out.call hb)
 replace HB := Lib.hid (qf HB.out hb)
 refine ⟨_, rfl, ?_⟩
 clear hb
 (try simp only [Act.put, sI, sS, sZ])
 refine qE (by rfl) 180 rfl _ qb5 5 rfl ?_
 intro yw3 hw2
 have hlt4 := M1.out.lt
 have hlt5 := M2.out.lt
 have hsz := HB.out.size
 replace M1 := Lib.hid (M1.out.alloc (.cells z36 180))
 replace M2 := Lib.hid (M2.out.alloc (.cells z36 180))
 have M5 := Lib.hid (HasN.new uw1 z36 180 4 (by kernel_rfl))
 replace HB := Lib.hid (HB.out.alloc hsz (.cells z36 180))
 rw [← hw2] at M1 M2 M5 HB; clear hw2
 (try simp only [Act.put, sI, sS, sZ])
 first | (obtain ⟨Zq, hZ, mZ⟩ := M5.out) | (obtain ⟨Zq, hZ, mZ⟩ := M5.out.toN (qd ..))
 refine ql (by rfl) 180 _ _ rfl rfl (uw1.heap.size) (e4 n0) rfl rfl 180 Zq mZ (by rw [qd]; kernel_rfl) (hZ.trans (qd ..).symm) (qo _ _ _) ?_
 intro yw6 hw2
 replace M1 := Lib.hid (M1.out.setRow_other (uw1.heap.size) (e4 n0) (by omega))
 replace M2 := Lib.hid (M2.out.setRow_other (uw1.heap.size) (e4 n0) (by omega))
 replace M5 := Lib.hid (mZ.setRow (e4 n0))
 replace HB := Lib.hid (below_setRow HB.out (uw1.heap.size) (e4 n0) (by omega))
 rw [← hw2] at M1 M2 M5 HB; clear mZ hZ hw2
 refine wpList_nil ?_
 repeat ((fail_if_success (with_reducible (show wpList _ _ _ _ _ _))); go_step)
 by_cases hlt : n0 < PP
 · have hm := Nat.mod_eq_of_lt hlt
   have hk2 := Hkey.out
   rw [hm] at hk2
   have heq := fun w => k32_same n0 Hl0.out w
   have hb2 := Hbe.out
   rw [hm] at hb2
   have hR := Hyes.out hlt
   rw [← hR] at hb2
   clear hm hR
   have Hk2 := Lib.hid hk2; clear hk2
   have Hb2 := Lib.hid hb2; clear hb2
   refine wp_region_noPanic ?_
   refine Qu 99 4 #[false, false, false, false] (by kernel_rfl) rfl rfl ?_
   intro W7 hW7
   rw [← hW7] at M1 M2 M5 HB
   clear hW7
   refine qi 0 16 #[true, false, false, false] rfl rfl rfl (by kernel_rfl) (qj (by rfl) 180 _ rfl (uw1.heap.size) rfl 180 (e4 n0) (fun _ h => M5.out.below h M5.out.lt) Tryz.underlying180 rfl (by rw [qd]; kernel_rfl)) ((qF W7)) ?_
   (try simp only [sI, sS, sZ])
   refine qi 2 18 #[true, false, true, false] rfl rfl rfl (by kernel_rfl) (qj (by rfl) 36 _ rfl (w.heap.size) rfl 36 (k32 n0) (fun _ h => M1.out.below h M1.out.lt) Tryz.underlying36 rfl (by rw [qg]; kernel_rfl)) ((qF W7)) ?_
   (try simp only [sI, sS, sZ])
   refine qq (i := 1) (by kernel_rfl) ?_
   refine qM 1 17 #[true, true, true, false] rfl rfl rfl (by rfl) rfl rfl (by rfl) ent160 (by rfl) (Hk2.out _) ?_
   rintro e wW71 ⟨rfl, hb⟩
   have hkW71 := qf (qF W7) hb
   refine ⟨_, rfl, fun _ => hkW71, ?_⟩
   clear hb
   (try simp only [sI, sS, sZ])
   refine qi 3 19 #[true, true, true, true] (v := ?uv1) rfl rfl rfl (by kernel_rfl) (Or.inl ⟨by rfl, ?uy1⟩) (hkW71) ?urest1
   case uy1 => (intro _ _; go_simp; try with_reducible rfl)
   (try simp only [sI, sS, sZ])
   refine qD (by kernel_rfl) (NoPanic.normal ?_)
   replace M1 := Lib.hid (M1.out.call hkW71)
   replace M2 := Lib.hid (M2.out.call hkW71)
   replace M5 := Lib.hid (M5.out.call hkW71)
   replace HB := Lib.hid (qf HB.out hkW71)
   clear heq
   repeat ((fail_if_success (with_reducible (show wpList _ _ _ _ _ _))); go_step)
   refine qv (by rfl) 180 _ rfl (uw1.heap.size) rfl 180 (e4 n0) M5.out Tryz.underlying180 rfl (by rw [qd]; kernel_rfl) 21 rfl ?_
   (try simp only [Act.put, sI, sS, sZ])
   (refine wpList_step (fun K hK => ?_); go_simp; (try go_bits); refine hK _ _ ?_; clear hK K)
   refine qm (by rfl) rfl rfl (by rfl) ent161 (by rfl) (Hb2.out _) 23 rfl ?_
   rintro e uw2 ⟨px, py, pz, pb, hpt, rfl, hb⟩
   replace M1 := Lib.hid (M1.out.call hb)
   replace M2 := Lib.hid (M2.out.call hb)
   replace M5 := Lib.hid (M5.out.call hb)
   replace HB := Lib.hid (qf HB.out hb)
   refine ⟨_, rfl, ?_⟩
   clear hb
   (try simp only [Act.put, sI, sS, sZ])
   iterate 2 (refine wpList_step (fun K hK => ?_); go_simp; (try go_bits); refine hK _ _ ?_; clear hK K)
   first | (obtain ⟨Zq, hZ, mZ⟩ := M2.out) | (obtain ⟨Zq, hZ, mZ⟩ := M2.out.toN (qn ..))
   refine ql (by rfl) 182 _ _ rfl rfl (w.heap.size + 1) (pt px py pz pb) rfl rfl 182 Zq mZ (by rw [qn]; kernel_rfl) (hZ.trans (qn ..).symm) (Qx _ _ _ _) ?_
   intro yw8 hw2
   replace M1 := Lib.hid (M1.out.setRow_other (w.heap.size + 1) (pt px py pz pb) (by omega))
   replace M5 := Lib.hid (M5.out.setRow_other (w.heap.size + 1) (pt px py pz pb) (by omega))
   replace M2 := Lib.hid (mZ.setRow (pt px py pz pb))
   replace HB := Lib.hid (below_setRow HB.out (w.heap.size + 1) (pt px py pz pb) (by omega))
   rw [← hw2] at M1 M5 M2 HB; clear mZ hZ hw2
   (refine wpList_step (fun K hK => ?_); go_simp; (try go_bits); refine hK _ _ ?_; clear hK K)
   refine wpList_nil ?_
   go_wp2_with fail
   exact bodyPost_ret (v := .tuple #[.agg (pt px py pz pb), .bool R.1]) (QK (fn := Tryz.f119) (p := 2) (t2 := 3) (ty := 182) (t := 182) (by rfl) _ _ (w.heap.size + 1) _ _ _ rfl M2.out Tryz.underlying182 rfl (by rw [qn]; kernel_rfl)) rfl ⟨px, py, pz, pb, hpt, rfl, HB.out⟩
 · have hne : ¬ n0 % PP = n0 := by
    have := Nat.mod_lt n0 qG
    omega
   have heq := fun w => k32_eq (n0 % PP) n0 (qa6 n0) Hl0.out w
   rw [decide_eq_false hne] at heq
   obtain ⟨r, hr⟩ : ∃ r, r = n0 % PP := ⟨_, rfl⟩
   have hk2 := Hkey.out
   rw [← hr] at hk2 heq
   have hR := Hno.out hlt
   clear hr hne
   have Hk2 := Lib.hid hk2; clear hk2
   have HR := Lib.hid hR; clear hR
   refine wp_region_noPanic ?_
   refine Qu 99 4 #[false, false, false, false] (by kernel_rfl) rfl rfl ?_
   intro W7 hW7
   rw [← hW7] at M1 M2 M5 HB
   clear hW7
   refine qi 0 16 #[true, false, false, false] rfl rfl rfl (by kernel_rfl) (qj (by rfl) 180 _ rfl (uw1.heap.size) rfl 180 (e4 n0) (fun _ h => M5.out.below h M5.out.lt) Tryz.underlying180 rfl (by rw [qd]; kernel_rfl)) ((qF W7)) ?_
   (try simp only [sI, sS, sZ])
   refine qi 2 18 #[true, false, true, false] rfl rfl rfl (by kernel_rfl) (qj (by rfl) 36 _ rfl (w.heap.size) rfl 36 (k32 n0) (fun _ h => M1.out.below h M1.out.lt) Tryz.underlying36 rfl (by rw [qg]; kernel_rfl)) ((qF W7)) ?_
   (try simp only [sI, sS, sZ])
   refine qq (i := 1) (by kernel_rfl) ?_
   refine qM 1 17 #[true, true, true, false] rfl rfl rfl (by rfl) rfl rfl (by rfl) ent160 (by rfl) (Hk2.out _) ?_
   rintro e wW71 ⟨rfl, hb⟩
   have hkW71 := qf (qF W7) hb
   refine ⟨_, rfl, fun _ => hkW71, ?_⟩
   clear hb
   (try simp only [sI, sS, sZ])
   refine qi 3 19 #[true, true, true, true] (v := ?uv2) rfl rfl rfl (by kernel_rfl) (Or.inl ⟨by rfl, ?uy2⟩) (hkW71) ?urest2
   case uy2 => (intro _ _; go_simp; try with_reducible rfl)
   (try simp only [sI, sS, sZ])
   refine qD (by kernel_rfl) (NoPanic.normal ?_)
   replace M1 := Lib.hid (M1.out.call hkW71)
   replace M2 := Lib.hid (M2.out.call hkW71)
   replace M5 := Lib.hid (M5.out.call hkW71)
   replace HB := Lib.hid (qf HB.out hkW71)
   clear heq
   repeat ((fail_if_success (with_reducible (show wpList _ _ _ _ _ _))); go_step)
   refine Qw (by rfl) 182 _ rfl _ (by rfl) (pt 0 0 0 false) (bd53z) 20 rfl ?_
   (try simp only [Act.put, sI, sS, sZ])
   first | (obtain ⟨Zq, hZ, mZ⟩ := M2.out) | (obtain ⟨Zq, hZ, mZ⟩ := M2.out.toN (qn ..))
   refine ql (by rfl) 182 _ _ rfl rfl (w.heap.size + 1) (pt 0 0 0 false) rfl rfl 182 Zq mZ (by rw [qn]; kernel_rfl) (hZ.trans (qn ..).symm) (Qx _ _ _ _) ?_
   intro yw8 hw2
   replace M1 := Lib.hid (M1.out.setRow_other (w.heap.size + 1) (pt 0 0 0 false) (by omega))
   replace M5 := Lib.hid (M5.out.setRow_other (w.heap.size + 1) (pt 0 0 0 false) (by omega))
   replace M2 := Lib.hid (mZ.setRow (pt 0 0 0 false))
   replace HB := Lib.hid (below_setRow HB.out (w.heap.size + 1) (pt 0 0 0 false) (by omega))
   rw [← hw2] at M1 M5 M2 HB; clear mZ hZ hw2
   (refine wpList_step (fun K hK => ?_); go_simp; (try go_bits); refine hK _ _ ?_; clear hK K)
   refine wpList_nil ?_
   go_wp2_with fail
   exact bodyPost_ret (v := .tuple #[.agg (pt 0 0 0 false), .bool false]) (QK (fn := Tryz.f119) (p := 2) (t2 := 3) (ty := 182) (t := 182) (by rfl) _ _ (w.heap.size + 1) _ _ _ rfl M2.out Tryz.underlying182 rfl (by rw [qn]; kernel_rfl)) rfl ⟨0, 0, 0, false, by rw [HR.out]; exact ⟨⟨by decide, by decide, by decide⟩, .inr ⟨rfl, by rw [Nat.zero_mod], by rw [ZH], rfl⟩⟩, by rw [HR.out], HB.out⟩
end
section
open Go.RowKit Go.Lib
def GX : Nat := 15112221349535400772501151409588531511454012693041857206046113283949847762202
def GY : Nat := 46316835694926478169428394003475163141307993866256225615783033603165251855960
theorem GX_lt : GX < PP := by decide +kernel
theorem gy_pm : 4 * Nm.pm PP 256 5 (PP - 2) % PP = GY := by decide +kernel
theorem gx_pm : (GY * GY % PP + (PP - 1)) % PP * Nm.pm PP 256 ((SL * (GY * GY % PP) % PP + 1) % PP) (PP - 2) % PP = GX * GX % PP := by decide +kernel
theorem gy_val : 4 * pwm 5 (PP - 2) % PP = GY := by rw [qcC _ _ pp2_lt, gy_pm]
theorem cx_pm (Y r : Nat) (h : (Y * Y % PP + (PP - 1)) % PP * Nm.pm PP 256 ((SL * (Y * Y % PP) % PP + 1) % PP) (PP - 2) % PP = r) : cx Y = r := by
 unfold cx; rw [qcC _ _ pp2_lt, h]
theorem root_even (r : Nat) (hr : r < PP) (he : r % 2 = 0) : rt3 (r * r % PP) = r := by
 rcases rt3_root r with h | h
 · rw [h, Nat.mod_eq_of_lt hr]
 · have h1 := rt3_even (r * r % PP)
   have h2 := rt3_lt (r * r % PP)
   have h3 := PP_odd
   by_cases hh : rt3 (r * r % PP) + r < PP
   · rw [Nat.mod_eq_of_lt hh] at h; omega
   · have h4 : (rt3 (r * r % PP) + r) = PP + (rt3 (r * r % PP) + r - PP) := by omega
     rw [h4, Nat.add_mod_left, Nat.mod_eq_of_lt (by omega)] at h
     omega
theorem gx_even : GX % 2 = 0 := by decide +kernel
theorem gen_bes : bes (cx GY) true GY = (true, GX, GY) := by
 rw [cx_pm GY _ gx_pm, qbm _ _ (rtok_sq GX), root_even GX GX_lt gx_even]
theorem gen_any (w : World) : Calls Tryz.prog 123 #[] w (PtP GX GY 1 w) := by
 have h4 := fun w => ZL 4 (by decide) w
 have h5 := fun w => ZL 5 (by decide) w
 have hov := fun w => qa2 4 5 (by decide) (by decide) w
 rw [gy_val] at hov
 have hbe : ∀ m, m < 115792089237316195423570985008687907853269984665640564039457584007913129639936 → m % PP = GY → ∀ w, Calls Tryz.prog 161 #[.agg (e4 m), .bool true] w fun e w' => ∃ (x y z1 : Nat) (b : Bool), ZS x y z1 b GX GY 1 ∧ e = .returned (.tuple #[.agg (pt x y z1 b), .bool true]) ∧ Below w.heap.size w w' := by
  intro m hm hr w
  have := qc8 m true hm w
  rw [hr, gen_bes] at this
  refine this.mono ?_
  rintro e w' ⟨x, y, z1, b, h1, h2, h3⟩
  rw [ZH] at h1
  exact ⟨x, y, z1, b, h1, h2, h3⟩
 have H4 := Lib.hid h4; clear h4
 have H5 := Lib.hid h5; clear h5
 have Hov := Lib.hid hov; clear hov
 have Hbe := Lib.hid hbe; clear hbe
 go_enter Tryz.func123, Tryz.ntmps123
 repeat ((fail_if_success (with_reducible (show wpList _ _ _ _ _ _))); go_step)
 (refine wpList_step (fun K hK => ?_); go_simp; (try go_bits); refine hK _ _ ?_; clear hK K)
 refine wpList_nil ?_
 have M0 := Lib.hid (HasN.new w  (#[.int .u64 0, .int .u64 0, .int .u64 0, .int .u64 0, .int .u64 0, .int .u64 0, .int .u64 0, .int .u64 0, .int .u64 0, .int .u64 0, .int .u64 0, .int .u64 0, .bool false] : Array Value) 182 13 (by kernel_rfl))
 have HB := Lib.hid (q8 w (.cells (#[.int .u64 0, .int .u64 0, .int .u64 0, .int .u64 0, .int .u64 0, .int .u64 0, .int .u64 0, .int .u64 0, .int .u64 0, .int .u64 0, .int .u64 0, .int .u64 0, .bool false] : Array Value) 182))
 obtain ⟨yw1, hwyw1⟩ : ∃ ww, ww = (w.alloc (.cells (#[.int .u64 0, .int .u64 0, .int .u64 0, .int .u64 0, .int .u64 0, .int .u64 0, .int .u64 0, .int .u64 0, .int .u64 0, .int .u64 0, .int .u64 0, .int .u64 0, .bool false] : Array Value) 182)) := ⟨_, rfl⟩
 rw [← hwyw1] at M0 HB ⊢
 clear hwyw1
 repeat ((fail_if_success (with_reducible (show wpList _ _ _ _ _ _))); go_step)
 refine qm (by rfl) rfl rfl (by rfl) qbJ (by rfl) (H4.out _) 4 rfl ?_
 rintro e uw1 ⟨rfl, hb⟩
 replace M0 := Lib.hid (M0.out.call hb)
 replace HB := Lib.hid (qf HB.out hb)
 refine ⟨_, rfl, ?_⟩
 clear hb
 (try simp only [Act.put, sI, sS, sZ])
 refine qm (by rfl) rfl rfl (by rfl) qbJ (by rfl) (H5.out _) 5 rfl ?_
 rintro e uw2 ⟨rfl, hb⟩
 replace M0 := Lib.hid (M0.out.call hb)
 replace HB := Lib.hid (qf HB.out hb)
 refine ⟨_, rfl, ?_⟩
 clear hb
 (try simp only [Act.put, sI, sS, sZ])
 refine qm (by rfl) rfl rfl (by rfl) ent167 (by rfl) (Hov.out _) 6 rfl ?_
 rintro e uw3 ⟨m, hm, hmr, rfl, hb⟩
 replace M0 := Lib.hid (M0.out.call hb)
 replace HB := Lib.hid (qf HB.out hb)
 refine ⟨_, rfl, ?_⟩
 clear hb
 (try simp only [Act.put, sI, sS, sZ])
 refine qm (by rfl) rfl rfl (by rfl) ent161 (by rfl) (Hbe.out m hm hmr _) 7 rfl ?_
 rintro e uw4 ⟨px, py, pz, pb, hpt, rfl, hb⟩
 replace M0 := Lib.hid (M0.out.call hb)
 replace HB := Lib.hid (qf HB.out hb)
 refine ⟨_, rfl, ?_⟩
 clear hb
 (try simp only [Act.put, sI, sS, sZ])
 iterate 3 (refine wpList_step (fun K hK => ?_); go_simp; (try go_bits); refine hK _ _ ?_; clear hK K)
 refine qE (by rfl) 182 rfl _ al53 1 rfl ?_
 intro yw2 hw2
 have hlt3 := M0.out.lt
 have hsz := HB.out.size
 replace M0 := Lib.hid (M0.out.alloc (.cells z53 182))
 have M1 := Lib.hid (HasN.new uw4 z53 182 13 (by kernel_rfl))
 replace HB := Lib.hid (HB.out.alloc hsz (.cells z53 182))
 rw [← hw2] at M0 M1 HB; clear hw2
 (try simp only [Act.put, sI, sS, sZ])
 first | (obtain ⟨Zq, hZ, mZ⟩ := M1.out) | (obtain ⟨Zq, hZ, mZ⟩ := M1.out.toN (qn ..))
 refine ql (by rfl) 182 _ _ rfl rfl (uw4.heap.size) (pt px py pz pb) rfl rfl 182 Zq mZ (by rw [qn]; kernel_rfl) (hZ.trans (qn ..).symm) (Qx _ _ _ _) ?_
 intro yw4 hw2
 replace M0 := Lib.hid (M0.out.setRow_other (uw4.heap.size) (pt px py pz pb) (by omega))
 replace M1 := Lib.hid (mZ.setRow (pt px py pz pb))
 replace HB := Lib.hid (below_setRow HB.out (uw4.heap.size) (pt px py pz pb) (by omega))
 rw [← hw2] at M0 M1 HB; clear mZ hZ hw2
 (refine wpList_step (fun K hK => ?_); go_simp; (try go_bits); refine hK _ _ ?_; clear hK K)
 refine wpList_nil ?_
 repeat ((fail_if_success (with_reducible (show wpList _ _ _ _ _ _))); go_step)
 refine qv (by rfl) 182 _ rfl (uw4.heap.size) rfl 182 (pt px py pz pb) M1.out Tryz.underlying182 rfl (by rw [qn]; kernel_rfl) 10 rfl ?_
 (try simp only [Act.put, sI, sS, sZ])
 first | (obtain ⟨Zq, hZ, mZ⟩ := M0.out) | (obtain ⟨Zq, hZ, mZ⟩ := M0.out.toN (qn ..))
 refine ql (by rfl) 182 _ _ rfl rfl (w.heap.size) (pt px py pz pb) rfl rfl 182 Zq mZ (by rw [qn]; kernel_rfl) (hZ.trans (qn ..).symm) (Qx _ _ _ _) ?_
 intro yw5 hw2
 replace M1 := Lib.hid (M1.out.setRow_other (w.heap.size) (pt px py pz pb) (by omega))
 replace M0 := Lib.hid (mZ.setRow (pt px py pz pb))
 replace HB := Lib.hid (below_setRow HB.out (w.heap.size) (pt px py pz pb) (by omega))
 rw [← hw2] at M1 M0 HB; clear mZ hZ hw2
 refine wpList_nil ?_
 go_wp2_with fail
 exact bodyPost_ret (v := .agg (pt px py pz pb)) (results_cell_row (t := 182) (by rfl) _ _ (w.heap.size) _ _ _ rfl M0.out Tryz.underlying182 rfl (by rw [qn]; kernel_rfl)) rfl ⟨px, py, pz, pb, hpt, rfl, HB.out⟩
theorem cx_1 : cx 1 = 0 := cx_pm 1 0 (by decide +kernel)
end
section
theorem fi_to (a : Nat) (p : Fin PP) (h : fi a = p) : a % PP = p.val := congrArg Fin.val h
theorem finv_fi (Z : Nat) : qN (fi Z) = fi (pwm Z (PP - 2)) := by
 unfold qN
 show fi (pwm (Z % PP) (PP - 2)) = _
 rw [ZE]
theorem quot_rep (X Z : Nat) (x : Fin PP) (h : fi X = x * fi Z) (hz : fi Z ≠ 0) : X * pwm Z (PP - 2) % PP = x.val := by
 apply fi_to
 rw [q6, ← finv_fi, h]
 have := fld.inv _ hz
 grind
def qab (p : Fin PP × Fin PP) : Nat := p.2.val + p.1.val % 2 * 57896044618658097711785492504343953926634992332820282019728792003956564819968
theorem keyn_rep (X Y Z : Nat) (p : Fin PP × Fin PP) (h : Rep X Y Z p) : qdk X Y Z = qab p := by
 obtain ⟨hx, hy, hz, _⟩ := h
 unfold qdk qab
 rw [quot_rep X Z _ hx hz, quot_rep Y Z _ hy hz]
theorem Fld.y_ne {n : Nat} [NeZero n] {d i : Fin n} {inv : Fin n → Fin n} (F : Fld n d i inv) (y : Fin n) : d * (y * y) + 1 ≠ 0 := by
 intro h
 have hr := F.root
 have h1 : i * i = d * (y * y) := by grind
 have h2 := F.non _ _ h1
 have h3 : (0 : Fin n) = 1 := by grind
 exact F.one h3.symm
theorem cx_fi (Y : Nat) : fi (cx Y) * (fd * (fi Y * fi Y) + 1) = fi Y * fi Y - 1 := by
 have hn := fld.y_ne (fi Y)
 have hq : fi ((SL * (Y * Y % PP) % PP + 1) % PP) = fd * (fi Y * fi Y) + 1 := by
  simp only [Qk, zF, q6, zi]; rfl
 have hm : fi ((Y * Y % PP + (PP - 1)) % PP) = fi Y * fi Y - 1 := by
  have e : PP - 1 = PP - 1 % PP := by rw [ZH]
  rw [e]
  simp only [Qk, zF, qbG, q6, zi]
  grind
 unfold cx
 rw [Qk, q6, hm, ← finv_fi, hq]
 have := fld.inv _ hn
 grind
theorem cx_lt (Y : Nat) : cx Y < PP := Nat.mod_lt _ qG
theorem on_of (X Y : Nat) (h : X * X % PP = cx Y) : OnP fd (fi X, fi Y) := by
 have h1 := cx_fi Y
 rw [← h, Qk, q6] at h1
 show fi Y * fi Y - fi X * fi X = 1 + fd * fi X * fi X * fi Y * fi Y
 grind
theorem sq_of (p : Fin PP × Fin PP) (h : OnP fd p) : p.1.val * p.1.val % PP = cx p.2.val := by
 have h1 := cx_fi p.2.val
 rw [QM] at h1
 have ho : p.2 * p.2 - p.1 * p.1 = 1 + fd * p.1 * p.1 * p.2 * p.2 := h
 have h2 : fi (p.1.val * p.1.val) = fi (cx p.2.val) := by
  rw [q6, QM]
  refine fld.cancel _ _ _ (fld.y_ne p.2) ?_
  rw [h1]
  grind
 have h3 := (Zb _ _).1 h2
 rw [h3, Nat.mod_eq_of_lt (cx_lt _)]
theorem cof_keyP (p : Fin PP × Fin PP) (h : OnP fd p) : cof (qab p) = (true, p.1.val, p.2.val) := by
 have hs := sq_of p h
 have hx := p.1.isLt
 have hy := p.2.isLt
 obtain ⟨x, ex⟩ : ∃ x, x = p.1.val := ⟨_, rfl⟩
 obtain ⟨y, ey⟩ : ∃ y, y = p.2.val := ⟨_, rfl⟩
 unfold qab
 rw [← ex, ← ey] at hs ⊢
 rw [← ex] at hx
 rw [← ey] at hy
 have hp := PP_255
 have hb : x % 2 < 2 := Nat.mod_lt _ (by omega)
 have e1 : (y + x % 2 * 57896044618658097711785492504343953926634992332820282019728792003956564819968) % 57896044618658097711785492504343953926634992332820282019728792003956564819968 = y := by omega
 have e2 : (y + x % 2 * 57896044618658097711785492504343953926634992332820282019728792003956564819968) / 57896044618658097711785492504343953926634992332820282019728792003956564819968 = x % 2 := by omega
 rw [cof_yes _ (by rw [e1]; exact hy), e1, e2]
 have hok : zd (cx y) = true := by rw [← hs]; exact rtok_sq x
 have hr := rt3_root x
 rw [hs, Nat.mod_eq_of_lt hx] at hr
 have he := rt3_even (cx y)
 have hl := rt3_lt (cx y)
 have ho := PP_odd
 obtain ⟨r, er⟩ : ∃ r, r = rt3 (cx y) := ⟨_, rfl⟩
 rw [← er] at hr he hl
 have hr2 : r = x ∨ r + x = PP ∨ r + x = 0 := by
  rcases hr with hr | hr
  · exact .inl hr
  · by_cases hh : r + x < PP
    · rw [Nat.mod_eq_of_lt hh] at hr; exact .inr (.inr hr)
    · have e : r + x = PP + (r + x - PP) := by omega
      rw [e, Nat.add_mod_left, Nat.mod_eq_of_lt (by omega)] at hr
      exact .inr (.inl (by omega))
 rcases Nat.mod_two_eq_zero_or_one x with hx2 | hx2
 · rw [hx2, decide_eq_true rfl, qbm _ _ hok, ← er]
   have : r = x := by omega
   rw [this]
 · rw [hx2, decide_eq_false (by decide), bes_odd _ _ hok (by rw [← er]; omega), ← er, Nat.zero_mod, Nat.zero_add]
   have : PP - r = x := by omega
   rw [this, Nat.mod_eq_of_lt hx]
theorem rep_of (X Y : Nat) (h : X * X % PP = cx Y) : Rep X Y 1 (fi X, fi Y) := by
 refine ⟨?_, ?_, ?_, on_of X Y h⟩
 · rw [zi]; show fi X = fi X * 1; grind
 · rw [zi]; show fi Y = fi Y * 1; grind
 · rw [zi]; exact fld.one
theorem cof_rep (n : Nat) : Rep (cof n).2.1 (cof n).2.2 1 (fi (cof n).2.1, fi (cof n).2.2) := by
 apply rep_of
 have h0 : 0 * 0 % PP = cx 1 := by rw [cx_1, Nat.zero_mul, Nat.zero_mod]
 by_cases hp : n % 57896044618658097711785492504343953926634992332820282019728792003956564819968 < PP
 · rw [cof_yes n hp]
   cases hok : zd (cx (n % 57896044618658097711785492504343953926634992332820282019728792003956564819968)) with
   | false => rw [bes_no1 _ _ _ hok]; exact h0
   | true =>
    have hsq := rt3_sq _ hok
    cases hev : decide (n / 57896044618658097711785492504343953926634992332820282019728792003956564819968 = 0) with
    | true => rw [qbm _ _ hok]; exact hsq
    | false =>
     by_cases hz : rt3 (cx (n % 57896044618658097711785492504343953926634992332820282019728792003956564819968)) = 0
     · rw [bes_no2 _ _ hz]; exact h0
     · rw [bes_odd _ _ hok hz]
       show (0 % PP + (PP - rt3 _)) % PP * ((0 % PP + (PP - rt3 _)) % PP) % PP = cx _
       rw [Nat.zero_mod, Nat.zero_add, ← Nat.mul_mod, neg_sq _ (rt3_lt _)]
       exact hsq
 · rw [cof_no n hp]; exact h0
theorem neg_rep (X Y Z : Nat) (p : Fin PP × Fin PP) (hp : Rep X Y Z p) (hX : X < PP) : Rep (negP X) Y Z (-p.1, p.2) := by
 obtain ⟨x1, y1, z1, o1⟩ := hp
 refine ⟨?_, y1, z1, on_neg p o1⟩
 unfold negP
 rw [Nat.zero_mod, Nat.zero_add, Qk]
 have h := qbG X
 rw [Nat.mod_eq_of_lt hX] at h
 rw [h, x1]
 show -(p.1 * fi Z) = -p.1 * fi Z
 grind
theorem qch : Rep 0 1 1 (0, 1) := by
 refine ⟨?_, ?_, ?_, qa3⟩
 · rw [zL, zi]; grind
 · rw [zi]; grind
 · rw [zi]; exact fld.one
def qcE (g : Nat × Nat × Nat) : Nat → Nat → Nat × Nat × Nat
 | 0, _ => (0, 1, 1)
 | f + 1, e =>
  let h := qcE g f (e / 2)
  let h2 := ZG SL h.1 h.2.1 h.2.2 h.1 h.2.1 h.2.2
  if e % 2 = 1 then ZG SL h2.1 h2.2.1 h2.2.2 g.1 g.2.1 g.2.2 else h2
theorem pmul_rep (g : Nat × Nat × Nat) (p : Fin PP × Fin PP) (hp : Rep g.1 g.2.1 g.2.2 p) : ∀ f e, e < 2 ^ f → Rep (qcE g f e).1 (qcE g f e).2.1 (qcE g f e).2.2 (qV qN fd p e) := by
 have ho : OnP fd p := hp.2.2.2
 intro f
 induction f with
 | zero =>
  intro e he
  obtain rfl : e = 0 := by rw [Nat.pow_zero] at he; omega
  exact qch
 | succ f ih =>
  intro e he
  have h1 := ih (e / 2) (by rw [Nat.pow_succ] at he; omega)
  have h2 := qa0 _ _ _ _ _ _ _ _ h1 h1
  rw [← fld.mul_add p ho] at h2
  unfold qcE
  rcases Nat.mod_two_eq_zero_or_one e with hb | hb
  · rw [if_neg (by rw [hb]; decide)]
    rw [show e / 2 + e / 2 = e by omega] at h2
    exact h2
  · rw [if_pos hb]
    have h3 := qa0 _ _ _ _ _ _ _ _ h2 hp
    have h4 : QD qN fd (qV qN fd p (e / 2 + e / 2)) p = qV qN fd p e := by
     have h5 : e = e / 2 + e / 2 + 1 := by omega
     calc QD qN fd (qV qN fd p (e / 2 + e / 2)) p = qV qN fd p (e / 2 + e / 2 + 1) := rfl
      _ = qV qN fd p e := by rw [← h5]
    rw [h4] at h3
    exact h3
def gG : Fin PP × Fin PP := (fi GX, fi GY)
theorem gen_sq : GX * GX % PP = cx GY := (cx_pm GY _ gx_pm).symm
theorem qce : Rep GX GY 1 gG := rep_of GX GY gen_sq
def LL : Nat := 7237005577332262213973186563042994240857116359379907606001950938285454250989
theorem order_val : (qcE (GX, GY, 1) 253 LL).1 % PP = 0 ∧ (qcE (GX, GY, 1) 253 LL).2.1 % PP = (qcE (GX, GY, 1) 253 LL).2.2 % PP := by decide +kernel
end
section
open Go.RowKit Go.Lib
theorem bd24s : Tryz.prog.built 36 [(0, .int .u8 163), (1, .int .u8 120), (2, .int .u8 89), (3, .int .u8 19), (4, .int .u8 202), (5, .int .u8 77), (6, .int .u8 235), (7, .int .u8 117), (8, .int .u8 171), (9, .int .u8 216), (10, .int .u8 65), (11, .int .u8 65), (12, .int .u8 77), (13, .int .u8 10), (14, .int .u8 112), (15, .int .u8 0), (16, .int .u8 152), (17, .int .u8 232), (18, .int .u8 121), (19, .int .u8 119), (20, .int .u8 121), (21, .int .u8 64), (22, .int .u8 199), (23, .int .u8 140), (24, .int .u8 115), (25, .int .u8 254), (26, .int .u8 111), (27, .int .u8 43), (28, .int .u8 238), (29, .int .u8 108), (30, .int .u8 3), (31, .int .u8 82)] = some (k32 SL) := by kernel_rfl
theorem SL_255 : SL % 2 ^ 255 % PP = SL := by decide +kernel
theorem rslope_any (w : World) : Calls Tryz.prog 111 #[] w fun e w' => e = .returned (.agg (r22 SL)) ∧ Below w.heap.size w w' := by
 have hof := fun w => rof_any SL w
 rw [SL_255] at hof
 have Hof := Lib.hid hof; clear hof
 go_enter Tryz.func111, Tryz.ntmps111
 repeat ((fail_if_success (with_reducible (show wpList _ _ _ _ _ _))); go_step)
 (refine wpList_step (fun K hK => ?_); go_simp; (try go_bits); refine hK _ _ ?_; clear hK K)
 refine wpList_nil ?_
 have M0 := Lib.hid (HasN.new w  (#[.int .i64 0, .int .i64 0, .int .i64 0, .int .i64 0, .int .i64 0, .int .i64 0, .int .i64 0, .int .i64 0, .int .i64 0, .int .i64 0, .int .i64 0, .int .i64 0, .int .i64 0, .int .i64 0, .int .i64 0, .int .i64 0, .int .i64 0, .int .i64 0, .int .i64 0, .int .i64 0, .int .i64 0, .int .i64 0] : Array Value) 101 22 (by kernel_rfl))
 have HB := Lib.hid (q8 w (.cells (#[.int .i64 0, .int .i64 0, .int .i64 0, .int .i64 0, .int .i64 0, .int .i64 0, .int .i64 0, .int .i64 0, .int .i64 0, .int .i64 0, .int .i64 0, .int .i64 0, .int .i64 0, .int .i64 0, .int .i64 0, .int .i64 0, .int .i64 0, .int .i64 0, .int .i64 0, .int .i64 0, .int .i64 0, .int .i64 0] : Array Value) 101))
 obtain ⟨yw1, hwyw1⟩ : ∃ ww, ww = (w.alloc (.cells (#[.int .i64 0, .int .i64 0, .int .i64 0, .int .i64 0, .int .i64 0, .int .i64 0, .int .i64 0, .int .i64 0, .int .i64 0, .int .i64 0, .int .i64 0, .int .i64 0, .int .i64 0, .int .i64 0, .int .i64 0, .int .i64 0, .int .i64 0, .int .i64 0, .int .i64 0, .int .i64 0, .int .i64 0, .int .i64 0] : Array Value) 101)) := ⟨_, rfl⟩
 rw [← hwyw1] at M0 HB ⊢
 clear hwyw1
 repeat ((fail_if_success (with_reducible (show wpList _ _ _ _ _ _))); go_step)
 refine Qw (by rfl) 36 _ rfl _ (by rfl) (k32 SL) (bd24s) 1 rfl ?_
 (try simp only [Act.put, sI, sS, sZ])
 refine qm (by rfl) rfl rfl (by rfl) ent80 (by rfl) (Hof.out _) 2 rfl ?_
 rintro e uw1 ⟨rfl, hb⟩
 replace M0 := Lib.hid (M0.out.call hb)
 replace HB := Lib.hid (qf HB.out hb)
 refine ⟨_, rfl, ?_⟩
 clear hb
 (try simp only [Act.put, sI, sS, sZ])
 first | (obtain ⟨Zq, hZ, mZ⟩ := M0.out) | (obtain ⟨Zq, hZ, mZ⟩ := M0.out.toN (qh ..))
 refine ql (by rfl) 101 _ _ rfl rfl (w.heap.size) (r22 SL) rfl rfl 101 Zq mZ (by rw [qh]; kernel_rfl) (hZ.trans (qh ..).symm) (qo _ _ _) ?_
 intro yw2 hw2
 replace M0 := Lib.hid (mZ.setRow (r22 SL))
 replace HB := Lib.hid (below_setRow HB.out (w.heap.size) (r22 SL) (by omega))
 rw [← hw2] at M0 HB; clear mZ hZ hw2
 refine wpList_nil ?_
 go_wp2_with fail
 exact bodyPost_ret (v := .agg (r22 SL)) (results_cell_row (t := 101) (by rfl) _ _ (w.heap.size) _ _ _ rfl M0.out Tryz.underlying101 rfl (by rw [qh]; kernel_rfl)) rfl ⟨rfl, HB.out⟩
theorem rorigin_any (w : World) : Calls Tryz.prog 78 #[] w fun e w' => e = .returned (.agg (rp 0 1 1 0)) ∧ Below w.heap.size w w' := by
 have hint := fun w => qb8 1 (by decide) w
 rw [ZH] at hint
 have Hint := Lib.hid hint; clear hint
 go_enter Tryz.func78, Tryz.ntmps78
 repeat ((fail_if_success (with_reducible (show wpList _ _ _ _ _ _))); go_step)
 have HB := Lib.hid (Below.refl w.heap.size w)
 refine qE (by rfl) 103 rfl _ al57 0 rfl ?_
 intro yw1 hw2
 have hsz := HB.out.size
 have M0 := Lib.hid (HasN.new w Tryz.zeroCells103 103 88 (by kernel_rfl))
 replace HB := Lib.hid (HB.out.alloc hsz (.cells Tryz.zeroCells103 103))
 rw [← hw2] at M0 HB; clear hw2
 (try simp only [Act.put, sI, sS, sZ])
 refine wpList_nil ?_
 repeat ((fail_if_success (with_reducible (show wpList _ _ _ _ _ _))); go_step)
 refine qm (by rfl) rfl rfl (by rfl) ent81 (by rfl) (Hint.out _) 2 rfl ?_
 rintro e uw1 ⟨rfl, hb⟩
 replace M0 := Lib.hid (M0.out.call hb)
 replace HB := Lib.hid (qf HB.out hb)
 refine ⟨_, rfl, ?_⟩
 clear hb
 (try simp only [Act.put, sI, sS, sZ])
 refine qE (by rfl) 101 rfl _ al40 1 rfl ?_
 intro yw2 hw2
 have hlt3 := M0.out.lt
 have hsz := HB.out.size
 replace M0 := Lib.hid (M0.out.alloc (.cells z40 101))
 have M1 := Lib.hid (HasN.new uw1 z40 101 22 (by kernel_rfl))
 replace HB := Lib.hid (HB.out.alloc hsz (.cells z40 101))
 rw [← hw2] at M0 M1 HB; clear hw2
 (try simp only [Act.put, sI, sS, sZ])
 first | (obtain ⟨Zq, hZ, mZ⟩ := M1.out) | (obtain ⟨Zq, hZ, mZ⟩ := M1.out.toN (qh ..))
 refine ql (by rfl) 101 _ _ rfl rfl (uw1.heap.size) (r22 1) rfl rfl 101 Zq mZ (by rw [qh]; kernel_rfl) (hZ.trans (qh ..).symm) (qo _ _ _) ?_
 intro yw4 hw2
 replace M0 := Lib.hid (M0.out.setRow_other (uw1.heap.size) (r22 1) (by omega))
 replace M1 := Lib.hid (mZ.setRow (r22 1))
 replace HB := Lib.hid (below_setRow HB.out (uw1.heap.size) (r22 1) (by omega))
 rw [← hw2] at M0 M1 HB; clear mZ hZ hw2
 refine wpList_nil ?_
 repeat ((fail_if_success (with_reducible (show wpList _ _ _ _ _ _))); go_step)
 refine qv (by rfl) 101 _ rfl (uw1.heap.size) rfl 101 (r22 1) M1.out Tryz.underlying101 rfl (by rw [qh]; kernel_rfl) 3 rfl ?_
 (try simp only [Act.put, sI, sS, sZ])
 refine qv (by rfl) 101 _ rfl (uw1.heap.size) rfl 101 (r22 1) M1.out Tryz.underlying101 rfl (by rw [qh]; kernel_rfl) 4 rfl ?_
 (try simp only [Act.put, sI, sS, sZ])
 refine Qw (by rfl) 103 _ rfl _ (by rfl) (rp 0 1 1 0) (bd57o 1 1) 5 rfl ?_
 (try simp only [Act.put, sI, sS, sZ])
 first | (obtain ⟨Zq, hZ, mZ⟩ := M0.out) | (obtain ⟨Zq, hZ, mZ⟩ := M0.out.toN (qL ..))
 refine ql (by rfl) 103 _ _ rfl rfl (w.heap.size) (rp 0 1 1 0) rfl rfl 103 Zq mZ (by rw [qL]; kernel_rfl) (hZ.trans (qL ..).symm) (qaH _ _ _ _) ?_
 intro yw5 hw2
 replace M1 := Lib.hid (M1.out.setRow_other (w.heap.size) (rp 0 1 1 0) (by omega))
 replace M0 := Lib.hid (mZ.setRow (rp 0 1 1 0))
 replace HB := Lib.hid (below_setRow HB.out (w.heap.size) (rp 0 1 1 0) (by omega))
 rw [← hw2] at M1 M0 HB; clear mZ hZ hw2
 refine wpList_nil ?_
 go_wp2_with fail
 exact bodyPost_ret (v := .agg (rp 0 1 1 0)) (results_cell_row (t := 103) (by rfl) _ _ (w.heap.size) _ _ _ rfl M0.out Tryz.underlying103 rfl (by rw [qL]; kernel_rfl)) rfl ⟨rfl, HB.out⟩
end
section
open Go.RowKit Go.Lib Go.Sx
def qcB (X1 Y1 Z1 T1 X2 Y2 Z2 T2 : Nat) : Nat × Nat × Nat × Nat :=
 let A := X1 * X2 % PP
 let B := Y1 * Y2 % PP
 let C0 := T1 * T2 % PP
 let C := SL * C0 % PP
 let D := Z1 * Z2 % PP
 let E1 := X1 * Y2 % PP
 let E2 := Y1 * X2 % PP
 let E := (E1 + E2) % PP
 let F := (D + (PP - C)) % PP
 let G := (D + C) % PP
 let H := (B + A) % PP
 (E * F % PP, G * H % PP, F * G % PP, E * H % PP)
theorem radd_def (X1 Y1 Z1 T1 X2 Y2 Z2 T2 A Bq C0 Cq Dq E1 E2 E F G Hq X3 Y3 Z3 T3 : Nat) (hA : A = X1 * X2 % PP) (hBq : Bq = Y1 * Y2 % PP) (hC0 : C0 = T1 * T2 % PP) (hCq : Cq = SL * C0 % PP) (hDq : Dq = Z1 * Z2 % PP) (hE1 : E1 = X1 * Y2 % PP) (hE2 : E2 = Y1 * X2 % PP) (hE : E = (E1 + E2) % PP) (hF : F = (Dq + (PP - Cq)) % PP) (hG : G = (Dq + Cq) % PP) (hHq : Hq = (Bq + A) % PP) (hX3 : X3 = E * F % PP) (hY3 : Y3 = G * Hq % PP) (hZ3 : Z3 = F * G % PP) (hT3 : T3 = E * Hq % PP) : qcB X1 Y1 Z1 T1 X2 Y2 Z2 T2 = (X3, Y3, Z3, T3) := by
 unfold qcB
 rw [hX3, hY3, hZ3, hT3, hF, hG, hE, hE1, hE2, hHq, hCq, hC0, hDq, hA, hBq]
theorem sNx {C : Cx} {L : List Ent} (k : Nat) (L' : List Ent) {b : Nat} {c d : Array Value} {t t' : TypeId} {next : List Ent → Prop} (hk : L[k]? = some (cl b c t')) (hL : L.set k (cl b d t') = L') (hd : d.size = c.size) (h1 : d.toList.all (·.oneCell') = true) (go : next L')
 (hz : Q7 C.P t d.size = true) : StP C t L b 0 (.agg d) next := sN k hk hd h1 (by rw [hL]; exact go) hz
theorem QV (n : Nat) : (r22 n).toList.all (·.oneCell') = true := by unfold r22 row; exact List.all_eq_true.2 fun v hv => Zl _ _ _ v hv
theorem rp_xx (x y z t : Nat) : (rp x y z t).extract 0 (0 + 22) = r22 x := by
 rw [r22_l]; unfold rp
 rw [List.extract_toArray, List.extract_eq_take_drop, List.drop_zero, List.append_assoc, List.append_assoc, List.take_left' (by rw [q9])]
theorem rp_yx (x y z t : Nat) : (rp x y z t).extract 22 (22 + 22) = r22 y := by
 rw [r22_l]; unfold rp
 rw [List.extract_toArray, List.extract_eq_take_drop, List.append_assoc, List.append_assoc, List.drop_left' (q9 _), List.take_left' (by rw [q9])]
theorem rp_zx (x y z t : Nat) : (rp x y z t).extract 44 (44 + 22) = r22 z := by
 rw [r22_l]; unfold rp
 rw [List.extract_toArray, List.extract_eq_take_drop, List.append_assoc, List.drop_left' (by rw [List.length_append, q9, q9]), List.take_left' (by rw [q9])]
theorem rp_tx (x y z t : Nat) : (rp x y z t).extract 66 (66 + 22) = r22 t := by
 rw [r22_l]; unfold rp
 rw [List.extract_toArray, List.extract_eq_take_drop, List.drop_left' (by simp only [List.length_append, q9]), List.take_of_length_le (by rw [q9]; omega)]
theorem rpplus_any (X1 Y1 Z1 T1 X2 Y2 Z2 T2 : Nat) (x1 : X1 < PP) (y1 : Y1 < PP) (z1 : Z1 < PP) (t1 : T1 < PP) (x2 : X2 < PP) (y2 : Y2 < PP) (z2 : Z2 < PP) (t2 : T2 < PP) (w : World) :
 Calls Tryz.prog 79 #[.agg (rp X1 Y1 Z1 T1), .agg (rp X2 Y2 Z2 T2)] w fun e w' => e = .returned (.agg (rp (qcB X1 Y1 Z1 T1 X2 Y2 Z2 T2).1 (qcB X1 Y1 Z1 T1 X2 Y2 Z2 T2).2.1 (qcB X1 Y1 Z1 T1 X2 Y2 Z2 T2).2.2.1 (qcB X1 Y1 Z1 T1 X2 Y2 Z2 T2).2.2.2)) ∧ Below w.heap.size w w' := by
 obtain ⟨A, hA⟩ : ∃ v, v = X1 * X2 % PP := ⟨_, rfl⟩
 have lA : A < PP := by rw [hA]; exact Nat.mod_lt _ qG
 obtain ⟨Bq, hBq⟩ : ∃ v, v = Y1 * Y2 % PP := ⟨_, rfl⟩
 have lBq : Bq < PP := by rw [hBq]; exact Nat.mod_lt _ qG
 obtain ⟨C0, hC0⟩ : ∃ v, v = T1 * T2 % PP := ⟨_, rfl⟩
 have lC0 : C0 < PP := by rw [hC0]; exact Nat.mod_lt _ qG
 obtain ⟨Cq, hCq⟩ : ∃ v, v = SL * C0 % PP := ⟨_, rfl⟩
 have lCq : Cq < PP := by rw [hCq]; exact Nat.mod_lt _ qG
 obtain ⟨Dq, hDq⟩ : ∃ v, v = Z1 * Z2 % PP := ⟨_, rfl⟩
 have lDq : Dq < PP := by rw [hDq]; exact Nat.mod_lt _ qG
 obtain ⟨E1, hE1⟩ : ∃ v, v = X1 * Y2 % PP := ⟨_, rfl⟩
 have lE1 : E1 < PP := by rw [hE1]; exact Nat.mod_lt _ qG
 obtain ⟨E2, hE2⟩ : ∃ v, v = Y1 * X2 % PP := ⟨_, rfl⟩
 have lE2 : E2 < PP := by rw [hE2]; exact Nat.mod_lt _ qG
 obtain ⟨E, hE⟩ : ∃ v, v = (E1 + E2) % PP := ⟨_, rfl⟩
 have lE : E < PP := by rw [hE]; exact Nat.mod_lt _ qG
 obtain ⟨F, hF⟩ : ∃ v, v = (Dq + (PP - Cq)) % PP := ⟨_, rfl⟩
 have lF : F < PP := by rw [hF]; exact Nat.mod_lt _ qG
 obtain ⟨G, hG⟩ : ∃ v, v = (Dq + Cq) % PP := ⟨_, rfl⟩
 have lG : G < PP := by rw [hG]; exact Nat.mod_lt _ qG
 obtain ⟨Hq, hHq⟩ : ∃ v, v = (Bq + A) % PP := ⟨_, rfl⟩
 have lHq : Hq < PP := by rw [hHq]; exact Nat.mod_lt _ qG
 obtain ⟨X3, hX3⟩ : ∃ v, v = E * F % PP := ⟨_, rfl⟩
 have lX3 : X3 < PP := by rw [hX3]; exact Nat.mod_lt _ qG
 obtain ⟨Y3, hY3⟩ : ∃ v, v = G * Hq % PP := ⟨_, rfl⟩
 have lY3 : Y3 < PP := by rw [hY3]; exact Nat.mod_lt _ qG
 obtain ⟨Z3, hZ3⟩ : ∃ v, v = F * G % PP := ⟨_, rfl⟩
 have lZ3 : Z3 < PP := by rw [hZ3]; exact Nat.mod_lt _ qG
 obtain ⟨T3, hT3⟩ : ∃ v, v = E * Hq % PP := ⟨_, rfl⟩
 have lT3 : T3 < PP := by rw [hT3]; exact Nat.mod_lt _ qG
 rw [radd_def X1 Y1 Z1 T1 X2 Y2 Z2 T2 A Bq C0 Cq Dq E1 E2 E F G Hq X3 Y3 Z3 T3 hA hBq hC0 hCq hDq hE1 hE2 hE hF hG hHq hX3 hY3 hZ3 hT3]
 have kA := q4 X1 X2 x1 x2
 rw [← hA] at kA
 have kB := q4 Y1 Y2 y1 y2
 rw [← hBq] at kB
 have kC0 := q4 T1 T2 t1 t2
 rw [← hC0] at kC0
 have kC := q4 SL C0 SL_lt lC0
 rw [← hCq] at kC
 have kD := q4 Z1 Z2 z1 z2
 rw [← hDq] at kD
 have kE1 := q4 X1 Y2 x1 y2
 rw [← hE1] at kE1
 have kE2 := q4 Y1 X2 y1 x2
 rw [← hE2] at kE2
 have kE := qal E1 E2 (qbM _ lE1) (qbM _ lE2)
 rw [← hE] at kE
 have kF := rminus_any Dq Cq lDq lCq
 rw [← hF] at kF
 have kG := qal Dq Cq (qbM _ lDq) (qbM _ lCq)
 rw [← hG] at kG
 have kH := qal Bq A (qbM _ lBq) (qbM _ lA)
 rw [← hHq] at kH
 have kX := q4 E F lE lF
 rw [← hX3] at kX
 have kY := q4 G Hq lG lHq
 rw [← hY3] at kY
 have kZ := q4 F G lF lG
 rw [← hZ3] at kZ
 have kT := q4 E Hq lE lHq
 rw [← hT3] at kT
 refine qA qe Tryz.func79 rfl Tryz.ntmps79 rfl (St.start w) ?_
 intro b2 b3 b4
 refine ldP 0 rfl (qh _) (rp_xx _ _ _ _) ?_
 refine ldP 1 rfl (qh _) (rp_xx _ _ _ _) ?_
 refine cv kA ?_
 intro b5
 refine sNx 3 [cl b2 (rp X1 Y1 Z1 T1) _, cl b3 (rp X2 Y2 Z2 T2) _, cl b4 _ _, cl b5 (r22 A) _] rfl rfl (by rw [qh]; rfl) (QV _) ?_ (by kernel_rfl)
 refine ldP 0 rfl (qh _) (rp_yx _ _ _ _) ?_
 refine ldP 1 rfl (qh _) (rp_yx _ _ _ _) ?_
 refine cv kB ?_
 intro b6
 refine sNx 4 [cl b2 (rp X1 Y1 Z1 T1) _, cl b3 (rp X2 Y2 Z2 T2) _, cl b4 _ _, cl b5 (r22 A) _, cl b6 (r22 Bq) _] rfl rfl (by rw [qh]; rfl) (QV _) ?_ (by kernel_rfl)
 refine dr _ 8 (.t 0 (.t 1 (.t 2 (.t 3 (.t 4 (.t 5 (.t 6 (.n 7 (.n 8 .nil))))))))) qe qk (by kernel_rfl) (.refl _) ?_
 refine cz rslope_any ?_
 refine ldP 0 rfl (qh _) (rp_tx _ _ _ _) ?_
 refine ldP 1 rfl (qh _) (rp_tx _ _ _ _) ?_
 refine cz kC0 ?_
 refine cz kC ?_
 intro b7
 refine ⟨qc _, ?_⟩
 refine sNx 5 [cl b2 (rp X1 Y1 Z1 T1) _, cl b3 (rp X2 Y2 Z2 T2) _, cl b4 _ _, cl b5 (r22 A) _, cl b6 (r22 Bq) _, cl b7 (r22 Cq) _] rfl rfl (by rw [qh]; rfl) (QV _) ?_ (by kernel_rfl)
 refine ldP 0 rfl (qh _) (rp_zx _ _ _ _) ?_
 refine ldP 1 rfl (qh _) (rp_zx _ _ _ _) ?_
 refine cv kD ?_
 intro b8
 refine sNx 6 [cl b2 (rp X1 Y1 Z1 T1) _, cl b3 (rp X2 Y2 Z2 T2) _, cl b4 _ _, cl b5 (r22 A) _, cl b6 (r22 Bq) _, cl b7 (r22 Cq) _, cl b8 (r22 Dq) _] rfl rfl (by rw [qh]; rfl) (QV _) ?_ (by kernel_rfl)
 refine dr _ 12 (.t 0 (.t 1 (.t 2 (.t 3 (.t 4 (.t 5 (.t 6 (.t 7 (.t 8 (.t 9 (.t 10 (.n 11 (.n 12 .nil))))))))))))) qe qk (by kernel_rfl) (.refl _) ?_
 refine ldP 0 rfl (qh _) (rp_xx _ _ _ _) ?_
 refine ldP 1 rfl (qh _) (rp_yx _ _ _ _) ?_
 refine cz kE1 ?_
 refine ldP 0 rfl (qh _) (rp_yx _ _ _ _) ?_
 refine ldP 1 rfl (qh _) (rp_xx _ _ _ _) ?_
 refine cz kE2 ?_
 refine cz kE ?_
 intro b9
 refine ⟨qc _, ?_⟩
 refine sNx 7 [cl b2 (rp X1 Y1 Z1 T1) _, cl b3 (rp X2 Y2 Z2 T2) _, cl b4 _ _, cl b5 (r22 A) _, cl b6 (r22 Bq) _, cl b7 (r22 Cq) _, cl b8 (r22 Dq) _, cl b9 (r22 E) _] rfl rfl (by rw [qh]; rfl) (QV _) ?_ (by kernel_rfl)
 refine ldN 6 rfl (qh _) ?_
 refine ldN 5 rfl (qh _) ?_
 refine cv kF ?_
 intro b10
 refine sNx 8 [cl b2 (rp X1 Y1 Z1 T1) _, cl b3 (rp X2 Y2 Z2 T2) _, cl b4 _ _, cl b5 (r22 A) _, cl b6 (r22 Bq) _, cl b7 (r22 Cq) _, cl b8 (r22 Dq) _, cl b9 (r22 E) _, cl b10 (r22 F) _] rfl rfl (by rw [qh]; rfl) (QV _) ?_ (by kernel_rfl)
 refine ldN 6 rfl (qh _) ?_
 refine ldN 5 rfl (qh _) ?_
 refine cv kG ?_
 intro b11
 refine sNx 9 [cl b2 (rp X1 Y1 Z1 T1) _, cl b3 (rp X2 Y2 Z2 T2) _, cl b4 _ _, cl b5 (r22 A) _, cl b6 (r22 Bq) _, cl b7 (r22 Cq) _, cl b8 (r22 Dq) _, cl b9 (r22 E) _, cl b10 (r22 F) _, cl b11 (r22 G) _] rfl rfl (by rw [qh]; rfl) (QV _) ?_ (by kernel_rfl)
 refine ldN 4 rfl (qh _) ?_
 refine ldN 3 rfl (qh _) ?_
 refine cv kH ?_
 intro b12
 refine sNx 10 [cl b2 (rp X1 Y1 Z1 T1) _, cl b3 (rp X2 Y2 Z2 T2) _, cl b4 _ _, cl b5 (r22 A) _, cl b6 (r22 Bq) _, cl b7 (r22 Cq) _, cl b8 (r22 Dq) _, cl b9 (r22 E) _, cl b10 (r22 F) _, cl b11 (r22 G) _, cl b12 (r22 Hq) _] rfl rfl (by rw [qh]; rfl) (QV _) ?_ (by kernel_rfl)
 refine dr _ 13 (.t 0 (.t 1 (.t 2 (.t 3 (.t 4 (.t 5 (.t 6 (.t 7 (.t 8 (.t 9 (.t 10 (.t 11 (.t 12 (.n 13 .nil)))))))))))))) qe qk (by kernel_rfl) (.refl _) ?_
 refine ldN 7 rfl (qh _) ?_
 refine ldN 8 rfl (qh _) ?_
 refine cz kX ?_
 refine ldN 9 rfl (qh _) ?_
 refine ldN 10 rfl (qh _) ?_
 refine cz kY ?_
 refine ldN 8 rfl (qh _) ?_
 refine ldN 9 rfl (qh _) ?_
 refine cz kZ ?_
 refine ldN 7 rfl (qh _) ?_
 refine ldN 10 rfl (qh _) ?_
 refine cz kT ?_
 refine bu (bd57 X3 Y3 Z3 T3) ?_
 refine sN 2 rfl (by rw [qL]; rfl) (by rw [List.all_eq_true]; exact fun v hv => Array.all_eq_true_iff_forall_mem.1 (qaH X3 Y3 Z3 T3) v (by simpa using hv)) ?_ (by rw [qL]; kernel_rfl)
 refine ldN 2 rfl (qL _ _ _ _) ?_
 exact rt rfl
end
section
def Rep4 (X Y Z T : Nat) (p : Fin PP × Fin PP) : Prop := Rep X Y Z p ∧ fi T = p.1 * p.2 * fi Z
theorem radd_rep (X1 Y1 Z1 T1 X2 Y2 Z2 T2 : Nat) (p q : Fin PP × Fin PP) (hp : Rep4 X1 Y1 Z1 T1 p) (hq : Rep4 X2 Y2 Z2 T2 q) :
 Rep4 (qcB X1 Y1 Z1 T1 X2 Y2 Z2 T2).1 (qcB X1 Y1 Z1 T1 X2 Y2 Z2 T2).2.1 (qcB X1 Y1 Z1 T1 X2 Y2 Z2 T2).2.2.1 (qcB X1 Y1 Z1 T1 X2 Y2 Z2 T2).2.2.2 (QD qN fd p q) := by
 obtain ⟨⟨x1, y1, z1, o1⟩, t1⟩ := hp
 obtain ⟨⟨x2, y2, z2, o2⟩, t2⟩ := hq
 have ex := fld.sx_eq p.1 p.2 q.1 q.2 o1 o2
 have ey := fld.sy_eq p.1 p.2 q.1 q.2 o1 o2
 have np := fld.plus_ne p.1 p.2 q.1 q.2 o1 o2
 have nm := fld.minus_ne p.1 p.2 q.1 q.2 o1 o2
 have hA : fi Z1 * fi Z2 ≠ 0 := fld.mul_ne z1 z2
 have ho := fld.on_add p q o1 o2
 have eF : fi ((Z1 * Z2 % PP + (PP - SL * (T1 * T2 % PP) % PP)) % PP) = fi Z1 * fi Z2 * (1 - fd * p.1 * q.1 * p.2 * q.2) := by
  simp only [Qk, qbG, q6, zF]
  rw [t1, t2]
  show _ + -(fd * _) = _
  grind
 have eG : fi ((Z1 * Z2 % PP + SL * (T1 * T2 % PP) % PP) % PP) = fi Z1 * fi Z2 * (1 + fd * p.1 * q.1 * p.2 * q.2) := by
  simp only [Qk, q6, zF]
  rw [t1, t2]
  show _ + fd * _ = _
  grind
 have eE : fi ((X1 * Y2 % PP + Y1 * X2 % PP) % PP) = fi Z1 * fi Z2 * (p.1 * q.2 + q.1 * p.2) := by
  simp only [Qk, q6, zF]
  rw [x1, x2, y1, y2]
  grind
 have eH : fi ((Y1 * Y2 % PP + X1 * X2 % PP) % PP) = fi Z1 * fi Z2 * (p.2 * q.2 + p.1 * q.1) := by
  simp only [Qk, q6, zF]
  rw [x1, x2, y1, y2]
  grind
 unfold Rep4 Rep QD
 unfold qcB
 refine ⟨⟨?_, ?_, ?_, ho⟩, ?_⟩
 · show fi (_ * _ % PP) = sx qN fd p.1 p.2 q.1 q.2 * fi (_ * _ % PP)
   simp only [Qk, q6] at eF eG eE eH ⊢
   rw [eF, eG, eE, ← ex]
   grind
 · show fi (_ * _ % PP) = sy qN fd p.1 p.2 q.1 q.2 * fi (_ * _ % PP)
   simp only [Qk, q6] at eF eG eE eH ⊢
   rw [eF, eG, eH, ← ey]
   grind
 · show fi (_ * _ % PP) ≠ 0
   rw [Qk, q6, eF, eG]
   exact fld.mul_ne (fld.mul_ne hA nm) (fld.mul_ne hA np)
 · show fi (_ * _ % PP) = sx qN fd p.1 p.2 q.1 q.2 * sy qN fd p.1 p.2 q.1 q.2 * fi (_ * _ % PP)
   simp only [Qk, q6] at eF eG eE eH ⊢
   rw [eF, eG, eE, eH, ← ex, ← ey]
   grind
end
section
open Go.RowKit Go.Lib
def Rq (X Y Z T : Nat) (p : Fin PP × Fin PP) : Prop := Rep4 X Y Z T p ∧ X < PP ∧ Y < PP ∧ Z < PP ∧ T < PP
theorem radd_rq (X1 Y1 Z1 T1 X2 Y2 Z2 T2 : Nat) (p q : Fin PP × Fin PP) (hp : Rq X1 Y1 Z1 T1 p) (hq : Rq X2 Y2 Z2 T2 q) (w : World) :
 Calls Tryz.prog 79 #[.agg (rp X1 Y1 Z1 T1), .agg (rp X2 Y2 Z2 T2)] w fun e w' => ∃ X Y Z T : Nat, Rq X Y Z T (QD qN fd p q) ∧ e = .returned (.agg (rp X Y Z T)) ∧ Below w.heap.size w w' := by
 obtain ⟨r1, x1, y1, z1, t1⟩ := hp
 obtain ⟨r2, x2, y2, z2, t2⟩ := hq
 refine (rpplus_any X1 Y1 Z1 T1 X2 Y2 Z2 T2 x1 y1 z1 t1 x2 y2 z2 t2 w).mono ?_
 rintro e w' ⟨rfl, hb⟩
 exact ⟨_, _, _, _, ⟨radd_rep _ _ _ _ _ _ _ _ p q r1 r2, Nat.mod_lt _ qG, Nat.mod_lt _ qG, Nat.mod_lt _ qG, Nat.mod_lt _ qG⟩, rfl, hb⟩
theorem zero_rq : Rq 0 1 1 0 (0, 1) := by
 have h1 : 1 < PP := by have := QF; omega
 refine ⟨⟨qch, ?_⟩, qG, h1, h1, qG⟩
 rw [zL, zi]
 show (0 : Fin PP) = 0 * 1 * 1
 grind
theorem bit_val (n j : Nat) : n / 256 ^ (j / 8) % 256 / 2 ^ (j % 8) % 2 = n / 2 ^ j % 2 := by
 have e : 2 ^ j = 256 ^ (j / 8) * 2 ^ (j % 8) := by
  rw [show (256 : Nat) = 2 ^ 8 by decide, ← Nat.pow_mul, ← Nat.pow_add, Nat.div_add_mod]
 rw [e, ← Nat.div_div_eq_div_mul]
 generalize n / 256 ^ (j / 8) = q
 have hr : j % 8 < 8 := Nat.mod_lt _ (by decide)
 generalize j % 8 = r at *
 rcases (show r = 0 ∨ r = 1 ∨ r = 2 ∨ r = 3 ∨ r = 4 ∨ r = 5 ∨ r = 6 ∨ r = 7 by omega) with rfl | rfl | rfl | rfl | rfl | rfl | rfl | rfl <;> simp <;> omega
theorem qdF (n j b : Nat) (h : n / 2 ^ j % 2 = b) : n / 2 ^ j = n / 2 ^ (j + 1) + n / 2 ^ (j + 1) + b := by
 rw [Nat.pow_succ, ← Nat.div_div_eq_div_mul]
 omega
theorem td8 (j : Nat) : (j : Int).tdiv 8 = (j : Int) / 8 := Int.tdiv_eq_ediv_of_nonneg (by omega)
theorem tm8 (j : Nat) : (j : Int).tmod 8 = (j : Int) % 8 := Int.tmod_eq_emod_of_nonneg (by omega)
theorem bit_int (n j b : Nat) (x : Int) (hx : x = dg 256 n (j / 8)) (hb : n / 2 ^ j % 2 = b) : (x / 2 ^ (j % 8)).tmod 2 = (b : Int) := by
 have h := bit_val n j
 rw [hb] at h
 rw [hx]
 unfold dg
 have e : (((n / 256 ^ (j / 8) % 256 : Nat) : Int) / 2 ^ (j % 8)) = ((n / 256 ^ (j / 8) % 256 / 2 ^ (j % 8) : Nat) : Int) := by
  rw [Int.natCast_ediv, Int.natCast_pow]; rfl
 rw [e, ← h, Int.tmod_eq_emod_of_nonneg (Int.natCast_nonneg _)]
 rfl
theorem step_even (n j : Nat) (p : Fin PP × Fin PP) (h : n / 2 ^ j % 2 = 0) : qV qN fd p (n / 2 ^ (j + 1) + n / 2 ^ (j + 1)) = qV qN fd p (n / 2 ^ j) := by
 have e := qdF n j 0 h
 rw [Nat.add_zero] at e
 rw [← e]
theorem step_odd (n j : Nat) (p : Fin PP × Fin PP) (h : n / 2 ^ j % 2 = 1) : QD qN fd (qV qN fd p (n / 2 ^ (j + 1) + n / 2 ^ (j + 1))) p = qV qN fd p (n / 2 ^ j) := by
 have e := qdF n j 1 h
 rw [e]; rfl
theorem rmany_any (X Y Z T n : Nat) (p : Fin PP × Fin PP) (hp : Rq X Y Z T p) (hn : n < 115792089237316195423570985008687907853269984665640564039457584007913129639936) (w : World) :
 Calls Tryz.prog 45 #[.agg (rp X Y Z T), .agg (k32 n)] w fun e w' => ∃ X2 Y2 Z2 T2 : Nat, Rq X2 Y2 Z2 T2 (qV qN fd p n) ∧ e = .returned (.agg (rp X2 Y2 Z2 T2)) ∧ Below w.heap.size w w' := by
 have hop : OnP fd p := hp.1.1.2.2.2
 have hadd := radd_rq
 have Hadd := Lib.hid hadd; clear hadd
 have Hp := Lib.hid hp; clear hp
 have Hop := Lib.hid hop; clear hop
 have Hn := Lib.hid hn; clear hn
 go_enter Tryz.func45, Tryz.ntmps45
 repeat ((fail_if_success (with_reducible (show wpList _ _ _ _ _ _))); go_step)
 iterate 3 (refine wpList_step (fun K hK => ?_); go_simp; (try go_bits); refine hK _ _ ?_; clear hK K)
 refine wpList_nil ?_
 have M2 := Lib.hid (((Has.new w  (rp X Y Z T) 103).alloc (.cells (k32 n) 36)).alloc (.cells Tryz.zeroCells103 103))
 have M3 := Lib.hid ((Has.new1 w (.cells (rp X Y Z T) 103) (k32 n) 36).alloc (.cells Tryz.zeroCells103 103))
 have M4 := Lib.hid (HasN.new2 w (.cells (rp X Y Z T) 103) (.cells (k32 n) 36) Tryz.zeroCells103 103 88 (by kernel_rfl))
 have HB := Lib.hid (Qz w (.cells (rp X Y Z T) 103) (.cells (k32 n) 36) (.cells Tryz.zeroCells103 103))
 obtain ⟨yw1, hwyw1⟩ : ∃ ww, ww = (((w.alloc (.cells (rp X Y Z T) 103)).alloc (.cells (k32 n) 36)).alloc (.cells Tryz.zeroCells103 103)) := ⟨_, rfl⟩
 rw [← hwyw1] at M2 M3 M4 HB ⊢
 clear hwyw1
 repeat ((fail_if_success (with_reducible (show wpList _ _ _ _ _ _))); go_step)
 refine qm (by rfl) rfl rfl (by rfl) ent78 (by rfl) (rorigin_any _) 7 rfl ?_
 rintro e uw1 ⟨rfl, hb⟩
 replace M2 := Lib.hid (M2.out.call hb)
 replace M3 := Lib.hid (M3.out.call hb)
 replace M4 := Lib.hid (M4.out.call hb)
 replace HB := Lib.hid (qf HB.out hb)
 refine ⟨_, rfl, ?_⟩
 clear hb
 (try simp only [Act.put, sI, sS, sZ])
 refine qE (by rfl) 103 rfl _ al57 5 rfl ?_
 intro yw2 hw2
 have hlt3 := M2.out.lt
 have hlt4 := M3.out.lt
 have hlt5 := M4.out.lt
 have hsz := HB.out.size
 replace M2 := Lib.hid (M2.out.alloc (.cells Tryz.zeroCells103 103))
 replace M3 := Lib.hid (M3.out.alloc (.cells Tryz.zeroCells103 103))
 replace M4 := Lib.hid (M4.out.alloc (.cells Tryz.zeroCells103 103))
 have M5 := Lib.hid (HasN.new uw1 Tryz.zeroCells103 103 88 (by kernel_rfl))
 replace HB := Lib.hid (HB.out.alloc hsz (.cells Tryz.zeroCells103 103))
 rw [← hw2] at M2 M3 M4 M5 HB; clear hw2
 (try simp only [Act.put, sI, sS, sZ])
 first | (obtain ⟨Zq, hZ, mZ⟩ := M5.out) | (obtain ⟨Zq, hZ, mZ⟩ := M5.out.toN (qL ..))
 refine ql (by rfl) 103 _ _ rfl rfl (uw1.heap.size) (rp 0 1 1 0) rfl rfl 103 Zq mZ (by rw [qL]; kernel_rfl) (hZ.trans (qL ..).symm) (qaH _ _ _ _) ?_
 intro yw6 hw2
 replace M2 := Lib.hid (M2.out.setRow_other (uw1.heap.size) (rp 0 1 1 0) (by omega))
 replace M3 := Lib.hid (M3.out.setRow_other (uw1.heap.size) (rp 0 1 1 0) (by omega))
 replace M4 := Lib.hid (M4.out.setRow_other (uw1.heap.size) (rp 0 1 1 0) (by omega))
 replace M5 := Lib.hid (mZ.setRow (rp 0 1 1 0))
 replace HB := Lib.hid (below_setRow HB.out (uw1.heap.size) (rp 0 1 1 0) (by omega))
 rw [← hw2] at M2 M3 M4 M5 HB; clear mZ hZ hw2
 refine wpList_nil ?_
 repeat ((fail_if_success (with_reducible (show wpList _ _ _ _ _ _))); go_step)
 (refine wpList_step (fun K hK => ?_); go_simp; (try go_bits); refine hK _ _ ?_; clear hK K)
 refine wpList_nil ?_
 repeat ((fail_if_success (with_reducible (show wpList _ _ _ _ _ _))); go_step)
 obtain ⟨B, hB5⟩ : ∃ B, B = uw1.heap.size := ⟨_, rfl⟩
 rw [← hB5] at M5 ⊢
 have hBl : w.heap.size + 1 + 1 < B := by omega
 clear hB5
 have H0 := Lib.hid (show n / 2 ^ 256 = 0 by rw [show (2 : Nat) ^ 256 = 115792089237316195423570985008687907853269984665640564039457584007913129639936 by decide +kernel]; have := Hn.out; omega)
 go_loopw [6] (fun i wr => ∃ k X5 Y5 Z5 T5 : Nat, k ≤ 256 ∧ i = .int .i64 ((k : Int) - 1) ∧ Rq X5 Y5 Z5 T5 (qV qN fd p (n / 2 ^ k)) ∧ Has wr w.heap.size (rp X Y Z T) 103 ∧ Has wr (w.heap.size + 1) (k32 n) 36 ∧ HasN wr (w.heap.size + 1 + 1) 88 103 ∧ Has wr B (rp X5 Y5 Z5 T5) 103 ∧ Below w.heap.size w wr) (fun i _ => (RowKit.intOf i + 1).toNat)
 case atStart => exact ⟨256, 0, 1, 1, 0, by omega, rfl, by rw [H0.out]; exact zero_rq, M2.out, M3.out, M4.out, M5.out, HB.out⟩
 case round =>
  clear M2 M3 M4 M5 HB
  obtain ⟨k, X5, Y5, Z5, T5, hk, rfl, hq, m2, m3, m4, m5, hB⟩ := hrel
  have M2 := Lib.hid m2; clear m2
  have M3 := Lib.hid m3; clear m3
  have M4 := Lib.hid m4; clear m4
  have M5 := Lib.hid m5; clear m5
  have HB := Lib.hid hB; clear hB
  have Hq := Lib.hid hq; clear hq
  rcases Nat.eq_zero_or_pos k with hk0 | hk0
  · subst hk0
    repeat ((fail_if_success (with_reducible (show wpList _ _ _ _ _ _))); go_step)
    iterate 2 (refine wpList_step (fun K hK => ?_); go_simp; (try go_bits); refine hK _ _ ?_; clear hK K)
    refine wpList_nil ?_
    repeat ((fail_if_success (with_reducible (show wpList _ _ _ _ _ _))); go_step)
    refine qv (by rfl) 103 _ rfl (B) rfl 103 (rp X5 Y5 Z5 T5) M5.out Tryz.underlying103 rfl (by rw [qL]; kernel_rfl) 28 rfl ?_
    (try simp only [Act.put, sI, sS, sZ])
    first | (obtain ⟨Zq, hZ, mZ⟩ := M4.out) | (obtain ⟨Zq, hZ, mZ⟩ := M4.out.toN (qL ..))
    refine ql (by rfl) 103 _ _ rfl rfl (w.heap.size + 1 + 1) (rp X5 Y5 Z5 T5) rfl rfl 103 Zq mZ (by rw [qL]; kernel_rfl) (hZ.trans (qL ..).symm) (qaH _ _ _ _) ?_
    intro yw101 hw2
    replace M2 := Lib.hid (M2.out.setRow_other (w.heap.size + 1 + 1) (rp X5 Y5 Z5 T5) (by omega))
    replace M3 := Lib.hid (M3.out.setRow_other (w.heap.size + 1 + 1) (rp X5 Y5 Z5 T5) (by omega))
    replace M5 := Lib.hid (M5.out.setRow_other (w.heap.size + 1 + 1) (rp X5 Y5 Z5 T5) (by omega))
    replace M4 := Lib.hid (mZ.setRow (rp X5 Y5 Z5 T5))
    replace HB := Lib.hid (below_setRow HB.out (w.heap.size + 1 + 1) (rp X5 Y5 Z5 T5) (by omega))
    rw [← hw2] at M2 M3 M5 M4 HB; clear mZ hZ hw2
    refine wpList_nil ?_
    have hfin := Hq.out
    rw [Nat.pow_zero, Nat.div_one] at hfin
    go_wp2_with fail
    exact bodyPost_ret (v := .agg (rp X5 Y5 Z5 T5)) (results_cell_row (t := 103) (by rfl) _ _ (w.heap.size + 1 + 1) _ _ _ rfl M4.out Tryz.underlying103 rfl (by rw [qL]; kernel_rfl)) rfl ⟨X5, Y5, Z5, T5, hfin, rfl, HB.out⟩
  · obtain ⟨j, rfl⟩ : ∃ j, k = j + 1 := ⟨k - 1, by omega⟩
    rw [show ((j + 1 : Nat) : Int) - 1 = (j : Int) by omega]
    have hj : j < 256 := by omega
    clear hk0 hk
    repeat ((fail_if_success (with_reducible (show wpList _ _ _ _ _ _))); go_step)
    iterate 2 (refine wpList_step (fun K hK => ?_); go_simp; (try go_bits); refine hK _ _ ?_; clear hK K)
    refine wpList_nil ?_
    repeat ((fail_if_success (with_reducible (show wpList _ _ _ _ _ _))); go_step)
    refine qv (by rfl) 103 _ rfl (B) rfl 103 (rp X5 Y5 Z5 T5) M5.out Tryz.underlying103 rfl (by rw [qL]; kernel_rfl) 12 rfl ?_
    (try simp only [Act.put, sI, sS, sZ])
    refine qv (by rfl) 103 _ rfl (B) rfl 103 (rp X5 Y5 Z5 T5) M5.out Tryz.underlying103 rfl (by rw [qL]; kernel_rfl) 13 rfl ?_
    (try simp only [Act.put, sI, sS, sZ])
    refine qm (by rfl) rfl rfl (by rfl) ent79 (by rfl) (Hadd.out X5 Y5 Z5 T5 X5 Y5 Z5 T5 _ _ Hq.out Hq.out _) 14 rfl ?_
    rintro e uw101 ⟨X6, Y6, Z6, T6, hq6, rfl, hb⟩
    replace M2 := Lib.hid (M2.out.call hb)
    replace M3 := Lib.hid (M3.out.call hb)
    replace M4 := Lib.hid (M4.out.call hb)
    replace M5 := Lib.hid (M5.out.call hb)
    replace HB := Lib.hid (qf HB.out hb)
    refine ⟨_, rfl, ?_⟩
    clear hb
    (try simp only [Act.put, sI, sS, sZ])
    first | (obtain ⟨Zq, hZ, mZ⟩ := M5.out) | (obtain ⟨Zq, hZ, mZ⟩ := M5.out.toN (qL ..))
    refine ql (by rfl) 103 _ _ rfl rfl (B) (rp X6 Y6 Z6 T6) rfl rfl 103 Zq mZ (by rw [qL]; kernel_rfl) (hZ.trans (qL ..).symm) (qaH _ _ _ _) ?_
    intro yw101 hw2
    replace M2 := Lib.hid (M2.out.setRow_other (B) (rp X6 Y6 Z6 T6) (by omega))
    replace M3 := Lib.hid (M3.out.setRow_other (B) (rp X6 Y6 Z6 T6) (by omega))
    replace M4 := Lib.hid (M4.out.setRow_other (B) (rp X6 Y6 Z6 T6) (by omega))
    replace M5 := Lib.hid (mZ.setRow (rp X6 Y6 Z6 T6))
    replace HB := Lib.hid (below_setRow HB.out (B) (rp X6 Y6 Z6 T6) (by omega))
    rw [← hw2] at M2 M3 M4 M5 HB; clear mZ hZ hw2
    refine wpList_nil ?_
    rw [← fld.mul_add p Hop.out] at hq6
    have Hq6 := Lib.hid hq6; clear hq6
    repeat ((fail_if_success (with_reducible (show wpList _ _ _ _ _ _))); go_step)
    have h1 := M3.out.cell (j / 8) (by omega)
    have x0 := (Zd 256 n (j / 8) (by decide)).1
    have x1 := (Zd 256 n (j / 8) (by decide)).2
    have htd := td8 j
    have htm := tm8 j
    have hb2 := bit_int n j
    obtain ⟨x, hx⟩ : ∃ x, x = dg 256 n (j / 8) := ⟨_, rfl⟩
    rw [← hx] at h1 x0 x1
    have k2 : (0 : Int) ≤ (j : Int) / 8 := by omega
    have k3 : (j : Int) / 8 < 32 := by omega
    have k4 : (0 : Int) ≤ (j : Int) % 8 := by omega
    have k5 : (j : Int) % 8 < 8 := by omega
    rcases Nat.mod_two_eq_zero_or_one (n / 2 ^ j) with hb | hb
    · have hbit : (x / 2 ^ (j % 8)).tmod 2 = 0 := hb2 0 x hx hb
      have hs := step_even n j p hb
      clear hb2
      have Hx := Lib.hid hx; clear hx
      have Hs := Lib.hid hs; clear hs
      have Hb := Lib.hid hb; clear hb
      iterate 10 (refine wpList_step (fun K hK => ?_); go_simp; (try go_bits); refine hK _ _ ?_; clear hK K)
      refine wpList_nil ?_
      clear h1 x0 x1 htd htm k2 k3 k4 k5 hbit
      repeat ((fail_if_success (with_reducible (show wpList _ _ _ _ _ _))); go_step)
      iterate 3 (refine wpList_step (fun K hK => ?_); go_simp; (try go_bits); refine hK _ _ ?_; clear hK K)
      refine wpList_nil ?_
      go_roundw
      case measure => simp [RowKit.intOf]
      case rel => exact ⟨_, _, _, _, _, _, _, _, _, _, _, _, _, _, _, _, _, _, _, _, _, ⟨j, X6, Y6, Z6, T6, by omega, rfl, by rw [← Hs.out]; exact Hq6.out, M2.out, M3.out, M4.out, M5.out, HB.out⟩, rfl⟩
    · have hbit : (x / 2 ^ (j % 8)).tmod 2 = 1 := hb2 1 x hx hb
      have hs := step_odd n j p hb
      clear hb2
      have Hx := Lib.hid hx; clear hx
      have Hs := Lib.hid hs; clear hs
      have Hb := Lib.hid hb; clear hb
      iterate 10 (refine wpList_step (fun K hK => ?_); go_simp; (try go_bits); refine hK _ _ ?_; clear hK K)
      refine wpList_nil ?_
      clear h1 x0 x1 htd htm k2 k3 k4 k5 hbit
      repeat ((fail_if_success (with_reducible (show wpList _ _ _ _ _ _))); go_step)
      refine qv (by rfl) 103 _ rfl (B) rfl 103 (rp X6 Y6 Z6 T6) M5.out Tryz.underlying103 rfl (by rw [qL]; kernel_rfl) 25 rfl ?_
      (try simp only [Act.put, sI, sS, sZ])
      refine qv (by rfl) 103 _ rfl (w.heap.size) rfl 103 (rp X Y Z T) M2.out Tryz.underlying103 rfl (by rw [qL]; kernel_rfl) 26 rfl ?_
      (try simp only [Act.put, sI, sS, sZ])
      refine qm (by rfl) rfl rfl (by rfl) ent79 (by rfl) (Hadd.out X6 Y6 Z6 T6 X Y Z T _ _ Hq6.out Hp.out _) 27 rfl ?_
      rintro e uw102 ⟨X7, Y7, Z7, T7, hq7, rfl, hb⟩
      replace M2 := Lib.hid (M2.out.call hb)
      replace M3 := Lib.hid (M3.out.call hb)
      replace M4 := Lib.hid (M4.out.call hb)
      replace M5 := Lib.hid (M5.out.call hb)
      replace HB := Lib.hid (qf HB.out hb)
      refine ⟨_, rfl, ?_⟩
      clear hb
      (try simp only [Act.put, sI, sS, sZ])
      first | (obtain ⟨Zq, hZ, mZ⟩ := M5.out) | (obtain ⟨Zq, hZ, mZ⟩ := M5.out.toN (qL ..))
      refine ql (by rfl) 103 _ _ rfl rfl (B) (rp X7 Y7 Z7 T7) rfl rfl 103 Zq mZ (by rw [qL]; kernel_rfl) (hZ.trans (qL ..).symm) (qaH _ _ _ _) ?_
      intro yw102 hw2
      replace M2 := Lib.hid (M2.out.setRow_other (B) (rp X7 Y7 Z7 T7) (by omega))
      replace M3 := Lib.hid (M3.out.setRow_other (B) (rp X7 Y7 Z7 T7) (by omega))
      replace M4 := Lib.hid (M4.out.setRow_other (B) (rp X7 Y7 Z7 T7) (by omega))
      replace M5 := Lib.hid (mZ.setRow (rp X7 Y7 Z7 T7))
      replace HB := Lib.hid (below_setRow HB.out (B) (rp X7 Y7 Z7 T7) (by omega))
      rw [← hw2] at M2 M3 M4 M5 HB; clear mZ hZ hw2
      refine wpList_nil ?_
      rw [Hs.out] at hq7
      have Hq7 := Lib.hid hq7; clear hq7
      repeat ((fail_if_success (with_reducible (show wpList _ _ _ _ _ _))); go_step)
      iterate 3 (refine wpList_step (fun K hK => ?_); go_simp; (try go_bits); refine hK _ _ ?_; clear hK K)
      refine wpList_nil ?_
      go_roundw
      case measure => simp [RowKit.intOf]
      case rel => exact ⟨_, _, _, _, _, _, _, _, _, _, _, _, _, _, _, _, _, _, _, _, _, ⟨j, X7, Y7, Z7, T7, by omega, rfl, Hq7.out, M2.out, M3.out, M4.out, M5.out, HB.out⟩, rfl⟩
end
end Go.Proofs.YtbgefoamhdgnaaaGreatDoor
