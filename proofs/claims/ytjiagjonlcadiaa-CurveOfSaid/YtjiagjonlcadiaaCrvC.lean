/- The points' texts: Key, the program's and the reference's. -/
import Derived.Test.YtjiagjonlcadiaaCrvB
namespace Go.Proofs.Ytjiagjonlcadiaa
open Go.RowKit Go.Lib

theorem or_128 (a : Nat) (h : a < 128) : bits .or .u8 (a : Int) 128 = (a : Int) + 128 := by
  have : (List.range 128).all (fun a => bits .or .u8 (a : Int) 128 == (a : Int) + 128) = true := by decide +kernel
  simpa using List.all_eq_true.1 this a (by simpa using h)
theorem dg31_small (n : Nat) (h : n < 57896044618658097711785492504343953926634992332820282019728792003956564819968) : ∃ c : Nat, dg 256 n 31 = (c : Int) ∧ c < 128 := by
  refine ⟨n / 256 ^ 31 % 256, rfl, ?_⟩
  rw [show (256 : Nat) ^ 31 = 452312848583266388373324160190187140051835877600158453279131187530910662656 by decide +kernel]
  omega
theorem key_top (n : Nat) (h : n < 57896044618658097711785492504343953926634992332820282019728792003956564819968) (x : Int) (hx : x = dg 256 n 31 + 128) : row .u8 32 (upd (dg 256 n) 31 x) = k32 (n + 57896044618658097711785492504343953926634992332820282019728792003956564819968) := by
  refine row_ext _ _ _ _ fun i hi => ?_
  by_cases e : i = 31
  · subst e
    rw [upd_same, hx]
    unfold dg
    rw [show (256 : Nat) ^ 31 = 452312848583266388373324160190187140051835877600158453279131187530910662656 by decide +kernel]
    omega
  · rw [upd_ne _ _ _ _ e]
    unfold dg
    have e1 : 57896044618658097711785492504343953926634992332820282019728792003956564819968 = 256 ^ i * (256 * (128 * 256 ^ (30 - i))) := by
      rw [show 256 ^ i * (256 * (128 * 256 ^ (30 - i))) = 128 * (256 ^ i * 256 ^ (30 - i) * 256) by ac_rfl, ← Nat.pow_add, show i + (30 - i) = 30 by omega]
    rw [e1, Nat.add_mul_div_left _ _ (Nat.pow_pos (by omega)), Nat.add_mul_mod_self_left]
/-- the number of a point's text -/
def keyn (X Y Z : Nat) : Nat := Y * pwm Z (PP - 2) % PP + X * pwm Z (PP - 2) % PP % 2 * 57896044618658097711785492504343953926634992332820282019728792003956564819968
theorem keyn_odd (X Y Z : Nat) (h : X * pwm Z (PP - 2) % PP % 2 = 1) : Y * pwm Z (PP - 2) % PP + 57896044618658097711785492504343953926634992332820282019728792003956564819968 = keyn X Y Z := by unfold keyn; rw [h, Nat.one_mul]
theorem keyn_even (X Y Z : Nat) (h : X * pwm Z (PP - 2) % PP % 2 = 0) : Y * pwm Z (PP - 2) % PP = keyn X Y Z := by unfold keyn; rw [h, Nat.zero_mul, Nat.add_zero]
theorem PP_255 : PP < 57896044618658097711785492504343953926634992332820282019728792003956564819968 := by decide +kernel
theorem over_cong (x z q X Z : Nat) (hx : x % PP = X) (hz : z % PP = Z) (hq : q % PP = x * pwm z (PP - 2) % PP) : q % PP = X * pwm Z (PP - 2) % PP := by
  rw [hq, ← hx, ← hz, pwm_mod, Nat.mod_mul_mod]

set_option maxRecDepth 100000 in
set_option linter.unusedSimpArgs false in
set_option maxHeartbeats 8000000 in
theorem pkey_any (x y z1 : Nat) (b : Bool) (X Y Z : Nat) (h : IsPt x y z1 b X Y Z) (w : World) :
    Calls Try.prog 49 #[.agg (pt x y z1 b)] w fun e w' => e = .returned (.agg (k32 (keyn X Y Z))) ∧ Below w.heap.size w w' := by
  have hpl := fun w => plain_any x y z1 b X Y Z h w
  have hov := over_any
  have hkey := key_any
  have hevy := even_yes
  have hevn := even_no
  obtain ⟨QY, hQY⟩ : ∃ q, q = Y * pwm Z (PP - 2) % PP := ⟨_, rfl⟩
  obtain ⟨QX, hQX⟩ : ∃ q, q = X * pwm Z (PP - 2) % PP := ⟨_, rfl⟩
  have hQl : QY < 57896044618658097711785492504343953926634992332820282019728792003956564819968 := by rw [hQY]; exact Nat.lt_trans (Nat.mod_lt _ PP_pos) PP_255
  have hoc := over_cong
  obtain ⟨R, hR⟩ : ∃ r, r = keyn X Y Z := ⟨_, rfl⟩
  have hodd : QX % 2 = 1 → QY + 57896044618658097711785492504343953926634992332820282019728792003956564819968 = R := by intro h; rw [hQY, hR]; rw [hQX] at h; exact keyn_odd X Y Z h
  have heven : QX % 2 = 0 → QY = R := by intro h; rw [hQY, hR]; rw [hQX] at h; exact keyn_even X Y Z h
  rw [← hR]
  clear hR h
  have Hpl := Lib.hid hpl; clear hpl
  have Hov := Lib.hid hov; clear hov
  have Hkey := Lib.hid hkey; clear hkey
  have Hevy := Lib.hid hevy; clear hevy
  have Hevn := Lib.hid hevn; clear hevn
  have HQY := Lib.hid hQY; clear hQY
  have HQX := Lib.hid hQX; clear hQX
  have HQl := Lib.hid hQl; clear hQl
  have Hoc := Lib.hid hoc; clear hoc
  have Hodd := Lib.hid hodd; clear hodd
  have Heven := Lib.hid heven; clear heven
  go_enter Try.func49, Try.ntmps49
  repeat ((fail_if_success (with_reducible (show wpList _ _ _ _ _ _))); go_step)
  refine wpList_step (fun K hK => ?_)
  go_simp
  (try go_bits)
  refine hK _ _ ?_
  clear hK K
  refine wpList_step (fun K hK => ?_)
  go_simp
  (try go_bits)
  refine hK _ _ ?_
  clear hK K
  refine wpList_nil ?_
  have M1 := Lib.hid ((Has.new w  (pt x y z1 b) 53).alloc (.cells (#[.int .u8 0, .int .u8 0, .int .u8 0, .int .u8 0, .int .u8 0, .int .u8 0, .int .u8 0, .int .u8 0, .int .u8 0, .int .u8 0, .int .u8 0, .int .u8 0, .int .u8 0, .int .u8 0, .int .u8 0, .int .u8 0, .int .u8 0, .int .u8 0, .int .u8 0, .int .u8 0, .int .u8 0, .int .u8 0, .int .u8 0, .int .u8 0, .int .u8 0, .int .u8 0, .int .u8 0, .int .u8 0, .int .u8 0, .int .u8 0, .int .u8 0, .int .u8 0] : Array Value) 24))
  have M2 := Lib.hid (HasN.new1 w (.cells (pt x y z1 b) 53) (#[.int .u8 0, .int .u8 0, .int .u8 0, .int .u8 0, .int .u8 0, .int .u8 0, .int .u8 0, .int .u8 0, .int .u8 0, .int .u8 0, .int .u8 0, .int .u8 0, .int .u8 0, .int .u8 0, .int .u8 0, .int .u8 0, .int .u8 0, .int .u8 0, .int .u8 0, .int .u8 0, .int .u8 0, .int .u8 0, .int .u8 0, .int .u8 0, .int .u8 0, .int .u8 0, .int .u8 0, .int .u8 0, .int .u8 0, .int .u8 0, .int .u8 0, .int .u8 0] : Array Value) 24 32 (by kernel_rfl))
  have HB := Lib.hid (below_2 w (.cells (pt x y z1 b) 53) (.cells (#[.int .u8 0, .int .u8 0, .int .u8 0, .int .u8 0, .int .u8 0, .int .u8 0, .int .u8 0, .int .u8 0, .int .u8 0, .int .u8 0, .int .u8 0, .int .u8 0, .int .u8 0, .int .u8 0, .int .u8 0, .int .u8 0, .int .u8 0, .int .u8 0, .int .u8 0, .int .u8 0, .int .u8 0, .int .u8 0, .int .u8 0, .int .u8 0, .int .u8 0, .int .u8 0, .int .u8 0, .int .u8 0, .int .u8 0, .int .u8 0, .int .u8 0, .int .u8 0] : Array Value) 24))
  obtain ⟨yw1, hwyw1⟩ : ∃ ww, ww = ((w.alloc (.cells (pt x y z1 b) 53)).alloc (.cells (#[.int .u8 0, .int .u8 0, .int .u8 0, .int .u8 0, .int .u8 0, .int .u8 0, .int .u8 0, .int .u8 0, .int .u8 0, .int .u8 0, .int .u8 0, .int .u8 0, .int .u8 0, .int .u8 0, .int .u8 0, .int .u8 0, .int .u8 0, .int .u8 0, .int .u8 0, .int .u8 0, .int .u8 0, .int .u8 0, .int .u8 0, .int .u8 0, .int .u8 0, .int .u8 0, .int .u8 0, .int .u8 0, .int .u8 0, .int .u8 0, .int .u8 0, .int .u8 0] : Array Value) 24)) := ⟨_, rfl⟩
  rw [← hwyw1] at M1 M2 HB ⊢
  clear hwyw1
  repeat ((fail_if_success (with_reducible (show wpList _ _ _ _ _ _))); go_step)
  refine wpList_load (by rfl) 53 _ rfl (w.heap.size) rfl 53 (pt x y z1 b) M1.out Try.underlying53 rfl (by rw [pt_size]; kernel_rfl) 8 rfl ?_
  (try simp only [Act.put, sI, sS, sZ])
  refine wpList_call (by rfl) rfl rfl (by rfl) ent90 (by rfl) (Hpl.out _) 9 rfl ?_
  rintro e uw1 ⟨mx, my, mz, ⟨hmx, hmy, hmz⟩, ⟨hrx, hry, hrz⟩, rfl, hb⟩
  replace M1 := Lib.hid (M1.out.call hb)
  replace M2 := Lib.hid (M2.out.call hb)
  replace HB := Lib.hid (held_next HB.out hb)
  refine ⟨_, rfl, ?_⟩
  clear hb
  (try simp only [Act.put, sI, sS, sZ])
  refine wpList_step (fun K hK => ?_)
  go_simp
  (try go_bits)
  refine hK _ _ ?_
  clear hK K
  refine wpList_step (fun K hK => ?_)
  go_simp
  (try go_bits)
  refine hK _ _ ?_
  clear hK K
  refine wpList_step (fun K hK => ?_)
  go_simp
  (try go_bits)
  refine hK _ _ ?_
  clear hK K
  refine wpList_step (fun K hK => ?_)
  go_simp
  (try go_bits)
  refine hK _ _ ?_
  clear hK K
  refine wpList_alloc (by rfl) 36 rfl _ al36 3 rfl ?_
  intro yw2 hw2
  have hlt3 := M1.out.lt
  have hlt4 := M2.out.lt
  have hsz := HB.out.size
  have kq := M1.out.alloc (.cells z36 36); rw [← hw2] at kq; clear M1; have M1 := Lib.hid kq; clear kq
  have kq := M2.out.alloc (.cells z36 36); rw [← hw2] at kq; clear M2; have M2 := Lib.hid kq; clear kq
  have kq := HasN.new uw1 z36 36 4 (by kernel_rfl); rw [← hw2] at kq; have M3 := Lib.hid kq; clear kq
  have kq := HB.out.alloc hsz (.cells z36 36); rw [← hw2] at kq; clear HB; have HB := Lib.hid kq; clear kq hw2
  (try simp only [Act.put, sI, sS, sZ])
  refine wpList_alloc (by rfl) 36 rfl _ al36 4 rfl ?_
  intro yw5 hw2
  have hlt6 := M1.out.lt
  have hlt7 := M2.out.lt
  have hlt8 := M3.out.lt
  have hsz := HB.out.size
  have kq := M1.out.alloc (.cells z36 36); rw [← hw2] at kq; clear M1; have M1 := Lib.hid kq; clear kq
  have kq := M2.out.alloc (.cells z36 36); rw [← hw2] at kq; clear M2; have M2 := Lib.hid kq; clear kq
  have kq := M3.out.alloc (.cells z36 36); rw [← hw2] at kq; clear M3; have M3 := Lib.hid kq; clear kq
  have kq := HasN.new yw2 z36 36 4 (by kernel_rfl); rw [← hw2] at kq; have M4 := Lib.hid kq; clear kq
  have kq := HB.out.alloc hsz (.cells z36 36); rw [← hw2] at kq; clear HB; have HB := Lib.hid kq; clear kq hw2
  (try simp only [Act.put, sI, sS, sZ])
  refine wpList_alloc (by rfl) 36 rfl _ al36 5 rfl ?_
  intro yw9 hw2
  have hlt10 := M1.out.lt
  have hlt11 := M2.out.lt
  have hlt12 := M3.out.lt
  have hlt13 := M4.out.lt
  have hsz := HB.out.size
  have kq := M1.out.alloc (.cells z36 36); rw [← hw2] at kq; clear M1; have M1 := Lib.hid kq; clear kq
  have kq := M2.out.alloc (.cells z36 36); rw [← hw2] at kq; clear M2; have M2 := Lib.hid kq; clear kq
  have kq := M3.out.alloc (.cells z36 36); rw [← hw2] at kq; clear M3; have M3 := Lib.hid kq; clear kq
  have kq := M4.out.alloc (.cells z36 36); rw [← hw2] at kq; clear M4; have M4 := Lib.hid kq; clear kq
  have kq := HasN.new yw5 z36 36 4 (by kernel_rfl); rw [← hw2] at kq; have M5 := Lib.hid kq; clear kq
  have kq := HB.out.alloc hsz (.cells z36 36); rw [← hw2] at kq; clear HB; have HB := Lib.hid kq; clear kq hw2
  (try simp only [Act.put, sI, sS, sZ])
  first | (obtain ⟨Zq, hZ, mZ⟩ := M3.out) | (obtain ⟨Zq, hZ, mZ⟩ := M3.out.toN (e4_size ..))
  refine wpList_store2 (by rfl) 36 _ _ rfl rfl (uw1.heap.size) (e4 mx) rfl rfl 36 Zq mZ (by rw [e4_size]; kernel_rfl) (hZ.trans (e4_size ..).symm) (row_one _ _ _) ?_
  intro yw14 hw2
  have kq := M1.out.setRow_other (uw1.heap.size) (e4 mx) (by omega); rw [← hw2] at kq; clear M1; have M1 := Lib.hid kq; clear kq
  have kq := M2.out.setRow_other (uw1.heap.size) (e4 mx) (by omega); rw [← hw2] at kq; clear M2; have M2 := Lib.hid kq; clear kq
  have kq := M4.out.setRow_other (uw1.heap.size) (e4 mx) (by omega); rw [← hw2] at kq; clear M4; have M4 := Lib.hid kq; clear kq
  have kq := M5.out.setRow_other (uw1.heap.size) (e4 mx) (by omega); rw [← hw2] at kq; clear M5; have M5 := Lib.hid kq; clear kq
  have kq := mZ.setRow (e4 mx); rw [← hw2] at kq; clear M3; have M3 := Lib.hid kq; clear kq mZ hZ
  have kq := below_setRow HB.out (uw1.heap.size) (e4 mx) (by omega); rw [← hw2] at kq; clear HB; have HB := Lib.hid kq; clear kq hw2
  first | (obtain ⟨Zq, hZ, mZ⟩ := M4.out) | (obtain ⟨Zq, hZ, mZ⟩ := M4.out.toN (e4_size ..))
  refine wpList_store2 (by rfl) 36 _ _ rfl rfl (yw2.heap.size) (e4 my) rfl rfl 36 Zq mZ (by rw [e4_size]; kernel_rfl) (hZ.trans (e4_size ..).symm) (row_one _ _ _) ?_
  intro yw15 hw2
  have kq := M1.out.setRow_other (yw2.heap.size) (e4 my) (by omega); rw [← hw2] at kq; clear M1; have M1 := Lib.hid kq; clear kq
  have kq := M2.out.setRow_other (yw2.heap.size) (e4 my) (by omega); rw [← hw2] at kq; clear M2; have M2 := Lib.hid kq; clear kq
  have kq := M3.out.setRow_other (yw2.heap.size) (e4 my) (by omega); rw [← hw2] at kq; clear M3; have M3 := Lib.hid kq; clear kq
  have kq := M5.out.setRow_other (yw2.heap.size) (e4 my) (by omega); rw [← hw2] at kq; clear M5; have M5 := Lib.hid kq; clear kq
  have kq := mZ.setRow (e4 my); rw [← hw2] at kq; clear M4; have M4 := Lib.hid kq; clear kq mZ hZ
  have kq := below_setRow HB.out (yw2.heap.size) (e4 my) (by omega); rw [← hw2] at kq; clear HB; have HB := Lib.hid kq; clear kq hw2
  first | (obtain ⟨Zq, hZ, mZ⟩ := M5.out) | (obtain ⟨Zq, hZ, mZ⟩ := M5.out.toN (e4_size ..))
  refine wpList_store2 (by rfl) 36 _ _ rfl rfl (yw5.heap.size) (e4 mz) rfl rfl 36 Zq mZ (by rw [e4_size]; kernel_rfl) (hZ.trans (e4_size ..).symm) (row_one _ _ _) ?_
  intro yw16 hw2
  have kq := M1.out.setRow_other (yw5.heap.size) (e4 mz) (by omega); rw [← hw2] at kq; clear M1; have M1 := Lib.hid kq; clear kq
  have kq := M2.out.setRow_other (yw5.heap.size) (e4 mz) (by omega); rw [← hw2] at kq; clear M2; have M2 := Lib.hid kq; clear kq
  have kq := M3.out.setRow_other (yw5.heap.size) (e4 mz) (by omega); rw [← hw2] at kq; clear M3; have M3 := Lib.hid kq; clear kq
  have kq := M4.out.setRow_other (yw5.heap.size) (e4 mz) (by omega); rw [← hw2] at kq; clear M4; have M4 := Lib.hid kq; clear kq
  have kq := mZ.setRow (e4 mz); rw [← hw2] at kq; clear M5; have M5 := Lib.hid kq; clear kq mZ hZ
  have kq := below_setRow HB.out (yw5.heap.size) (e4 mz) (by omega); rw [← hw2] at kq; clear HB; have HB := Lib.hid kq; clear kq hw2
  refine wpList_nil ?_
  have Hrx := Lib.hid hrx; clear hrx
  have Hry := Lib.hid hry; clear hry
  have Hrz := Lib.hid hrz; clear hrz
  repeat ((fail_if_success (with_reducible (show wpList _ _ _ _ _ _))); go_step)
  refine wpList_load (by rfl) 36 _ rfl (yw2.heap.size) rfl 36 (e4 my) M4.out Try.underlying36 rfl (by rw [e4_size]; kernel_rfl) 13 rfl ?_
  (try simp only [Act.put, sI, sS, sZ])
  refine wpList_load (by rfl) 36 _ rfl (yw5.heap.size) rfl 36 (e4 mz) M5.out Try.underlying36 rfl (by rw [e4_size]; kernel_rfl) 14 rfl ?_
  (try simp only [Act.put, sI, sS, sZ])
  refine wpList_call (by rfl) rfl rfl (by rfl) ent42 (by rfl) (Hov.out my mz hmy hmz _) 15 rfl ?_
  rintro e uw2 ⟨q1, hq1, hq1r, rfl, hb⟩
  replace M1 := Lib.hid (M1.out.call hb)
  replace M2 := Lib.hid (M2.out.call hb)
  replace M3 := Lib.hid (M3.out.call hb)
  replace M4 := Lib.hid (M4.out.call hb)
  replace M5 := Lib.hid (M5.out.call hb)
  replace HB := Lib.hid (held_next HB.out hb)
  have hq1s := (Hoc.out my mz q1 Y Z Hry.out Hrz.out hq1r).trans HQY.out.symm
  clear hq1r
  have Hq1 := Lib.hid hq1s; clear hq1s
  refine ⟨_, rfl, ?_⟩
  clear hb
  (try simp only [Act.put, sI, sS, sZ])
  refine wpList_call (by rfl) rfl rfl (by rfl) ent73 (by rfl) (Hkey.out q1 hq1 _) 16 rfl ?_
  rintro e uw3 ⟨rfl, hb⟩
  replace M1 := Lib.hid (M1.out.call hb)
  replace M2 := Lib.hid (M2.out.call hb)
  replace M3 := Lib.hid (M3.out.call hb)
  replace M4 := Lib.hid (M4.out.call hb)
  replace M5 := Lib.hid (M5.out.call hb)
  replace HB := Lib.hid (held_next HB.out hb)
  rw [Hq1.out]
  refine ⟨_, rfl, ?_⟩
  clear hb
  (try simp only [Act.put, sI, sS, sZ])
  refine wpList_alloc (by rfl) 24 rfl _ al24 6 rfl ?_
  intro yw17 hw2
  have hlt18 := M1.out.lt
  have hlt19 := M2.out.lt
  have hlt20 := M3.out.lt
  have hlt21 := M4.out.lt
  have hlt22 := M5.out.lt
  have hsz := HB.out.size
  have kq := M1.out.alloc (.cells z24 24); rw [← hw2] at kq; clear M1; have M1 := Lib.hid kq; clear kq
  have kq := M2.out.alloc (.cells z24 24); rw [← hw2] at kq; clear M2; have M2 := Lib.hid kq; clear kq
  have kq := M3.out.alloc (.cells z24 24); rw [← hw2] at kq; clear M3; have M3 := Lib.hid kq; clear kq
  have kq := M4.out.alloc (.cells z24 24); rw [← hw2] at kq; clear M4; have M4 := Lib.hid kq; clear kq
  have kq := M5.out.alloc (.cells z24 24); rw [← hw2] at kq; clear M5; have M5 := Lib.hid kq; clear kq
  have kq := HasN.new uw3 z24 24 32 (by kernel_rfl); rw [← hw2] at kq; have M6 := Lib.hid kq; clear kq
  have kq := HB.out.alloc hsz (.cells z24 24); rw [← hw2] at kq; clear HB; have HB := Lib.hid kq; clear kq hw2
  (try simp only [Act.put, sI, sS, sZ])
  first | (obtain ⟨Zq, hZ, mZ⟩ := M6.out) | (obtain ⟨Zq, hZ, mZ⟩ := M6.out.toN (k32_size ..))
  refine wpList_store2 (by rfl) 24 _ _ rfl rfl (uw3.heap.size) (k32 QY) rfl rfl 24 Zq mZ (by rw [k32_size]; kernel_rfl) (hZ.trans (k32_size ..).symm) (row_one _ _ _) ?_
  intro yw23 hw2
  have kq := M1.out.setRow_other (uw3.heap.size) (k32 QY) (by omega); rw [← hw2] at kq; clear M1; have M1 := Lib.hid kq; clear kq
  have kq := M2.out.setRow_other (uw3.heap.size) (k32 QY) (by omega); rw [← hw2] at kq; clear M2; have M2 := Lib.hid kq; clear kq
  have kq := M3.out.setRow_other (uw3.heap.size) (k32 QY) (by omega); rw [← hw2] at kq; clear M3; have M3 := Lib.hid kq; clear kq
  have kq := M4.out.setRow_other (uw3.heap.size) (k32 QY) (by omega); rw [← hw2] at kq; clear M4; have M4 := Lib.hid kq; clear kq
  have kq := M5.out.setRow_other (uw3.heap.size) (k32 QY) (by omega); rw [← hw2] at kq; clear M5; have M5 := Lib.hid kq; clear kq
  have kq := mZ.setRow (k32 QY); rw [← hw2] at kq; clear M6; have M6 := Lib.hid kq; clear kq mZ hZ
  have kq := below_setRow HB.out (uw3.heap.size) (k32 QY) (by omega); rw [← hw2] at kq; clear HB; have HB := Lib.hid kq; clear kq hw2
  refine wpList_nil ?_
  repeat ((fail_if_success (with_reducible (show wpList _ _ _ _ _ _))); go_step)
  refine wpList_load (by rfl) 36 _ rfl (uw1.heap.size) rfl 36 (e4 mx) M3.out Try.underlying36 rfl (by rw [e4_size]; kernel_rfl) 17 rfl ?_
  (try simp only [Act.put, sI, sS, sZ])
  refine wpList_load (by rfl) 36 _ rfl (yw5.heap.size) rfl 36 (e4 mz) M5.out Try.underlying36 rfl (by rw [e4_size]; kernel_rfl) 18 rfl ?_
  (try simp only [Act.put, sI, sS, sZ])
  refine wpList_call (by rfl) rfl rfl (by rfl) ent42 (by rfl) (Hov.out mx mz hmx hmz _) 19 rfl ?_
  rintro e uw4 ⟨q2, hq2, hq2r, rfl, hb⟩
  replace M1 := Lib.hid (M1.out.call hb)
  replace M2 := Lib.hid (M2.out.call hb)
  replace M3 := Lib.hid (M3.out.call hb)
  replace M4 := Lib.hid (M4.out.call hb)
  replace M5 := Lib.hid (M5.out.call hb)
  replace M6 := Lib.hid (M6.out.call hb)
  replace HB := Lib.hid (held_next HB.out hb)
  have hq2s := (Hoc.out mx mz q2 X Z Hrx.out Hrz.out hq2r).trans HQX.out.symm
  clear hq2r
  have Hq2 := Lib.hid hq2s; clear hq2s
  refine ⟨_, rfl, ?_⟩
  clear hb
  (try simp only [Act.put, sI, sS, sZ])
  
  rcases Nat.mod_two_eq_zero_or_one QX with hp | hp
  · have hE := Heven.out hp
    have hev := fun w => Hevy.out q2 hq2 (by rw [Hq2.out]; exact hp) w
    have HE := Lib.hid hE; clear hE
    have Hev := Lib.hid hev; clear hev
    have Hp := Lib.hid hp; clear hp
    refine wpList_call (by rfl) rfl rfl (by rfl) ent36 (by rfl) (Hev.out _) 20 rfl ?_
    rintro e uw5 ⟨rfl, hb⟩
    replace M1 := Lib.hid (M1.out.call hb)
    replace M2 := Lib.hid (M2.out.call hb)
    replace M3 := Lib.hid (M3.out.call hb)
    replace M4 := Lib.hid (M4.out.call hb)
    replace M5 := Lib.hid (M5.out.call hb)
    replace M6 := Lib.hid (M6.out.call hb)
    replace HB := Lib.hid (held_next HB.out hb)
    refine ⟨_, rfl, ?_⟩
    clear hb
    (try simp only [Act.put, sI, sS, sZ])
    refine wpList_step (fun K hK => ?_)
    go_simp
    (try go_bits)
    refine hK _ _ ?_
    clear hK K
    refine wpList_nil ?_
    repeat ((fail_if_success (with_reducible (show wpList _ _ _ _ _ _))); go_step)
    refine wpList_load (by rfl) 24 _ rfl (uw3.heap.size) rfl 24 (k32 QY) M6.out Try.underlying24 rfl (by rw [k32_size]; kernel_rfl) 26 rfl ?_
    (try simp only [Act.put, sI, sS, sZ])
    first | (obtain ⟨Zq, hZ, mZ⟩ := M2.out) | (obtain ⟨Zq, hZ, mZ⟩ := M2.out.toN (k32_size ..))
    refine wpList_store2 (by rfl) 24 _ _ rfl rfl (w.heap.size + 1) (k32 QY) rfl rfl 24 Zq mZ (by rw [k32_size]; kernel_rfl) (hZ.trans (k32_size ..).symm) (row_one _ _ _) ?_
    intro yw24 hw2
    have kq := M1.out.setRow_other (w.heap.size + 1) (k32 QY) (by omega); rw [← hw2] at kq; clear M1; have M1 := Lib.hid kq; clear kq
    have kq := M3.out.setRow_other (w.heap.size + 1) (k32 QY) (by omega); rw [← hw2] at kq; clear M3; have M3 := Lib.hid kq; clear kq
    have kq := M4.out.setRow_other (w.heap.size + 1) (k32 QY) (by omega); rw [← hw2] at kq; clear M4; have M4 := Lib.hid kq; clear kq
    have kq := M5.out.setRow_other (w.heap.size + 1) (k32 QY) (by omega); rw [← hw2] at kq; clear M5; have M5 := Lib.hid kq; clear kq
    have kq := M6.out.setRow_other (w.heap.size + 1) (k32 QY) (by omega); rw [← hw2] at kq; clear M6; have M6 := Lib.hid kq; clear kq
    have kq := mZ.setRow (k32 QY); rw [← hw2] at kq; clear M2; have M2 := Lib.hid kq; clear kq mZ hZ
    have kq := below_setRow HB.out (w.heap.size + 1) (k32 QY) (by omega); rw [← hw2] at kq; clear HB; have HB := Lib.hid kq; clear kq hw2
    refine wpList_nil ?_
    go_wp2_with fail
    exact bodyPost_ret (v := .agg (k32 QY)) (results_cell_row (t := 24) (by rfl) _ _ (w.heap.size + 1) _ _ _ rfl M2.out Try.underlying24 rfl (by rw [k32_size]; kernel_rfl)) rfl ⟨by rw [HE.out], HB.out⟩
  · have hE := Hodd.out hp
    have hev := fun w => Hevn.out q2 hq2 (by rw [Hq2.out]; exact hp) w
    obtain ⟨c, hc, hcl⟩ := dg31_small QY HQl.out
    have hor := or_128 c hcl
    have hkt := key_top QY HQl.out ((c : Int) + 128) (by rw [hc])
    have HE := Lib.hid hE; clear hE
    have Hev := Lib.hid hev; clear hev
    have Hp := Lib.hid hp; clear hp
    have Hkt := Lib.hid hkt; clear hkt
    have Hc := Lib.hid hc; clear hc
    refine wpList_call (by rfl) rfl rfl (by rfl) ent36 (by rfl) (Hev.out _) 20 rfl ?_
    rintro e uw5 ⟨rfl, hb⟩
    replace M1 := Lib.hid (M1.out.call hb)
    replace M2 := Lib.hid (M2.out.call hb)
    replace M3 := Lib.hid (M3.out.call hb)
    replace M4 := Lib.hid (M4.out.call hb)
    replace M5 := Lib.hid (M5.out.call hb)
    replace M6 := Lib.hid (M6.out.call hb)
    replace HB := Lib.hid (held_next HB.out hb)
    refine ⟨_, rfl, ?_⟩
    clear hb
    (try simp only [Act.put, sI, sS, sZ])
    refine wpList_step (fun K hK => ?_)
    go_simp
    (try go_bits)
    refine hK _ _ ?_
    clear hK K
    refine wpList_nil ?_
    repeat ((fail_if_success (with_reducible (show wpList _ _ _ _ _ _))); go_step)
    have h1 := M6.out.cell 31 (by omega)
    rw [Hc.out] at h1
    have hfz := M6.out.frozen 31
    refine wpList_step (fun K hK => ?_)
    go_simp
    (try go_bits)
    refine hK _ _ ?_
    clear hK K
    refine wpList_step (fun K hK => ?_)
    go_simp
    (try go_bits)
    refine hK _ _ ?_
    clear hK K
    refine wpList_step (fun K hK => ?_)
    go_simp
    (try go_bits)
    refine hK _ _ ?_
    clear hK K
    refine wpList_step (fun K hK => ?_)
    go_simp
    (try go_bits)
    refine hK _ _ ?_
    clear hK K
    refine wpList_step (fun K hK => ?_)
    go_simp
    (try go_bits)
    refine hK _ _ ?_
    clear hK K
    refine wpList_nil ?_
    clear h1 hfz
    have kq := M6.out.set 31 ((c : Int) + 128); rw [Hkt.out] at kq; clear M6; have M6 := Lib.hid kq; clear kq
    have kq := M1.out.other ⟨uw3.heap.size, 31, none⟩ (.int .u8 ((c : Int) + 128)) (by simp <;> omega); clear M1; have M1 := Lib.hid kq; clear kq
    have kq := M2.out.other ⟨uw3.heap.size, 31, none⟩ (.int .u8 ((c : Int) + 128)) (by simp <;> omega); clear M2; have M2 := Lib.hid kq; clear kq
    have kq := M3.out.other ⟨uw3.heap.size, 31, none⟩ (.int .u8 ((c : Int) + 128)) (by simp <;> omega); clear M3; have M3 := Lib.hid kq; clear kq
    have kq := M4.out.other ⟨uw3.heap.size, 31, none⟩ (.int .u8 ((c : Int) + 128)) (by simp <;> omega); clear M4; have M4 := Lib.hid kq; clear kq
    have kq := M5.out.other ⟨uw3.heap.size, 31, none⟩ (.int .u8 ((c : Int) + 128)) (by simp <;> omega); clear M5; have M5 := Lib.hid kq; clear kq
    replace HB := Lib.hid (HB.out.setCell (p := ⟨uw3.heap.size, 31, none⟩) (show w.heap.size ≤ uw3.heap.size by omega) (.int .u8 ((c : Int) + 128)))
    obtain ⟨yw24, hwyw24⟩ : ∃ ww, ww = uw5.setCell ⟨uw3.heap.size, 31, none⟩ (.int .u8 ((c : Int) + 128)) := ⟨_, rfl⟩
    rw [← hwyw24] at M1 M2 M3 M4 M5 M6 HB ⊢
    clear hwyw24
    repeat ((fail_if_success (with_reducible (show wpList _ _ _ _ _ _))); go_step)
    refine wpList_load (by rfl) 24 _ rfl (uw3.heap.size) rfl 24 (k32 (QY + 57896044618658097711785492504343953926634992332820282019728792003956564819968)) M6.out Try.underlying24 rfl (by rw [k32_size]; kernel_rfl) 26 rfl ?_
    (try simp only [Act.put, sI, sS, sZ])
    first | (obtain ⟨Zq, hZ, mZ⟩ := M2.out) | (obtain ⟨Zq, hZ, mZ⟩ := M2.out.toN (k32_size ..))
    refine wpList_store2 (by rfl) 24 _ _ rfl rfl (w.heap.size + 1) (k32 (QY + 57896044618658097711785492504343953926634992332820282019728792003956564819968)) rfl rfl 24 Zq mZ (by rw [k32_size]; kernel_rfl) (hZ.trans (k32_size ..).symm) (row_one _ _ _) ?_
    intro yw25 hw2
    have kq := M1.out.setRow_other (w.heap.size + 1) (k32 (QY + 57896044618658097711785492504343953926634992332820282019728792003956564819968)) (by omega); rw [← hw2] at kq; clear M1; have M1 := Lib.hid kq; clear kq
    have kq := M3.out.setRow_other (w.heap.size + 1) (k32 (QY + 57896044618658097711785492504343953926634992332820282019728792003956564819968)) (by omega); rw [← hw2] at kq; clear M3; have M3 := Lib.hid kq; clear kq
    have kq := M4.out.setRow_other (w.heap.size + 1) (k32 (QY + 57896044618658097711785492504343953926634992332820282019728792003956564819968)) (by omega); rw [← hw2] at kq; clear M4; have M4 := Lib.hid kq; clear kq
    have kq := M5.out.setRow_other (w.heap.size + 1) (k32 (QY + 57896044618658097711785492504343953926634992332820282019728792003956564819968)) (by omega); rw [← hw2] at kq; clear M5; have M5 := Lib.hid kq; clear kq
    have kq := M6.out.setRow_other (w.heap.size + 1) (k32 (QY + 57896044618658097711785492504343953926634992332820282019728792003956564819968)) (by omega); rw [← hw2] at kq; clear M6; have M6 := Lib.hid kq; clear kq
    have kq := mZ.setRow (k32 (QY + 57896044618658097711785492504343953926634992332820282019728792003956564819968)); rw [← hw2] at kq; clear M2; have M2 := Lib.hid kq; clear kq mZ hZ
    have kq := below_setRow HB.out (w.heap.size + 1) (k32 (QY + 57896044618658097711785492504343953926634992332820282019728792003956564819968)) (by omega); rw [← hw2] at kq; clear HB; have HB := Lib.hid kq; clear kq hw2
    refine wpList_nil ?_
    go_wp2_with fail
    exact bodyPost_ret (v := .agg (k32 (QY + 57896044618658097711785492504343953926634992332820282019728792003956564819968))) (results_cell_row (t := 24) (by rfl) _ _ (w.heap.size + 1) _ _ _ rfl M2.out Try.underlying24 rfl (by rw [k32_size]; kernel_rfl)) rfl ⟨by rw [HE.out], HB.out⟩
end Go.Proofs.Ytjiagjonlcadiaa
