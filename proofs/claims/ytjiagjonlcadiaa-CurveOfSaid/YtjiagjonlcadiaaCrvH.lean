/- The reference's points: Key. -/
import Derived.Test.YtjiagjonlcadiaaCrvC
namespace Go.Proofs.Ytjiagjonlcadiaa
open Go.RowKit Go.Lib

theorem dg0_tm (r b : Nat) (h : r % 2 = b) : (dg 4096 r 0).tmod 2 = (b : Int) := by
  rw [Int.tmod_eq_emod_of_nonneg (dg_nn r 0)]
  have hz0 : dg 4096 r 0 % 2 = ((r % 2 : Nat) : Int) := by unfold dg; rw [Nat.pow_zero, Nat.div_one]; omega
  rw [hz0, h]
theorem add_128 (c : Nat) (h : c < 128) : ((c : Int) + 128) % 256 = (c : Int) + 128 := by omega

set_option maxRecDepth 100000 in
set_option linter.unusedSimpArgs false in
set_option maxHeartbeats 8000000 in
theorem rkeyp_any (X Y Z T : Nat) (hX : X < PP) (hY : Y < PP) (hZ : Z < PP) (w : World) :
    Calls Try.prog 50 #[.agg (rp X Y Z T)] w fun e w' => e = .returned (.agg (k32 (keyn X Y Z))) ∧ Below w.heap.size w w' := by
  have hov1 := fun w => rover_any Y Z hY hZ w
  have hov2 := fun w => rover_any X Z hX hZ w
  obtain ⟨QY, hQY⟩ : ∃ q, q = Y * pwm Z (PP - 2) % PP := ⟨_, rfl⟩
  obtain ⟨QX, hQX⟩ : ∃ q, q = X * pwm Z (PP - 2) % PP := ⟨_, rfl⟩
  rw [← hQY] at hov1
  rw [← hQX] at hov2
  have hQp : QY < PP := by rw [hQY]; exact Nat.mod_lt _ PP_pos
  have hQl : QY < 57896044618658097711785492504343953926634992332820282019728792003956564819968 := Nat.lt_trans hQp PP_255
  have hkey := fun w => rkey_any QY (PP_256 QY hQp) w
  obtain ⟨R, hR⟩ : ∃ r, r = keyn X Y Z := ⟨_, rfl⟩
  have hodd : QX % 2 = 1 → QY + 57896044618658097711785492504343953926634992332820282019728792003956564819968 = R := by intro h; rw [hQY, hR]; rw [hQX] at h; exact keyn_odd X Y Z h
  have heven : QX % 2 = 0 → QY = R := by intro h; rw [hQY, hR]; rw [hQX] at h; exact keyn_even X Y Z h
  rw [← hR]
  clear hR hQY hQX hQp hX hY hZ
  have Hov1 := Lib.hid hov1; clear hov1
  have Hov2 := Lib.hid hov2; clear hov2
  have Hkey := Lib.hid hkey; clear hkey
  have HQl := Lib.hid hQl; clear hQl
  have Hodd := Lib.hid hodd; clear hodd
  have Heven := Lib.hid heven; clear heven
  go_enter Try.func50, Try.ntmps50
  repeat ((fail_if_success (with_reducible (show wpList _ _ _ _ _ _))); go_step)
  refine wpList_step (fun K hK => ?_)
  go_simp
  (try go_bits)
  refine hK _ _ ?_
  clear hK K
  refine wpList_step (fun K hK => ?_)
  go_simp
  (try go_bits)
  refine hK _ _ ?_
  clear hK K
  refine wpList_nil ?_
  have M1 := Lib.hid ((Has.new w  (rp X Y Z T) 57).alloc (.cells (#[.int .u8 0, .int .u8 0, .int .u8 0, .int .u8 0, .int .u8 0, .int .u8 0, .int .u8 0, .int .u8 0, .int .u8 0, .int .u8 0, .int .u8 0, .int .u8 0, .int .u8 0, .int .u8 0, .int .u8 0, .int .u8 0, .int .u8 0, .int .u8 0, .int .u8 0, .int .u8 0, .int .u8 0, .int .u8 0, .int .u8 0, .int .u8 0, .int .u8 0, .int .u8 0, .int .u8 0, .int .u8 0, .int .u8 0, .int .u8 0, .int .u8 0, .int .u8 0] : Array Value) 24))
  have M2 := Lib.hid (HasN.new1 w (.cells (rp X Y Z T) 57) (#[.int .u8 0, .int .u8 0, .int .u8 0, .int .u8 0, .int .u8 0, .int .u8 0, .int .u8 0, .int .u8 0, .int .u8 0, .int .u8 0, .int .u8 0, .int .u8 0, .int .u8 0, .int .u8 0, .int .u8 0, .int .u8 0, .int .u8 0, .int .u8 0, .int .u8 0, .int .u8 0, .int .u8 0, .int .u8 0, .int .u8 0, .int .u8 0, .int .u8 0, .int .u8 0, .int .u8 0, .int .u8 0, .int .u8 0, .int .u8 0, .int .u8 0, .int .u8 0] : Array Value) 24 32 (by kernel_rfl))
  have HB := Lib.hid (below_2 w (.cells (rp X Y Z T) 57) (.cells (#[.int .u8 0, .int .u8 0, .int .u8 0, .int .u8 0, .int .u8 0, .int .u8 0, .int .u8 0, .int .u8 0, .int .u8 0, .int .u8 0, .int .u8 0, .int .u8 0, .int .u8 0, .int .u8 0, .int .u8 0, .int .u8 0, .int .u8 0, .int .u8 0, .int .u8 0, .int .u8 0, .int .u8 0, .int .u8 0, .int .u8 0, .int .u8 0, .int .u8 0, .int .u8 0, .int .u8 0, .int .u8 0, .int .u8 0, .int .u8 0, .int .u8 0, .int .u8 0] : Array Value) 24))
  obtain ⟨yw1, hwyw1⟩ : ∃ ww, ww = ((w.alloc (.cells (rp X Y Z T) 57)).alloc (.cells (#[.int .u8 0, .int .u8 0, .int .u8 0, .int .u8 0, .int .u8 0, .int .u8 0, .int .u8 0, .int .u8 0, .int .u8 0, .int .u8 0, .int .u8 0, .int .u8 0, .int .u8 0, .int .u8 0, .int .u8 0, .int .u8 0, .int .u8 0, .int .u8 0, .int .u8 0, .int .u8 0, .int .u8 0, .int .u8 0, .int .u8 0, .int .u8 0, .int .u8 0, .int .u8 0, .int .u8 0, .int .u8 0, .int .u8 0, .int .u8 0, .int .u8 0, .int .u8 0] : Array Value) 24)) := ⟨_, rfl⟩
  rw [← hwyw1] at M1 M2 HB ⊢
  clear hwyw1
  repeat ((fail_if_success (with_reducible (show wpList _ _ _ _ _ _))); go_step)
  refine wpList_step (fun K hK => ?_)
  go_simp
  (try go_bits)
  refine hK _ _ ?_
  clear hK K
  refine wpList_loadm (by rfl) 40 _ rfl (w.heap.size) 22 rfl (r22l Y) (r22 Y) rfl (rp_y M1.out) _ Try.underlying40 rfl (by rw [r22l_len]; kernel_rfl) 5 rfl ?_
  (try simp only [Act.put, sI, sS, sZ])
  refine wpList_step (fun K hK => ?_)
  go_simp
  (try go_bits)
  refine hK _ _ ?_
  clear hK K
  refine wpList_loadm (by rfl) 40 _ rfl (w.heap.size) 44 rfl (r22l Z) (r22 Z) rfl (rp_z M1.out) _ Try.underlying40 rfl (by rw [r22l_len]; kernel_rfl) 7 rfl ?_
  (try simp only [Act.put, sI, sS, sZ])
  refine wpList_call (by rfl) rfl rfl (by rfl) ent43 (by rfl) (Hov1.out _) 8 rfl ?_
  rintro e uw1 ⟨rfl, hb⟩
  replace M1 := Lib.hid (M1.out.call hb)
  replace M2 := Lib.hid (M2.out.call hb)
  replace HB := Lib.hid (held_next HB.out hb)
  refine ⟨_, rfl, ?_⟩
  clear hb
  (try simp only [Act.put, sI, sS, sZ])
  refine wpList_call (by rfl) rfl rfl (by rfl) ent74 (by rfl) (Hkey.out _) 9 rfl ?_
  rintro e uw2 ⟨rfl, hb⟩
  replace M1 := Lib.hid (M1.out.call hb)
  replace M2 := Lib.hid (M2.out.call hb)
  replace HB := Lib.hid (held_next HB.out hb)
  refine ⟨_, rfl, ?_⟩
  clear hb
  (try simp only [Act.put, sI, sS, sZ])
  refine wpList_alloc (by rfl) 24 rfl _ al24 3 rfl ?_
  intro yw2 hw2
  have hlt3 := M1.out.lt
  have hlt4 := M2.out.lt
  have hsz := HB.out.size
  have kq := M1.out.alloc (.cells z24 24); rw [← hw2] at kq; clear M1; have M1 := Lib.hid kq; clear kq
  have kq := M2.out.alloc (.cells z24 24); rw [← hw2] at kq; clear M2; have M2 := Lib.hid kq; clear kq
  have kq := HasN.new uw2 z24 24 32 (by kernel_rfl); rw [← hw2] at kq; have M3 := Lib.hid kq; clear kq
  have kq := HB.out.alloc hsz (.cells z24 24); rw [← hw2] at kq; clear HB; have HB := Lib.hid kq; clear kq hw2
  (try simp only [Act.put, sI, sS, sZ])
  first | (obtain ⟨Zq, hZ, mZ⟩ := M3.out) | (obtain ⟨Zq, hZ, mZ⟩ := M3.out.toN (k32_size ..))
  refine wpList_store2 (by rfl) 24 _ _ rfl rfl (uw2.heap.size) (k32 QY) rfl rfl 24 Zq mZ (by rw [k32_size]; kernel_rfl) (hZ.trans (k32_size ..).symm) (row_one _ _ _) ?_
  intro yw5 hw2
  have kq := M1.out.setRow_other (uw2.heap.size) (k32 QY) (by omega); rw [← hw2] at kq; clear M1; have M1 := Lib.hid kq; clear kq
  have kq := M2.out.setRow_other (uw2.heap.size) (k32 QY) (by omega); rw [← hw2] at kq; clear M2; have M2 := Lib.hid kq; clear kq
  have kq := mZ.setRow (k32 QY); rw [← hw2] at kq; clear M3; have M3 := Lib.hid kq; clear kq mZ hZ
  have kq := below_setRow HB.out (uw2.heap.size) (k32 QY) (by omega); rw [← hw2] at kq; clear HB; have HB := Lib.hid kq; clear kq hw2
  refine wpList_nil ?_
  repeat ((fail_if_success (with_reducible (show wpList _ _ _ _ _ _))); go_step)
  have hix := fun w => run_index_row w 40 3 22 .i64 Try.underlying40 Try.underlying3 sz_int (dg 4096 QX) 0 (by omega)
  rw [show row .i64 22 (dg 4096 QX) = r22 QX from rfl, show (((0 : Nat) : Int)) = 0 from rfl] at hix
  rcases Nat.mod_two_eq_zero_or_one QX with hp | hp
  · have hE := Heven.out hp
    have htm := dg0_tm QX 0 hp
    obtain ⟨z, hz⟩ : ∃ z, z = dg 4096 QX 0 := ⟨_, rfl⟩
    rw [← hz] at htm hix
    have htm : z.tmod 2 = 0 := htm
    have HE := Lib.hid hE; clear hE
    have Hp := Lib.hid hp; clear hp
    have Hz := Lib.hid hz; clear hz
    refine wpList_step (fun K hK => ?_)
    go_simp
    (try go_bits)
    refine hK _ _ ?_
    clear hK K
    refine wpList_loadm (by rfl) 40 _ rfl (w.heap.size) 0 rfl (r22l X) (r22 X) rfl (rp_x M1.out) _ Try.underlying40 rfl (by rw [r22l_len]; kernel_rfl) 11 rfl ?_
    (try simp only [Act.put, sI, sS, sZ])
    refine wpList_step (fun K hK => ?_)
    go_simp
    (try go_bits)
    refine hK _ _ ?_
    clear hK K
    refine wpList_loadm (by rfl) 40 _ rfl (w.heap.size) 44 rfl (r22l Z) (r22 Z) rfl (rp_z M1.out) _ Try.underlying40 rfl (by rw [r22l_len]; kernel_rfl) 13 rfl ?_
    (try simp only [Act.put, sI, sS, sZ])
    refine wpList_call (by rfl) rfl rfl (by rfl) ent43 (by rfl) (Hov2.out _) 14 rfl ?_
    rintro e uw3 ⟨rfl, hb⟩
    replace M1 := Lib.hid (M1.out.call hb)
    replace M2 := Lib.hid (M2.out.call hb)
    replace M3 := Lib.hid (M3.out.call hb)
    replace HB := Lib.hid (held_next HB.out hb)
    refine ⟨_, rfl, ?_⟩
    clear hb
    (try simp only [Act.put, sI, sS, sZ])
    refine wpList_step (fun K hK => ?_)
    go_simp
    (try go_bits)
    refine hK _ _ ?_
    clear hK K
    refine wpList_step (fun K hK => ?_)
    go_simp
    (try go_bits)
    refine hK _ _ ?_
    clear hK K
    refine wpList_step (fun K hK => ?_)
    go_simp
    (try go_bits)
    refine hK _ _ ?_
    clear hK K
    refine wpList_nil ?_
    clear hix htm
    repeat ((fail_if_success (with_reducible (show wpList _ _ _ _ _ _))); go_step)
    refine wpList_load (by rfl) 24 _ rfl (uw2.heap.size) rfl 24 (k32 QY) M3.out Try.underlying24 rfl (by rw [k32_size]; kernel_rfl) 22 rfl ?_
    (try simp only [Act.put, sI, sS, sZ])
    first | (obtain ⟨Zq, hZ, mZ⟩ := M2.out) | (obtain ⟨Zq, hZ, mZ⟩ := M2.out.toN (k32_size ..))
    refine wpList_store2 (by rfl) 24 _ _ rfl rfl (w.heap.size + 1) (k32 QY) rfl rfl 24 Zq mZ (by rw [k32_size]; kernel_rfl) (hZ.trans (k32_size ..).symm) (row_one _ _ _) ?_
    intro yw6 hw2
    have kq := M1.out.setRow_other (w.heap.size + 1) (k32 QY) (by omega); rw [← hw2] at kq; clear M1; have M1 := Lib.hid kq; clear kq
    have kq := M3.out.setRow_other (w.heap.size + 1) (k32 QY) (by omega); rw [← hw2] at kq; clear M3; have M3 := Lib.hid kq; clear kq
    have kq := mZ.setRow (k32 QY); rw [← hw2] at kq; clear M2; have M2 := Lib.hid kq; clear kq mZ hZ
    have kq := below_setRow HB.out (w.heap.size + 1) (k32 QY) (by omega); rw [← hw2] at kq; clear HB; have HB := Lib.hid kq; clear kq hw2
    refine wpList_nil ?_
    go_wp2_with fail
    exact bodyPost_ret (v := .agg (k32 QY)) (results_cell_row (t := 24) (by rfl) _ _ (w.heap.size + 1) _ _ _ rfl M2.out Try.underlying24 rfl (by rw [k32_size]; kernel_rfl)) rfl ⟨by rw [HE.out], HB.out⟩
  · have hE := Hodd.out hp
    have htm := dg0_tm QX 1 hp
    obtain ⟨z, hz⟩ : ∃ z, z = dg 4096 QX 0 := ⟨_, rfl⟩
    rw [← hz] at htm hix
    have htm : z.tmod 2 = 1 := htm
    obtain ⟨c, hc, hcl⟩ := dg31_small QY HQl.out
    have hadd := add_128 c hcl
    have hkt := key_top QY HQl.out ((c : Int) + 128) (by rw [hc])
    have HE := Lib.hid hE; clear hE
    have Hp := Lib.hid hp; clear hp
    have Hz := Lib.hid hz; clear hz
    have Hkt := Lib.hid hkt; clear hkt
    have Hc := Lib.hid hc; clear hc
    refine wpList_step (fun K hK => ?_)
    go_simp
    (try go_bits)
    refine hK _ _ ?_
    clear hK K
    refine wpList_loadm (by rfl) 40 _ rfl (w.heap.size) 0 rfl (r22l X) (r22 X) rfl (rp_x M1.out) _ Try.underlying40 rfl (by rw [r22l_len]; kernel_rfl) 11 rfl ?_
    (try simp only [Act.put, sI, sS, sZ])
    refine wpList_step (fun K hK => ?_)
    go_simp
    (try go_bits)
    refine hK _ _ ?_
    clear hK K
    refine wpList_loadm (by rfl) 40 _ rfl (w.heap.size) 44 rfl (r22l Z) (r22 Z) rfl (rp_z M1.out) _ Try.underlying40 rfl (by rw [r22l_len]; kernel_rfl) 13 rfl ?_
    (try simp only [Act.put, sI, sS, sZ])
    refine wpList_call (by rfl) rfl rfl (by rfl) ent43 (by rfl) (Hov2.out _) 14 rfl ?_
    rintro e uw3 ⟨rfl, hb⟩
    replace M1 := Lib.hid (M1.out.call hb)
    replace M2 := Lib.hid (M2.out.call hb)
    replace M3 := Lib.hid (M3.out.call hb)
    replace HB := Lib.hid (held_next HB.out hb)
    refine ⟨_, rfl, ?_⟩
    clear hb
    (try simp only [Act.put, sI, sS, sZ])
    refine wpList_step (fun K hK => ?_)
    go_simp
    (try go_bits)
    refine hK _ _ ?_
    clear hK K
    refine wpList_step (fun K hK => ?_)
    go_simp
    (try go_bits)
    refine hK _ _ ?_
    clear hK K
    refine wpList_step (fun K hK => ?_)
    go_simp
    (try go_bits)
    refine hK _ _ ?_
    clear hK K
    refine wpList_nil ?_
    clear hix htm
    repeat ((fail_if_success (with_reducible (show wpList _ _ _ _ _ _))); go_step)
    have h1 := M3.out.cell 31 (by omega)
    rw [Hc.out] at h1
    have hfz := M3.out.frozen 31
    refine wpList_step (fun K hK => ?_)
    go_simp
    (try go_bits)
    refine hK _ _ ?_
    clear hK K
    refine wpList_step (fun K hK => ?_)
    go_simp
    (try go_bits)
    refine hK _ _ ?_
    clear hK K
    refine wpList_step (fun K hK => ?_)
    go_simp
    (try go_bits)
    refine hK _ _ ?_
    clear hK K
    refine wpList_step (fun K hK => ?_)
    go_simp
    (try go_bits)
    refine hK _ _ ?_
    clear hK K
    refine wpList_step (fun K hK => ?_)
    go_simp
    (try go_bits)
    refine hK _ _ ?_
    clear hK K
    refine wpList_nil ?_
    clear h1 hfz
    have kq := M3.out.set 31 ((c : Int) + 128); rw [Hkt.out] at kq; clear M3; have M3 := Lib.hid kq; clear kq
    have kq := M1.out.other ⟨uw2.heap.size, 31, none⟩ (.int .u8 ((c : Int) + 128)) (by simp <;> omega); clear M1; have M1 := Lib.hid kq; clear kq
    have kq := M2.out.other ⟨uw2.heap.size, 31, none⟩ (.int .u8 ((c : Int) + 128)) (by simp <;> omega); clear M2; have M2 := Lib.hid kq; clear kq
    replace HB := Lib.hid (HB.out.setCell (p := ⟨uw2.heap.size, 31, none⟩) (show w.heap.size ≤ uw2.heap.size by omega) (.int .u8 ((c : Int) + 128)))
    obtain ⟨yw6, hwyw6⟩ : ∃ ww, ww = uw3.setCell ⟨uw2.heap.size, 31, none⟩ (.int .u8 ((c : Int) + 128)) := ⟨_, rfl⟩
    rw [← hwyw6] at M1 M2 M3 HB ⊢
    clear hwyw6
    repeat ((fail_if_success (with_reducible (show wpList _ _ _ _ _ _))); go_step)
    refine wpList_load (by rfl) 24 _ rfl (uw2.heap.size) rfl 24 (k32 (QY + 57896044618658097711785492504343953926634992332820282019728792003956564819968)) M3.out Try.underlying24 rfl (by rw [k32_size]; kernel_rfl) 22 rfl ?_
    (try simp only [Act.put, sI, sS, sZ])
    first | (obtain ⟨Zq, hZ, mZ⟩ := M2.out) | (obtain ⟨Zq, hZ, mZ⟩ := M2.out.toN (k32_size ..))
    refine wpList_store2 (by rfl) 24 _ _ rfl rfl (w.heap.size + 1) (k32 (QY + 57896044618658097711785492504343953926634992332820282019728792003956564819968)) rfl rfl 24 Zq mZ (by rw [k32_size]; kernel_rfl) (hZ.trans (k32_size ..).symm) (row_one _ _ _) ?_
    intro yw7 hw2
    have kq := M1.out.setRow_other (w.heap.size + 1) (k32 (QY + 57896044618658097711785492504343953926634992332820282019728792003956564819968)) (by omega); rw [← hw2] at kq; clear M1; have M1 := Lib.hid kq; clear kq
    have kq := M3.out.setRow_other (w.heap.size + 1) (k32 (QY + 57896044618658097711785492504343953926634992332820282019728792003956564819968)) (by omega); rw [← hw2] at kq; clear M3; have M3 := Lib.hid kq; clear kq
    have kq := mZ.setRow (k32 (QY + 57896044618658097711785492504343953926634992332820282019728792003956564819968)); rw [← hw2] at kq; clear M2; have M2 := Lib.hid kq; clear kq mZ hZ
    have kq := below_setRow HB.out (w.heap.size + 1) (k32 (QY + 57896044618658097711785492504343953926634992332820282019728792003956564819968)) (by omega); rw [← hw2] at kq; clear HB; have HB := Lib.hid kq; clear kq hw2
    refine wpList_nil ?_
    go_wp2_with fail
    exact bodyPost_ret (v := .agg (k32 (QY + 57896044618658097711785492504343953926634992332820282019728792003956564819968))) (results_cell_row (t := 24) (by rfl) _ _ (w.heap.size + 1) _ _ _ rfl M2.out Try.underlying24 rfl (by rw [k32_size]; kernel_rfl)) rfl ⟨by rw [HE.out], HB.out⟩
end Go.Proofs.Ytjiagjonlcadiaa
