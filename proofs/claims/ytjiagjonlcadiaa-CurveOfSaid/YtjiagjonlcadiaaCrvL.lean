/- Chapter 04: which texts are points. -/
import Derived.Test.YtjiagjonlcadiaaCrvK
import Derived.Test.YtjiagjonlcadiaaCrvG
import Derived.Test.YtjiagjonlcadiaaCrvH
namespace Go.Proofs.Ytjiagjonlcadiaa
open Go.RowKit Go.Lib

theorem bes_lt (C : Nat) (ev : Bool) (Y : Nat) (hY : Y < PP) : (bes C ev Y).2.1 < PP ∧ (bes C ev Y).2.2 < PP := by
  unfold bes
  by_cases h : rtok C = true ∧ ¬ (rt3 C = 0 ∧ ev = false)
  · rw [if_pos h]
    refine ⟨?_, hY⟩
    by_cases he : ev = true
    · rw [if_pos he]; exact rt3_lt C
    · rw [if_neg he]; exact Nat.mod_lt _ PP_pos
  · rw [if_neg h]
    have := PP_val
    refine ⟨?_, ?_⟩
    · show 0 < PP; omega
    · show 1 < PP; omega
theorem cof_lt (n : Nat) : (cof n).2.1 < PP ∧ (cof n).2.2 < PP := by
  by_cases h : n % 57896044618658097711785492504343953926634992332820282019728792003956564819968 < PP
  · rw [cof_yes n h]; exact bes_lt _ _ _ h
  · rw [cof_no n h]
    have := PP_val
    refine ⟨?_, ?_⟩
    · show 0 < PP; omega
    · show 1 < PP; omega
theorem keyn_lt (X Y : Nat) (hX : X < PP) (hY : Y < PP) : keyn X Y 1 < 115792089237316195423570985008687907853269984665640564039457584007913129639936 := by
  rw [keyn_one X Y hX hY]
  have := PP_255
  have h2 := Nat.mod_lt X (show 0 < 2 by omega)
  omega
/-- a point's text comes back -/
theorem cof_back (n : Nat) (hn : n < 115792089237316195423570985008687907853269984665640564039457584007913129639936) (h : (cof n).1 = true) : keyn (cof n).2.1 (cof n).2.2 1 = n := by
  obtain ⟨hx, hy⟩ := cof_lt n
  rw [keyn_one _ _ hx hy]
  by_cases hp : n % 57896044618658097711785492504343953926634992332820282019728792003956564819968 < PP
  · rw [cof_yes n hp] at h ⊢
    have hq : n / 57896044618658097711785492504343953926634992332820282019728792003956564819968 = 0 ∨ n / 57896044618658097711785492504343953926634992332820282019728792003956564819968 = 1 := by omega
    have hok : rtok (cx (n % 57896044618658097711785492504343953926634992332820282019728792003956564819968)) = true := by
      cases ho : rtok (cx (n % 57896044618658097711785492504343953926634992332820282019728792003956564819968)) with
      | true => rfl
      | false => rw [bes_no1 _ _ _ ho] at h; cases h
    rcases hq with hq | hq
    · rw [hq, decide_eq_true rfl, bes_even _ _ hok]
      show n % 57896044618658097711785492504343953926634992332820282019728792003956564819968 + rt3 _ % 2 * 57896044618658097711785492504343953926634992332820282019728792003956564819968 = n
      rw [rt3_even]; omega
    · rw [hq, decide_eq_false (by decide)] at h ⊢
      have h0 : ¬ rt3 (cx (n % 57896044618658097711785492504343953926634992332820282019728792003956564819968)) = 0 := by
        intro h0
        rw [bes_no2 _ _ h0] at h; cases h
      rw [bes_odd _ _ hok h0]
      show n % 57896044618658097711785492504343953926634992332820282019728792003956564819968 + (0 % PP + (PP - rt3 _)) % PP % 2 * 57896044618658097711785492504343953926634992332820282019728792003956564819968 = n
      have he := rt3_even (cx (n % 57896044618658097711785492504343953926634992332820282019728792003956564819968))
      have hl := rt3_lt (cx (n % 57896044618658097711785492504343953926634992332820282019728792003956564819968))
      have ho := PP_odd
      obtain ⟨r, hr⟩ : ∃ r, r = rt3 (cx (n % 57896044618658097711785492504343953926634992332820282019728792003956564819968)) := ⟨_, rfl⟩
      rw [← hr] at he hl h0 ⊢
      rw [Nat.zero_mod, Nat.zero_add, Nat.mod_eq_of_lt (show PP - r < PP by omega), show (PP - r) % 2 = 1 by omega]
      omega
  · rw [cof_no n hp] at h; cases h
set_option maxRecDepth 100000 in
set_option linter.unusedSimpArgs false in
set_option maxHeartbeats 8000000 in
theorem law_curveOf (n : Nat) (hn : n < 115792089237316195423570985008687907853269984665640564039457584007913129639936) (w : World) :
    Calls Try.prog 12 #[.agg (k32 n)] w fun e w' => e = .returned (.bool true) ∧ Below w.heap.size w w' := by
  have hal := law4_alive
  have hof := fun w => pof_any n hn w
  have hro := fun w => rofp_any n hn w
  obtain ⟨hXl, hYl⟩ := cof_lt n
  have hbk := cof_back n hn
  unfold BeP at hof
  obtain ⟨ok, hok⟩ : ∃ b, b = (cof n).1 := ⟨_, rfl⟩
  obtain ⟨X, hX⟩ : ∃ b, b = (cof n).2.1 := ⟨_, rfl⟩
  obtain ⟨Y, hY⟩ : ∃ b, b = (cof n).2.2 := ⟨_, rfl⟩
  simp only [← hok, ← hX, ← hY] at hof hro hXl hYl hbk
  rw [one_PP] at hof
  have hpk := fun x y z b h w => pkey_any x y z b X Y 1 h w
  have hrk := fun w => rkeyp_any X Y 1 (X * Y % PP) hXl hYl (by have := PP_val; omega) w
  have hkl := keyn_lt X Y hXl hYl
  obtain ⟨K, hK⟩ : ∃ k, k = keyn X Y 1 := ⟨_, rfl⟩
  obtain ⟨T, hT⟩ : ∃ t, t = X * Y % PP := ⟨_, rfl⟩
  rw [← hK] at hbk hkl
  simp only [← hK, ← hT] at hpk hrk hro
  have heq := fun w => k32_same K hkl w
  clear hok hX hY hXl hYl hkl hK hT
  have Hal := Lib.hid hal; clear hal
  have Hof := Lib.hid hof; clear hof
  have Hro := Lib.hid hro; clear hro
  have Hpk := Lib.hid hpk; clear hpk
  have Hrk := Lib.hid hrk; clear hrk
  have Hbk := Lib.hid hbk; clear hbk
  have Heq := Lib.hid heq; clear heq
  go_enter Try.func12, Try.ntmps12
  repeat ((fail_if_success (with_reducible (show wpList _ _ _ _ _ _))); go_step)
  refine wpList_step (fun K hK => ?_)
  go_simp
  (try go_bits)
  refine hK _ _ ?_
  clear hK K
  refine wpList_step (fun K hK => ?_)
  go_simp
  (try go_bits)
  refine hK _ _ ?_
  clear hK K
  refine wpList_nil ?_
  have M1 := Lib.hid (Has.new w  (k32 n) 24)
  have HB := Lib.hid (below_1 w (.cells (k32 n) 24))
  obtain ⟨yw1, hwyw1⟩ : ∃ ww, ww = (w.alloc (.cells (k32 n) 24)) := ⟨_, rfl⟩
  rw [← hwyw1] at M1 HB ⊢
  clear hwyw1
  repeat ((fail_if_success (with_reducible (show wpList _ _ _ _ _ _))); go_step)
  refine wpList_call (by rfl) rfl rfl (by rfl) ent46 (by rfl) (Hal.out _) 7 rfl ?_
  rintro e uw1 ⟨rfl, hb⟩
  replace M1 := Lib.hid (M1.out.call hb)
  replace HB := Lib.hid (held_next HB.out hb)
  refine ⟨_, rfl, ?_⟩
  clear hb
  (try simp only [Act.put, sI, sS, sZ])
  refine wpList_step (fun K hK => ?_)
  go_simp
  (try go_bits)
  refine hK _ _ ?_
  clear hK K
  refine wpList_nil ?_
  repeat ((fail_if_success (with_reducible (show wpList _ _ _ _ _ _))); go_step)
  refine wpList_load (by rfl) 24 _ rfl (w.heap.size) rfl 24 (k32 n) M1.out Try.underlying24 rfl (by rw [k32_size]; kernel_rfl) 10 rfl ?_
  (try simp only [Act.put, sI, sS, sZ])
  refine wpList_call (by rfl) rfl rfl (by rfl) ent47 (by rfl) (Hof.out _) 11 rfl ?_
  rintro e uw2 ⟨px, py, pz, pb, hpt, rfl, hb⟩
  replace M1 := Lib.hid (M1.out.call hb)
  replace HB := Lib.hid (held_next HB.out hb)
  refine ⟨_, rfl, ?_⟩
  clear hb
  (try simp only [Act.put, sI, sS, sZ])
  refine wpList_step (fun K hK => ?_)
  go_simp
  (try go_bits)
  refine hK _ _ ?_
  clear hK K
  refine wpList_step (fun K hK => ?_)
  go_simp
  (try go_bits)
  refine hK _ _ ?_
  clear hK K
  refine wpList_step (fun K hK => ?_)
  go_simp
  (try go_bits)
  refine hK _ _ ?_
  clear hK K
  refine wpList_alloc (by rfl) 53 rfl _ al53 3 rfl ?_
  intro yw2 hw2
  have hlt3 := M1.out.lt
  have hsz := HB.out.size
  have kq := M1.out.alloc (.cells z53 53); rw [← hw2] at kq; clear M1; have M1 := Lib.hid kq; clear kq
  have kq := HasN.new uw2 z53 53 13 (by kernel_rfl); rw [← hw2] at kq; have M3 := Lib.hid kq; clear kq
  have kq := HB.out.alloc hsz (.cells z53 53); rw [← hw2] at kq; clear HB; have HB := Lib.hid kq; clear kq hw2
  (try simp only [Act.put, sI, sS, sZ])
  first | (obtain ⟨Zq, hZ, mZ⟩ := M3.out) | (obtain ⟨Zq, hZ, mZ⟩ := M3.out.toN (pt_size ..))
  refine wpList_store2 (by rfl) 53 _ _ rfl rfl (uw2.heap.size) (pt px py pz pb) rfl rfl 53 Zq mZ (by rw [pt_size]; kernel_rfl) (hZ.trans (pt_size ..).symm) (pt_one _ _ _ _) ?_
  intro yw4 hw2
  have kq := M1.out.setRow_other (uw2.heap.size) (pt px py pz pb) (by omega); rw [← hw2] at kq; clear M1; have M1 := Lib.hid kq; clear kq
  have kq := mZ.setRow (pt px py pz pb); rw [← hw2] at kq; clear M3; have M3 := Lib.hid kq; clear kq mZ hZ
  have kq := below_setRow HB.out (uw2.heap.size) (pt px py pz pb) (by omega); rw [← hw2] at kq; clear HB; have HB := Lib.hid kq; clear kq hw2
  refine wpList_step (fun K hK => ?_)
  go_simp
  (try go_bits)
  refine hK _ _ ?_
  clear hK K
  refine wpList_nil ?_
  have Hpt := Lib.hid hpt; clear hpt
  repeat ((fail_if_success (with_reducible (show wpList _ _ _ _ _ _))); go_step)
  refine wpList_load (by rfl) 24 _ rfl (w.heap.size) rfl 24 (k32 n) M1.out Try.underlying24 rfl (by rw [k32_size]; kernel_rfl) 15 rfl ?_
  (try simp only [Act.put, sI, sS, sZ])
  refine wpList_call (by rfl) rfl rfl (by rfl) ent48 (by rfl) (Hro.out _) 16 rfl ?_
  rintro e uw3 ⟨rfl, hb⟩
  replace M1 := Lib.hid (M1.out.call hb)
  replace M3 := Lib.hid (M3.out.call hb)
  replace HB := Lib.hid (held_next HB.out hb)
  refine ⟨_, rfl, ?_⟩
  clear hb
  (try simp only [Act.put, sI, sS, sZ])
  refine wpList_step (fun K hK => ?_)
  go_simp
  (try go_bits)
  refine hK _ _ ?_
  clear hK K
  refine wpList_step (fun K hK => ?_)
  go_simp
  (try go_bits)
  refine hK _ _ ?_
  clear hK K
  refine wpList_step (fun K hK => ?_)
  go_simp
  (try go_bits)
  refine hK _ _ ?_
  clear hK K
  refine wpList_alloc (by rfl) 57 rfl _ al57 5 rfl ?_
  intro yw5 hw2
  have hlt6 := M1.out.lt
  have hlt7 := M3.out.lt
  have hsz := HB.out.size
  have kq := M1.out.alloc (.cells Try.zeroCells57 57); rw [← hw2] at kq; clear M1; have M1 := Lib.hid kq; clear kq
  have kq := M3.out.alloc (.cells Try.zeroCells57 57); rw [← hw2] at kq; clear M3; have M3 := Lib.hid kq; clear kq
  have kq := HasN.new uw3 Try.zeroCells57 57 88 (by kernel_rfl); rw [← hw2] at kq; have M5 := Lib.hid kq; clear kq
  have kq := HB.out.alloc hsz (.cells Try.zeroCells57 57); rw [← hw2] at kq; clear HB; have HB := Lib.hid kq; clear kq hw2
  (try simp only [Act.put, sI, sS, sZ])
  first | (obtain ⟨Zq, hZ, mZ⟩ := M5.out) | (obtain ⟨Zq, hZ, mZ⟩ := M5.out.toN (rp_size ..))
  refine wpList_store2 (by rfl) 57 _ _ rfl rfl (uw3.heap.size) (rp X Y 1 T) rfl rfl 57 Zq mZ (by rw [rp_size]; kernel_rfl) (hZ.trans (rp_size ..).symm) (rp_one _ _ _ _) ?_
  intro yw8 hw2
  have kq := M1.out.setRow_other (uw3.heap.size) (rp X Y 1 T) (by omega); rw [← hw2] at kq; clear M1; have M1 := Lib.hid kq; clear kq
  have kq := M3.out.setRow_other (uw3.heap.size) (rp X Y 1 T) (by omega); rw [← hw2] at kq; clear M3; have M3 := Lib.hid kq; clear kq
  have kq := mZ.setRow (rp X Y 1 T); rw [← hw2] at kq; clear M5; have M5 := Lib.hid kq; clear kq mZ hZ
  have kq := below_setRow HB.out (uw3.heap.size) (rp X Y 1 T) (by omega); rw [← hw2] at kq; clear HB; have HB := Lib.hid kq; clear kq hw2
  refine wpList_step (fun K hK => ?_)
  go_simp
  (try go_bits)
  refine hK _ _ ?_
  clear hK K
  refine wpList_nil ?_
  repeat ((fail_if_success (with_reducible (show wpList _ _ _ _ _ _))); go_step)
  have heq := Heq.out
  cases ok
  · refine wp_region_noPanic ?_
    refine wp_region_go 99 21 #[false, false, false, false, false, false, false, false, false, false, false, false, false, false, false, false, false, false, false, false, false] (by kernel_rfl) rfl rfl ?_
    intro W9 hW9
    have kq := M1.out; rw [← hW9] at kq; clear M1; have M1 := Lib.hid kq; clear kq
    have kq := M3.out; rw [← hW9] at kq; clear M3; have M3 := Lib.hid kq; clear kq
    have kq := M5.out; rw [← hW9] at kq; clear M5; have M5 := Lib.hid kq; clear kq
    have kq := HB.out; rw [← hW9] at kq; clear HB; have HB := Lib.hid kq; clear kq
    clear hW9
    refine go_take2 0 19 #[true, false, false, false, false, false, false, false, false, false, false, false, false, false, false, false, false, false, false, false, false] (v := ?uv1) rfl rfl rfl (by kernel_rfl) (Or.inl ⟨by rfl, ?uy1⟩) ((below_dr W9)) ?urest1
    case uy1 => (intro _ _; go_simp; try with_reducible rfl)
    (try simp only [sI, sS, sZ])
    refine go_take2 1 20 #[true, true, false, false, false, false, false, false, false, false, false, false, false, false, false, false, false, false, false, false, false] (v := ?uv2) rfl rfl rfl (by kernel_rfl) (Or.inl ⟨by rfl, ?uy2⟩) ((below_dr W9)) ?urest2
    case uy2 => (intro _ _; go_simp; try with_reducible rfl)
    (try simp only [sI, sS, sZ])
    refine go_take2 2 21 #[true, true, true, false, false, false, false, false, false, false, false, false, false, false, false, false, false, false, false, false, false] (v := ?uv3) rfl rfl rfl (by kernel_rfl) (Or.inl ⟨by rfl, ?uy3⟩) ((below_dr W9)) ?urest3
    case uy3 => (intro _ _; go_simp; try with_reducible rfl)
    (try simp only [sI, sS, sZ])
    refine go_take2 3 22 #[true, true, true, true, false, false, false, false, false, false, false, false, false, false, false, false, false, false, false, false, false] (v := ?uv4) rfl rfl rfl (by kernel_rfl) (Or.inl ⟨by rfl, ?uy4⟩) ((below_dr W9)) ?urest4
    case uy4 => (intro _ _; go_simp; try with_reducible rfl)
    (try simp only [sI, sS, sZ])
    refine go_take2 4 23 #[true, true, true, true, true, false, false, false, false, false, false, false, false, false, false, false, false, false, false, false, false] rfl rfl rfl (by kernel_rfl) (yieldsIf_load_row (by rfl) 53 _ rfl (uw2.heap.size) rfl 53 (pt px py pz pb) (fun _ h => M3.out.below h M3.out.lt) Try.underlying53 rfl (by rw [pt_size]; kernel_rfl)) ((below_dr W9)) ?_
    (try simp only [sI, sS, sZ])
    refine go_take2 6 25 #[true, true, true, true, true, false, true, false, false, false, false, false, false, false, false, false, false, false, false, false, false] rfl rfl rfl (by kernel_rfl) (yieldsIf_load_row (by rfl) 57 _ rfl (uw3.heap.size) rfl 57 (rp X Y 1 T) (fun _ h => M5.out.below h M5.out.lt) Try.underlying57 rfl (by rw [rp_size]; kernel_rfl)) ((below_dr W9)) ?_
    (try simp only [sI, sS, sZ])
    refine wpBut_r1 (i := 5) (by kernel_rfl) ?_
    refine go_call 5 24 #[true, true, true, true, true, true, true, false, false, false, false, false, false, false, false, false, false, false, false, false, false] rfl rfl rfl (by rfl) rfl rfl (by rfl) ent49 (by rfl) (Hpk.out px py pz pb Hpt.out _) ?_
    rintro e wW91 ⟨rfl, hb⟩
    have hkW91 := held_next (below_dr W9) hb
    refine ⟨_, rfl, fun _ => hkW91, ?_⟩
    clear hb
    (try simp only [sI, sS, sZ])
    refine wpBut_r1 (i := 7) (by kernel_rfl) ?_
    refine go_call 7 26 #[true, true, true, true, true, true, true, true, false, false, false, false, false, false, false, false, false, false, false, false, false] rfl rfl rfl (by rfl) rfl rfl (by rfl) ent50 (by rfl) (Hrk.out _) ?_
    rintro e wW92 ⟨rfl, hb⟩
    have hkW92 := held_next hkW91 hb
    refine ⟨_, rfl, fun _ => hkW92, ?_⟩
    clear hb
    (try simp only [sI, sS, sZ])
    refine go_take2 8 27 #[true, true, true, true, true, true, true, true, true, false, false, false, false, false, false, false, false, false, false, false, false] (v := ?uv5) rfl rfl rfl (by kernel_rfl) (Or.inl ⟨by rfl, ?uy5⟩) (hkW92) ?urest5
    case uy5 => (intro _ _; go_simp; try with_reducible rfl)
    (try simp only [sI, sS, sZ])
    refine go_take2 9 28 #[true, true, true, true, true, true, true, true, true, true, false, false, false, false, false, false, false, false, false, false, false] (v := ?uv6) rfl rfl rfl (by kernel_rfl) (Or.inl ⟨by rfl, ?uy6⟩) (hkW92) ?urest6
    case uy6 => (intro _ _; go_simp; try with_reducible rfl)
    (try simp only [sI, sS, sZ])
    refine go_take2 10 29 #[true, true, true, true, true, true, true, true, true, true, true, false, false, false, false, false, false, false, false, false, false] (v := ?uv7) rfl rfl rfl (by kernel_rfl) (Or.inl ⟨by rfl, ?uy7⟩) (hkW92) ?urest7
    case uy7 => (intro _ _; go_simp; try with_reducible rfl)
    (try simp only [sI, sS, sZ])
    refine go_take2 11 30 #[true, true, true, true, true, true, true, true, true, true, true, true, false, false, false, false, false, false, false, false, false] (v := ?uv8) rfl rfl rfl (by kernel_rfl) (Or.inl ⟨by rfl, ?uy8⟩) (hkW92) ?urest8
    case uy8 => (intro _ _; go_simp; try with_reducible rfl)
    (try simp only [sI, sS, sZ])
    refine go_take2 12 31 #[true, true, true, true, true, true, true, true, true, true, true, true, true, false, false, false, false, false, false, false, false] (v := ?uv9) rfl rfl rfl (by kernel_rfl) (Or.inl ⟨by rfl, ?uy9⟩) (hkW92) ?urest9
    case uy9 => (intro _ _; go_simp; try with_reducible rfl)
    (try simp only [sI, sS, sZ])
    refine go_take2 13 32 #[true, true, true, true, true, true, true, true, true, true, true, true, true, true, false, false, false, false, false, false, false] (v := ?uv10) rfl rfl rfl (by kernel_rfl) (Or.inl ⟨by rfl, ?uy10⟩) (hkW92) ?urest10
    case uy10 => (intro _ _; go_simp; try with_reducible rfl)
    (try simp only [sI, sS, sZ])
    refine go_take2 14 33 #[true, true, true, true, true, true, true, true, true, true, true, true, true, true, true, false, false, false, false, false, false] (v := undef) rfl rfl rfl (by kernel_rfl) (Or.inr ⟨by rfl, rfl⟩) (hkW92) ?_
    (try simp only [sI, sS, sZ])
    refine go_take2 15 34 #[true, true, true, true, true, true, true, true, true, true, true, true, true, true, true, true, false, false, false, false, false] (v := undef) rfl rfl rfl (by kernel_rfl) (Or.inr ⟨by rfl, rfl⟩) (hkW92) ?_
    (try simp only [sI, sS, sZ])
    refine go_take2 16 35 #[true, true, true, true, true, true, true, true, true, true, true, true, true, true, true, true, true, false, false, false, false] (v := undef) rfl rfl rfl (by kernel_rfl) (Or.inr ⟨by rfl, rfl⟩) (hkW92) ?_
    (try simp only [sI, sS, sZ])
    refine go_take2 17 36 #[true, true, true, true, true, true, true, true, true, true, true, true, true, true, true, true, true, true, false, false, false] (v := undef) rfl rfl rfl (by kernel_rfl) (Or.inr ⟨by rfl, rfl⟩) (hkW92) ?_
    (try simp only [sI, sS, sZ])
    refine go_take2 18 37 #[true, true, true, true, true, true, true, true, true, true, true, true, true, true, true, true, true, true, true, false, false] (v := ?uv11) rfl rfl rfl (by kernel_rfl) (Or.inl ⟨by rfl, ?uy11⟩) (hkW92) ?urest11
    case uy11 => (intro _ _; go_simp; try with_reducible rfl)
    (try simp only [sI, sS, sZ])
    refine go_take2 19 38 #[true, true, true, true, true, true, true, true, true, true, true, true, true, true, true, true, true, true, true, true, false] (v := ?uv12) rfl rfl rfl (by kernel_rfl) (Or.inl ⟨by rfl, ?uy12⟩) (hkW92) ?urest12
    case uy12 => (intro _ _; go_simp; try with_reducible rfl)
    (try simp only [sI, sS, sZ])
    refine go_take2 20 2 #[true, true, true, true, true, true, true, true, true, true, true, true, true, true, true, true, true, true, true, true, true] (v := ?uv13) rfl rfl rfl (by kernel_rfl) (Or.inl ⟨by rfl, ?uy13⟩) (hkW92) ?urest13
    case uy13 => (intro _ _; go_simp; try with_reducible rfl)
    (try simp only [sI, sS, sZ])
    refine wpBut_done (by kernel_rfl) (NoPanic.normal ?_)
    replace M1 := Lib.hid (M1.out.call hkW92)
    replace M3 := Lib.hid (M3.out.call hkW92)
    replace M5 := Lib.hid (M5.out.call hkW92)
    replace HB := Lib.hid (held_next HB.out hkW92)
    go_wp2_with fail
    go_ret
    exact ⟨rfl, HB.out⟩
  · have hKn := (Hbk.out rfl).symm
    subst hKn
    refine wp_region_noPanic ?_
    refine wp_region_go 99 21 #[false, false, false, false, false, false, false, false, false, false, false, false, false, false, false, false, false, false, false, false, false] (by kernel_rfl) rfl rfl ?_
    intro W9 hW9
    have kq := M1.out; rw [← hW9] at kq; clear M1; have M1 := Lib.hid kq; clear kq
    have kq := M3.out; rw [← hW9] at kq; clear M3; have M3 := Lib.hid kq; clear kq
    have kq := M5.out; rw [← hW9] at kq; clear M5; have M5 := Lib.hid kq; clear kq
    have kq := HB.out; rw [← hW9] at kq; clear HB; have HB := Lib.hid kq; clear kq
    clear hW9
    refine go_take2 0 19 #[true, false, false, false, false, false, false, false, false, false, false, false, false, false, false, false, false, false, false, false, false] (v := ?uv14) rfl rfl rfl (by kernel_rfl) (Or.inl ⟨by rfl, ?uy14⟩) ((below_dr W9)) ?urest14
    case uy14 => (intro _ _; go_simp; try with_reducible rfl)
    (try simp only [sI, sS, sZ])
    refine go_take2 1 20 #[true, true, false, false, false, false, false, false, false, false, false, false, false, false, false, false, false, false, false, false, false] (v := ?uv15) rfl rfl rfl (by kernel_rfl) (Or.inl ⟨by rfl, ?uy15⟩) ((below_dr W9)) ?urest15
    case uy15 => (intro _ _; go_simp; try with_reducible rfl)
    (try simp only [sI, sS, sZ])
    refine go_take2 2 21 #[true, true, true, false, false, false, false, false, false, false, false, false, false, false, false, false, false, false, false, false, false] (v := ?uv16) rfl rfl rfl (by kernel_rfl) (Or.inl ⟨by rfl, ?uy16⟩) ((below_dr W9)) ?urest16
    case uy16 => (intro _ _; go_simp; try with_reducible rfl)
    (try simp only [sI, sS, sZ])
    refine go_take2 3 22 #[true, true, true, true, false, false, false, false, false, false, false, false, false, false, false, false, false, false, false, false, false] (v := ?uv17) rfl rfl rfl (by kernel_rfl) (Or.inl ⟨by rfl, ?uy17⟩) ((below_dr W9)) ?urest17
    case uy17 => (intro _ _; go_simp; try with_reducible rfl)
    (try simp only [sI, sS, sZ])
    refine go_take2 4 23 #[true, true, true, true, true, false, false, false, false, false, false, false, false, false, false, false, false, false, false, false, false] rfl rfl rfl (by kernel_rfl) (yieldsIf_load_row (by rfl) 53 _ rfl (uw2.heap.size) rfl 53 (pt px py pz pb) (fun _ h => M3.out.below h M3.out.lt) Try.underlying53 rfl (by rw [pt_size]; kernel_rfl)) ((below_dr W9)) ?_
    (try simp only [sI, sS, sZ])
    refine go_take2 6 25 #[true, true, true, true, true, false, true, false, false, false, false, false, false, false, false, false, false, false, false, false, false] rfl rfl rfl (by kernel_rfl) (yieldsIf_load_row (by rfl) 57 _ rfl (uw3.heap.size) rfl 57 (rp X Y 1 T) (fun _ h => M5.out.below h M5.out.lt) Try.underlying57 rfl (by rw [rp_size]; kernel_rfl)) ((below_dr W9)) ?_
    (try simp only [sI, sS, sZ])
    refine wpBut_r1 (i := 5) (by kernel_rfl) ?_
    refine go_call 5 24 #[true, true, true, true, true, true, true, false, false, false, false, false, false, false, false, false, false, false, false, false, false] rfl rfl rfl (by rfl) rfl rfl (by rfl) ent49 (by rfl) (Hpk.out px py pz pb Hpt.out _) ?_
    rintro e wW91 ⟨rfl, hb⟩
    have hkW91 := held_next (below_dr W9) hb
    refine ⟨_, rfl, fun _ => hkW91, ?_⟩
    clear hb
    (try simp only [sI, sS, sZ])
    refine wpBut_r1 (i := 7) (by kernel_rfl) ?_
    refine go_call 7 26 #[true, true, true, true, true, true, true, true, false, false, false, false, false, false, false, false, false, false, false, false, false] rfl rfl rfl (by rfl) rfl rfl (by rfl) ent50 (by rfl) (Hrk.out _) ?_
    rintro e wW92 ⟨rfl, hb⟩
    have hkW92 := held_next hkW91 hb
    refine ⟨_, rfl, fun _ => hkW92, ?_⟩
    clear hb
    (try simp only [sI, sS, sZ])
    refine go_take2 8 27 #[true, true, true, true, true, true, true, true, true, false, false, false, false, false, false, false, false, false, false, false, false] (v := ?uv18) rfl rfl rfl (by kernel_rfl) (Or.inl ⟨by rfl, ?uy18⟩) (hkW92) ?urest18
    case uy18 => (intro _ _; go_simp; try with_reducible rfl)
    (try simp only [sI, sS, sZ])
    refine go_take2 9 28 #[true, true, true, true, true, true, true, true, true, true, false, false, false, false, false, false, false, false, false, false, false] (v := ?uv19) rfl rfl rfl (by kernel_rfl) (Or.inl ⟨by rfl, ?uy19⟩) (hkW92) ?urest19
    case uy19 => (intro _ _; go_simp; try with_reducible rfl)
    (try simp only [sI, sS, sZ])
    refine go_take2 10 29 #[true, true, true, true, true, true, true, true, true, true, true, false, false, false, false, false, false, false, false, false, false] (v := ?uv20) rfl rfl rfl (by kernel_rfl) (Or.inl ⟨by rfl, ?uy20⟩) (hkW92) ?urest20
    case uy20 => (intro _ _; go_simp; try with_reducible rfl)
    (try simp only [sI, sS, sZ])
    refine go_take2 11 30 #[true, true, true, true, true, true, true, true, true, true, true, true, false, false, false, false, false, false, false, false, false] (v := ?uv21) rfl rfl rfl (by kernel_rfl) (Or.inl ⟨by rfl, ?uy21⟩) (hkW92) ?urest21
    case uy21 => (intro _ _; go_simp; try with_reducible rfl)
    (try simp only [sI, sS, sZ])
    refine go_take2 12 31 #[true, true, true, true, true, true, true, true, true, true, true, true, true, false, false, false, false, false, false, false, false] (v := ?uv22) rfl rfl rfl (by kernel_rfl) (Or.inl ⟨by rfl, ?uy22⟩) (hkW92) ?urest22
    case uy22 => (intro _ _; go_simp; try with_reducible rfl)
    (try simp only [sI, sS, sZ])
    refine go_take2 13 32 #[true, true, true, true, true, true, true, true, true, true, true, true, true, true, false, false, false, false, false, false, false] (v := ?uv23) rfl rfl rfl (by kernel_rfl) (Or.inl ⟨by rfl, ?uy23⟩) (hkW92) ?urest23
    case uy23 => (intro _ _; go_simp; try with_reducible rfl)
    (try simp only [sI, sS, sZ])
    refine go_take2 14 33 #[true, true, true, true, true, true, true, true, true, true, true, true, true, true, true, false, false, false, false, false, false] rfl rfl rfl (by kernel_rfl) (yieldsIf_load_row (by rfl) 53 _ rfl (uw2.heap.size) rfl 53 (pt px py pz pb) (fun _ h => M3.out.below h M3.out.lt) Try.underlying53 rfl (by rw [pt_size]; kernel_rfl)) (hkW92) ?_
    (try simp only [sI, sS, sZ])
    refine go_take2 16 35 #[true, true, true, true, true, true, true, true, true, true, true, true, true, true, true, false, true, false, false, false, false] rfl rfl rfl (by kernel_rfl) (yieldsIf_load_row (by rfl) 24 _ rfl (w.heap.size) rfl 24 (k32 n) (fun _ h => M1.out.below h M1.out.lt) Try.underlying24 rfl (by rw [k32_size]; kernel_rfl)) (hkW92) ?_
    (try simp only [sI, sS, sZ])
    refine wpBut_r1 (i := 15) (by kernel_rfl) ?_
    refine go_call 15 34 #[true, true, true, true, true, true, true, true, true, true, true, true, true, true, true, true, true, false, false, false, false] rfl rfl rfl (by rfl) rfl rfl (by rfl) ent49 (by rfl) (Hpk.out px py pz pb Hpt.out _) ?_
    rintro e wW93 ⟨rfl, hb⟩
    have hkW93 := held_next hkW92 hb
    refine ⟨_, rfl, fun _ => hkW93, ?_⟩
    clear hb
    (try simp only [sI, sS, sZ])
    refine go_take2 17 36 #[true, true, true, true, true, true, true, true, true, true, true, true, true, true, true, true, true, true, false, false, false] (v := ?uv24) rfl rfl rfl (by kernel_rfl) (Or.inl ⟨by rfl, ?uy24⟩) (hkW93) ?urest24
    case uy24 => (intro _ _; go_simp; try with_reducible rfl)
    (try simp only [sI, sS, sZ])
    refine go_take2 18 37 #[true, true, true, true, true, true, true, true, true, true, true, true, true, true, true, true, true, true, true, false, false] (v := ?uv25) rfl rfl rfl (by kernel_rfl) (Or.inl ⟨by rfl, ?uy25⟩) (hkW93) ?urest25
    case uy25 => (intro _ _; go_simp; try with_reducible rfl)
    (try simp only [sI, sS, sZ])
    refine go_take2 19 38 #[true, true, true, true, true, true, true, true, true, true, true, true, true, true, true, true, true, true, true, true, false] (v := ?uv26) rfl rfl rfl (by kernel_rfl) (Or.inl ⟨by rfl, ?uy26⟩) (hkW93) ?urest26
    case uy26 => (intro _ _; go_simp; try with_reducible rfl)
    (try simp only [sI, sS, sZ])
    refine go_take2 20 2 #[true, true, true, true, true, true, true, true, true, true, true, true, true, true, true, true, true, true, true, true, true] (v := ?uv27) rfl rfl rfl (by kernel_rfl) (Or.inl ⟨by rfl, ?uy27⟩) (hkW93) ?urest27
    case uy27 => (intro _ _; go_simp; try with_reducible rfl)
    (try simp only [sI, sS, sZ])
    refine wpBut_done (by kernel_rfl) (NoPanic.normal ?_)
    replace M1 := Lib.hid (M1.out.call hkW93)
    replace M3 := Lib.hid (M3.out.call hkW93)
    replace M5 := Lib.hid (M5.out.call hkW93)
    replace HB := Lib.hid (held_next HB.out hkW93)
    go_wp2_with fail
    go_ret
    exact ⟨rfl, HB.out⟩
end Go.Proofs.Ytjiagjonlcadiaa
