/- The program's field: power, the walk. -/
import Derived.Test.YtjiagjonlcadiaaFldJ
namespace Go.Proofs.Ytjiagjonlcadiaa
open Go.RowKit Go.Lib

set_option maxRecDepth 100000 in
set_option linter.unusedSimpArgs false in
set_option maxHeartbeats 8000000 in
theorem power_any (a : Nat) (ha : a < 115792089237316195423570985008687907853269984665640564039457584007913129639936) (w : World) :
    Calls Try.prog 84 #[.agg (e4 a)] w (ElP (pwm a 1809251394333065553493296640760748560207343510400633813116524750123642650623) w) := by
  have hg1 := fun w => grow_1 a ha w
  have hg2 := grow_2
  have hg5 := grow_5
  have hg10 := grow_10
  have hg20 := grow_20
  have hg50 := grow_50
  have hg100 := grow_100
  have hs1 := squares_1
  have hs10 := squares_10
  have hs50 := squares_50
  have ht := fun x y hx hy w => times_any x y hx hy w
  have hp5 := p_five a
  have hp50 := p_fifty a
  have hpa := p_all a
  have hgo := pw_go a
  have Hg1 := Lib.hid hg1; clear hg1
  have Hg2 := Lib.hid hg2; clear hg2
  have Hs1 := Lib.hid hs1; clear hs1
  have Ht := Lib.hid ht; clear ht
  have Ha := Lib.hid ha; clear ha
  have Hp5 := Lib.hid hp5; clear hp5
  have Hg5 := Lib.hid hg5; clear hg5
  have Hg10 := Lib.hid hg10; clear hg10
  have Hg20 := Lib.hid hg20; clear hg20
  have Hg50 := Lib.hid hg50; clear hg50
  have Hg100 := Lib.hid hg100; clear hg100
  have Hs10 := Lib.hid hs10; clear hs10
  have Hs50 := Lib.hid hs50; clear hs50
  have Hp50 := Lib.hid hp50; clear hp50
  have Hpa := Lib.hid hpa; clear hpa
  have Hgo := Lib.hid hgo; clear hgo
  go_enter Try.func84, Try.ntmps84
  go_wp2_with fail
  refine wp_region_meet (α := Nat × Nat × Nat × Nat × Nat) (fun W0 x w' => x.2.2.2.2 < 115792089237316195423570985008687907853269984665640564039457584007913129639936 ∧ x.2.2.2.2 % PP = pwm a 31 ∧ W0.heap.size ≤ x.1 ∧ Has w' x.1 (e4 x.2.2.2.2) 36 ∧ Below W0.heap.size W0 w') (fun ac x => ((((((((ac.put (some 9) (.func (.func 110) #[] #[])).put (some 10) (.func (.func 110) #[] #[])).put (some 11) (.agg (e4 a))).put (some 12) (.agg (e4 x.2.1))).put (some 13) (.agg (e4 x.2.2.1))).put (some 14) (.agg (e4 x.2.2.2.1))).put (some 15) (.agg (e4 a))).put (some 16) (.agg (e4 x.2.2.2.2))).put (some 4) (.pointer (some ⟨x.1, 0, none⟩))) ?_ ?_
  · intro Q' hQ'
    refine wp_region_noPanic ?_
    refine wp_region_go 99 10 #[false, false, false, false, false, false, false, false, false, false] (by kernel_rfl) rfl rfl ?_
    intro W0 hW0
    have N0 := Lib.hid (show Has W0 w.heap.size (e4 a) 36 by rw [hW0]; exact (Has.new _ _ _).alloc _)
    rw [← hW0] at hQ'
    simp only [Act.put, List.setIfInBounds_toArray, List.set_cons_succ, List.set_cons_zero] at hQ'
    have HQ := Lib.hid hQ'; clear hQ' hW0
    refine go_take2 0 9 #[true, false, false, false, false, false, false, false, false, false] (v := ?uv1) rfl rfl rfl (by kernel_rfl) (Or.inl ⟨by rfl, ?uy1⟩) ((below_dr W0)) ?urest1
    case uy1 => (intro _ _; go_simp; try with_reducible rfl)
    (try simp only [sI, sS, sZ])
    refine go_take2 1 10 #[true, true, false, false, false, false, false, false, false, false] (v := ?uv2) rfl rfl rfl (by kernel_rfl) (Or.inl ⟨by rfl, ?uy2⟩) ((below_dr W0)) ?urest2
    case uy2 => (intro _ _; go_simp; try with_reducible rfl)
    (try simp only [sI, sS, sZ])
    refine go_take2 2 11 #[true, true, true, false, false, false, false, false, false, false] rfl rfl rfl (by kernel_rfl) (yieldsIf_load_row (by rfl) 36 _ rfl (w.heap.size) rfl 36 (e4 a) (fun _ h => N0.out.below h N0.out.lt) Try.underlying36 rfl (by rw [e4_size]; kernel_rfl)) ((below_dr W0)) ?_
    (try simp only [sI, sS, sZ])
    refine go_take2 6 15 #[true, true, true, false, false, false, true, false, false, false] rfl rfl rfl (by kernel_rfl) (yieldsIf_load_row (by rfl) 36 _ rfl (w.heap.size) rfl 36 (e4 a) (fun _ h => N0.out.below h N0.out.lt) Try.underlying36 rfl (by rw [e4_size]; kernel_rfl)) ((below_dr W0)) ?_
    (try simp only [sI, sS, sZ])
    refine wpBut_r2 (i := 3) (j := 8) (by kernel_rfl) ?_ ?_
    refine go_call 3 12 #[true, true, true, true, false, false, true, false, false, false] rfl rfl rfl (by rfl) rfl rfl (by rfl) ent110 (by rfl) (Hg1.out _) ?_
    rintro e wW01 ⟨m1, hm1, hm1r, rfl, hb⟩
    have hkW01 := held_next (below_dr W0) hb
    refine ⟨_, rfl, fun _ => hkW01, ?_⟩
    clear hb
    (try simp only [sI, sS, sZ])
    refine wpBut_r2 (i := 4) (j := 8) (by kernel_rfl) ?_ ?_
    refine go_call 4 13 #[true, true, true, true, true, false, true, false, false, false] rfl rfl rfl (by rfl) rfl rfl (by rfl) ent110 (by rfl) (Hg2.out m1 hm1 _) ?_
    rintro e wW02 ⟨m2, hm2, hm2r, rfl, hb⟩
    have hkW02 := held_next hkW01 hb
    refine ⟨_, rfl, fun _ => hkW02, ?_⟩
    clear hb
    (try simp only [sI, sS, sZ])
    refine wpBut_r2 (i := 5) (j := 8) (by kernel_rfl) ?_ ?_
    refine go_call 5 14 #[true, true, true, true, true, true, true, false, false, false] rfl rfl rfl (by rfl) rfl rfl (by rfl) ent83 (by rfl) (Hs1.out m2 hm2 _) ?_
    rintro e wW03 ⟨m3, hm3, hm3r, rfl, hb⟩
    have hkW03 := held_next hkW02 hb
    refine ⟨_, rfl, fun _ => hkW03, ?_⟩
    clear hb
    (try simp only [sI, sS, sZ])
    refine wpBut_r2 (i := 7) (j := 8) (by kernel_rfl) ?_ ?_
    refine go_call 7 16 #[true, true, true, true, true, true, true, true, false, false] rfl rfl rfl (by rfl) rfl rfl (by rfl) ent31 (by rfl) (Ht.out m3 a hm3 Ha.out _) ?_
    rintro e wW04 ⟨m4, hm4, hm4r, rfl, hb⟩
    have hkW04 := held_next hkW03 hb
    refine ⟨_, rfl, fun _ => hkW04, ?_⟩
    clear hb
    (try simp only [sI, sS, sZ])
    refine wpBut_r1 (i := 8) (by kernel_rfl) ?_
    refine go_alloc 8 4 #[true, true, true, true, true, true, true, true, true, false] rfl rfl rfl (by rfl) 36 rfl _ al36 ?_
    intro wW05 hw2
    have hkW05 := (hkW04).alloc (hkW04).size (.cells z36 36)
    rw [← hw2] at hkW05
    have MQ := HasN.new (wW04) z36 36 4 (by kernel_rfl); rw [← hw2] at MQ; have MA8 := Lib.hid MQ; clear MQ
    have HA8 := Lib.hid (show W0.heap.size ≤ _ from (hkW04).size)
    clear hw2
    refine ⟨fun _ => hkW05, ?_⟩
    (try simp only [sI, sS, sZ])
    refine wpBut_r1 (i := 9) (by kernel_rfl) ?_
    obtain ⟨Zq, hZ, mZ⟩ := MA8.out
    refine go_store2 9 #[true, true, true, true, true, true, true, true, true, true] rfl rfl rfl (by rfl) 36 _ _ rfl _ _ rfl rfl 36 Zq mZ (by rw [e4_size]; kernel_rfl) (hZ.trans (e4_size ..).symm) (row_one _ _ _) ?_
    intro wW06 hw2
    have hkW06 := below_setRow (hkW05) _ (e4 m4) HA8.out
    rw [← hw2] at hkW06
    clear MA8
    have MQ := mZ.setRow (e4 m4); rw [← hw2] at MQ; have MA8 := Lib.hid MQ; clear MQ mZ hZ hw2
    refine ⟨fun _ => hkW06, ?_⟩
    (try simp only [sI, sS, sZ])
    exact wpBut_done (by kernel_rfl) (NoPanic.normal (HQ.out (_, m1, m2, m3, m4) _ ⟨hm4, Hp5.out m1 m2 m3 m4 hm1r hm2r hm3r hm4r, HA8.out, MA8.out, (hkW06)⟩))
    refine go_alloc 8 4 #[true, true, true, true, true, true, true, false, true, false] rfl rfl rfl (by rfl) 36 rfl _ al36 ?_
    intro wW04 hw2
    have hkW04 := (hkW03).alloc (hkW03).size (.cells z36 36)
    rw [← hw2] at hkW04
    have MQ := HasN.new (wW03) z36 36 4 (by kernel_rfl); rw [← hw2] at MQ; have MA8 := Lib.hid MQ; clear MQ
    have HA8 := Lib.hid (show W0.heap.size ≤ _ from (hkW03).size)
    clear hw2
    refine ⟨fun _ => hkW04, ?_⟩
    (try simp only [sI, sS, sZ])
    refine wpBut_r1 (i := 7) (by kernel_rfl) ?_
    refine go_call 7 16 #[true, true, true, true, true, true, true, true, true, false] rfl rfl rfl (by rfl) rfl rfl (by rfl) ent31 (by rfl) (Ht.out m3 a hm3 Ha.out _) ?_
    rintro e wW05 ⟨m4, hm4, hm4r, rfl, hb⟩
    have hkW05 := held_next hkW04 hb
    have MQ8 := Lib.hid (MA8.out.call hb); clear MA8
    have MA8 := MQ8; clear MQ8
    refine ⟨_, rfl, fun _ => hkW05, ?_⟩
    clear hb
    (try simp only [sI, sS, sZ])
    refine wpBut_r1 (i := 9) (by kernel_rfl) ?_
    obtain ⟨Zq, hZ, mZ⟩ := MA8.out
    refine go_store2 9 #[true, true, true, true, true, true, true, true, true, true] rfl rfl rfl (by rfl) 36 _ _ rfl _ _ rfl rfl 36 Zq mZ (by rw [e4_size]; kernel_rfl) (hZ.trans (e4_size ..).symm) (row_one _ _ _) ?_
    intro wW06 hw2
    have hkW06 := below_setRow (hkW05) _ (e4 m4) HA8.out
    rw [← hw2] at hkW06
    clear MA8
    have MQ := mZ.setRow (e4 m4); rw [← hw2] at MQ; have MA8 := Lib.hid MQ; clear MQ mZ hZ hw2
    refine ⟨fun _ => hkW06, ?_⟩
    (try simp only [sI, sS, sZ])
    exact wpBut_done (by kernel_rfl) (NoPanic.normal (HQ.out (_, m1, m2, m3, m4) _ ⟨hm4, Hp5.out m1 m2 m3 m4 hm1r hm2r hm3r hm4r, HA8.out, MA8.out, (hkW06)⟩))
    refine go_alloc 8 4 #[true, true, true, true, true, false, true, false, true, false] rfl rfl rfl (by rfl) 36 rfl _ al36 ?_
    intro wW03 hw2
    have hkW03 := (hkW02).alloc (hkW02).size (.cells z36 36)
    rw [← hw2] at hkW03
    have MQ := HasN.new (wW02) z36 36 4 (by kernel_rfl); rw [← hw2] at MQ; have MA8 := Lib.hid MQ; clear MQ
    have HA8 := Lib.hid (show W0.heap.size ≤ _ from (hkW02).size)
    clear hw2
    refine ⟨fun _ => hkW03, ?_⟩
    (try simp only [sI, sS, sZ])
    refine wpBut_r1 (i := 5) (by kernel_rfl) ?_
    refine go_call 5 14 #[true, true, true, true, true, true, true, false, true, false] rfl rfl rfl (by rfl) rfl rfl (by rfl) ent83 (by rfl) (Hs1.out m2 hm2 _) ?_
    rintro e wW04 ⟨m3, hm3, hm3r, rfl, hb⟩
    have hkW04 := held_next hkW03 hb
    have MQ8 := Lib.hid (MA8.out.call hb); clear MA8
    have MA8 := MQ8; clear MQ8
    refine ⟨_, rfl, fun _ => hkW04, ?_⟩
    clear hb
    (try simp only [sI, sS, sZ])
    refine wpBut_r1 (i := 7) (by kernel_rfl) ?_
    refine go_call 7 16 #[true, true, true, true, true, true, true, true, true, false] rfl rfl rfl (by rfl) rfl rfl (by rfl) ent31 (by rfl) (Ht.out m3 a hm3 Ha.out _) ?_
    rintro e wW05 ⟨m4, hm4, hm4r, rfl, hb⟩
    have hkW05 := held_next hkW04 hb
    have MQ8 := Lib.hid (MA8.out.call hb); clear MA8
    have MA8 := MQ8; clear MQ8
    refine ⟨_, rfl, fun _ => hkW05, ?_⟩
    clear hb
    (try simp only [sI, sS, sZ])
    refine wpBut_r1 (i := 9) (by kernel_rfl) ?_
    obtain ⟨Zq, hZ, mZ⟩ := MA8.out
    refine go_store2 9 #[true, true, true, true, true, true, true, true, true, true] rfl rfl rfl (by rfl) 36 _ _ rfl _ _ rfl rfl 36 Zq mZ (by rw [e4_size]; kernel_rfl) (hZ.trans (e4_size ..).symm) (row_one _ _ _) ?_
    intro wW06 hw2
    have hkW06 := below_setRow (hkW05) _ (e4 m4) HA8.out
    rw [← hw2] at hkW06
    clear MA8
    have MQ := mZ.setRow (e4 m4); rw [← hw2] at MQ; have MA8 := Lib.hid MQ; clear MQ mZ hZ hw2
    refine ⟨fun _ => hkW06, ?_⟩
    (try simp only [sI, sS, sZ])
    exact wpBut_done (by kernel_rfl) (NoPanic.normal (HQ.out (_, m1, m2, m3, m4) _ ⟨hm4, Hp5.out m1 m2 m3 m4 hm1r hm2r hm3r hm4r, HA8.out, MA8.out, (hkW06)⟩))
    refine go_alloc 8 4 #[true, true, true, true, false, false, true, false, true, false] rfl rfl rfl (by rfl) 36 rfl _ al36 ?_
    intro wW02 hw2
    have hkW02 := (hkW01).alloc (hkW01).size (.cells z36 36)
    rw [← hw2] at hkW02
    have MQ := HasN.new (wW01) z36 36 4 (by kernel_rfl); rw [← hw2] at MQ; have MA8 := Lib.hid MQ; clear MQ
    have HA8 := Lib.hid (show W0.heap.size ≤ _ from (hkW01).size)
    clear hw2
    refine ⟨fun _ => hkW02, ?_⟩
    (try simp only [sI, sS, sZ])
    refine wpBut_r1 (i := 4) (by kernel_rfl) ?_
    refine go_call 4 13 #[true, true, true, true, true, false, true, false, true, false] rfl rfl rfl (by rfl) rfl rfl (by rfl) ent110 (by rfl) (Hg2.out m1 hm1 _) ?_
    rintro e wW03 ⟨m2, hm2, hm2r, rfl, hb⟩
    have hkW03 := held_next hkW02 hb
    have MQ8 := Lib.hid (MA8.out.call hb); clear MA8
    have MA8 := MQ8; clear MQ8
    refine ⟨_, rfl, fun _ => hkW03, ?_⟩
    clear hb
    (try simp only [sI, sS, sZ])
    refine wpBut_r1 (i := 5) (by kernel_rfl) ?_
    refine go_call 5 14 #[true, true, true, true, true, true, true, false, true, false] rfl rfl rfl (by rfl) rfl rfl (by rfl) ent83 (by rfl) (Hs1.out m2 hm2 _) ?_
    rintro e wW04 ⟨m3, hm3, hm3r, rfl, hb⟩
    have hkW04 := held_next hkW03 hb
    have MQ8 := Lib.hid (MA8.out.call hb); clear MA8
    have MA8 := MQ8; clear MQ8
    refine ⟨_, rfl, fun _ => hkW04, ?_⟩
    clear hb
    (try simp only [sI, sS, sZ])
    refine wpBut_r1 (i := 7) (by kernel_rfl) ?_
    refine go_call 7 16 #[true, true, true, true, true, true, true, true, true, false] rfl rfl rfl (by rfl) rfl rfl (by rfl) ent31 (by rfl) (Ht.out m3 a hm3 Ha.out _) ?_
    rintro e wW05 ⟨m4, hm4, hm4r, rfl, hb⟩
    have hkW05 := held_next hkW04 hb
    have MQ8 := Lib.hid (MA8.out.call hb); clear MA8
    have MA8 := MQ8; clear MQ8
    refine ⟨_, rfl, fun _ => hkW05, ?_⟩
    clear hb
    (try simp only [sI, sS, sZ])
    refine wpBut_r1 (i := 9) (by kernel_rfl) ?_
    obtain ⟨Zq, hZ, mZ⟩ := MA8.out
    refine go_store2 9 #[true, true, true, true, true, true, true, true, true, true] rfl rfl rfl (by rfl) 36 _ _ rfl _ _ rfl rfl 36 Zq mZ (by rw [e4_size]; kernel_rfl) (hZ.trans (e4_size ..).symm) (row_one _ _ _) ?_
    intro wW06 hw2
    have hkW06 := below_setRow (hkW05) _ (e4 m4) HA8.out
    rw [← hw2] at hkW06
    clear MA8
    have MQ := mZ.setRow (e4 m4); rw [← hw2] at MQ; have MA8 := Lib.hid MQ; clear MQ mZ hZ hw2
    refine ⟨fun _ => hkW06, ?_⟩
    (try simp only [sI, sS, sZ])
    exact wpBut_done (by kernel_rfl) (NoPanic.normal (HQ.out (_, m1, m2, m3, m4) _ ⟨hm4, Hp5.out m1 m2 m3 m4 hm1r hm2r hm3r hm4r, HA8.out, MA8.out, (hkW06)⟩))
    refine go_alloc 8 4 #[true, true, true, false, false, false, true, false, true, false] rfl rfl rfl (by rfl) 36 rfl _ al36 ?_
    intro wW01 hw2
    have hkW01 := ((below_dr W0)).alloc ((below_dr W0)).size (.cells z36 36)
    rw [← hw2] at hkW01
    have MQ := HasN.new (W0.drew) z36 36 4 (by kernel_rfl); rw [← hw2] at MQ; have MA8 := Lib.hid MQ; clear MQ
    have HA8 := Lib.hid (show W0.heap.size ≤ _ from ((below_dr W0)).size)
    clear hw2
    refine ⟨fun _ => hkW01, ?_⟩
    (try simp only [sI, sS, sZ])
    refine wpBut_r1 (i := 3) (by kernel_rfl) ?_
    refine go_call 3 12 #[true, true, true, true, false, false, true, false, true, false] rfl rfl rfl (by rfl) rfl rfl (by rfl) ent110 (by rfl) (Hg1.out _) ?_
    rintro e wW02 ⟨m1, hm1, hm1r, rfl, hb⟩
    have hkW02 := held_next hkW01 hb
    have MQ8 := Lib.hid (MA8.out.call hb); clear MA8
    have MA8 := MQ8; clear MQ8
    refine ⟨_, rfl, fun _ => hkW02, ?_⟩
    clear hb
    (try simp only [sI, sS, sZ])
    refine wpBut_r1 (i := 4) (by kernel_rfl) ?_
    refine go_call 4 13 #[true, true, true, true, true, false, true, false, true, false] rfl rfl rfl (by rfl) rfl rfl (by rfl) ent110 (by rfl) (Hg2.out m1 hm1 _) ?_
    rintro e wW03 ⟨m2, hm2, hm2r, rfl, hb⟩
    have hkW03 := held_next hkW02 hb
    have MQ8 := Lib.hid (MA8.out.call hb); clear MA8
    have MA8 := MQ8; clear MQ8
    refine ⟨_, rfl, fun _ => hkW03, ?_⟩
    clear hb
    (try simp only [sI, sS, sZ])
    refine wpBut_r1 (i := 5) (by kernel_rfl) ?_
    refine go_call 5 14 #[true, true, true, true, true, true, true, false, true, false] rfl rfl rfl (by rfl) rfl rfl (by rfl) ent83 (by rfl) (Hs1.out m2 hm2 _) ?_
    rintro e wW04 ⟨m3, hm3, hm3r, rfl, hb⟩
    have hkW04 := held_next hkW03 hb
    have MQ8 := Lib.hid (MA8.out.call hb); clear MA8
    have MA8 := MQ8; clear MQ8
    refine ⟨_, rfl, fun _ => hkW04, ?_⟩
    clear hb
    (try simp only [sI, sS, sZ])
    refine wpBut_r1 (i := 7) (by kernel_rfl) ?_
    refine go_call 7 16 #[true, true, true, true, true, true, true, true, true, false] rfl rfl rfl (by rfl) rfl rfl (by rfl) ent31 (by rfl) (Ht.out m3 a hm3 Ha.out _) ?_
    rintro e wW05 ⟨m4, hm4, hm4r, rfl, hb⟩
    have hkW05 := held_next hkW04 hb
    have MQ8 := Lib.hid (MA8.out.call hb); clear MA8
    have MA8 := MQ8; clear MQ8
    refine ⟨_, rfl, fun _ => hkW05, ?_⟩
    clear hb
    (try simp only [sI, sS, sZ])
    refine wpBut_r1 (i := 9) (by kernel_rfl) ?_
    obtain ⟨Zq, hZ, mZ⟩ := MA8.out
    refine go_store2 9 #[true, true, true, true, true, true, true, true, true, true] rfl rfl rfl (by rfl) 36 _ _ rfl _ _ rfl rfl 36 Zq mZ (by rw [e4_size]; kernel_rfl) (hZ.trans (e4_size ..).symm) (row_one _ _ _) ?_
    intro wW06 hw2
    have hkW06 := below_setRow (hkW05) _ (e4 m4) HA8.out
    rw [← hw2] at hkW06
    clear MA8
    have MQ := mZ.setRow (e4 m4); rw [← hw2] at MQ; have MA8 := Lib.hid MQ; clear MQ mZ hZ hw2
    refine ⟨fun _ => hkW06, ?_⟩
    (try simp only [sI, sS, sZ])
    exact wpBut_done (by kernel_rfl) (NoPanic.normal (HQ.out (_, m1, m2, m3, m4) _ ⟨hm4, Hp5.out m1 m2 m3 m4 hm1r hm2r hm3r hm4r, HA8.out, MA8.out, (hkW06)⟩))
  · rintro W0 ⟨B4, m1, m2, m3, m4⟩ w4 hW0 ⟨hm4, hm4r, hB4, m4', hbw⟩
    simp only [Act.put, List.setIfInBounds_toArray, List.set_cons_succ, List.set_cons_zero] at hm4 hm4r hB4 m4' ⊢
    have hne4 : w.heap.size + 1 < B4 := by rw [hW0] at hB4; simp at hB4; omega
    have M1 := Lib.hid ((show HasN W0 (w.heap.size + 1) 4 36 by rw [hW0]; exact HasN.new1 _ _ _ _ 4 rfl).call hbw)
    have HB := Lib.hid (held_next (show Below w.heap.size w W0 by rw [hW0]; exact below_2 _ _ _) hbw)
    have M4' := Lib.hid m4'; clear m4'
    have Hm4r := Lib.hid hm4r; clear hm4r
    clear hW0 hbw hB4 W0
    have hl1 := M1.out.lt
    have hl4 := M4'.out.lt
    go_step
    go_step
    go_step
    go_step
    refine wpList_step (fun K hK => ?_)
    go_simp
    (try go_bits)
    refine hK _ _ ?_
    clear hK K
    refine wpList_load (by rfl) 36 _ rfl (B4) rfl 36 (e4 m4) M4'.out Try.underlying36 rfl (by rw [e4_size]; kernel_rfl) 18 rfl ?_
    (try simp only [Act.put, sI, sS, sZ])
    refine wpList_call (by rfl) rfl rfl (by rfl) ent110 (by rfl) (Hg5.out m4 hm4 _) 19 rfl ?_
    rintro e uw1 ⟨m5, hm5, hm5r, rfl, hb⟩
    replace M1 := Lib.hid (M1.out.call hb)
    replace M4' := Lib.hid (M4'.out.call hb)
    replace HB := Lib.hid (held_next HB.out hb)
    refine ⟨_, rfl, ?_⟩
    clear hb
    (try simp only [Act.put, sI, sS, sZ])
    refine wpList_step (fun K hK => ?_)
    go_simp
    have hlt1 := M1.out.lt
    have hlt2 := M4'.out.lt
    replace M1 := Lib.hid (M1.out.alloc (.cells (#[.int .u64 0, .int .u64 0, .int .u64 0, .int .u64 0] : Array Value) 36))
    replace M4' := Lib.hid (M4'.out.alloc (.cells (#[.int .u64 0, .int .u64 0, .int .u64 0, .int .u64 0] : Array Value) 36))
    have M5 := Lib.hid (HasN.new uw1 (#[.int .u64 0, .int .u64 0, .int .u64 0, .int .u64 0] : Array Value) 36 4 rfl)
    have hsz := HB.out.size
    replace HB := Lib.hid (HB.out.alloc hsz (.cells (#[.int .u64 0, .int .u64 0, .int .u64 0, .int .u64 0] : Array Value) 36))
    refine hK _ _ ?_
    clear hK K
    first | (obtain ⟨Zq, hZ, mZ⟩ := M5.out) | (obtain ⟨Zq, hZ, mZ⟩ := M5.out.toN (e4_size _))
    clear M5
    have hZ' := Lib.hid hZ; clear hZ
    have mZ' := Lib.hid mZ; clear mZ
    refine wpList_store_row rfl 36 _ _ rfl (uw1.heap.size) _ rfl rfl 36 Zq mZ'.out (by rw [e4_size]; kernel_rfl) (hZ'.out.trans (e4_size _).symm) (row_one _ _ _) ?_
    (try simp only [Act.put, sI, sS, sZ])
    replace M1 := Lib.hid (M1.out.setRow_other (uw1.heap.size) (e4 m5) (by omega))
    replace M4' := Lib.hid (M4'.out.setRow_other (uw1.heap.size) (e4 m5) (by omega))
    have M5 := Lib.hid (mZ'.out.setRow (e4 m5))
    clear mZ' hZ'
    replace HB := Lib.hid (below_setRow HB.out (uw1.heap.size) (e4 m5) (by omega))
    refine wpList_nil ?_
    have hk5 := Hgo.out m4 31 33 m5 1023 Hm4r.out hm5r rfl
    have Hk5 := Lib.hid hk5; clear hk5
    clear hm5r
    clear M4'
    go_step
    go_step
    go_step
    go_step
    refine wpList_step (fun K hK => ?_)
    go_simp
    (try go_bits)
    refine hK _ _ ?_
    clear hK K
    refine wpList_load (by rfl) 36 _ rfl (uw1.heap.size) rfl 36 (e4 m5) M5.out Try.underlying36 rfl (by rw [e4_size]; kernel_rfl) 21 rfl ?_
    (try simp only [Act.put, sI, sS, sZ])
    refine wpList_call (by rfl) rfl rfl (by rfl) ent110 (by rfl) (Hg10.out m5 hm5 _) 22 rfl ?_
    rintro e uw2 ⟨m6, hm6, hm6r, rfl, hb⟩
    replace M1 := Lib.hid (M1.out.call hb)
    replace M5 := Lib.hid (M5.out.call hb)
    replace HB := Lib.hid (held_next HB.out hb)
    refine ⟨_, rfl, ?_⟩
    clear hb
    (try simp only [Act.put, sI, sS, sZ])
    refine wpList_step (fun K hK => ?_)
    go_simp
    have hlt3 := M1.out.lt
    have hlt4 := M5.out.lt
    replace M1 := Lib.hid (M1.out.alloc (.cells (#[.int .u64 0, .int .u64 0, .int .u64 0, .int .u64 0] : Array Value) 36))
    replace M5 := Lib.hid (M5.out.alloc (.cells (#[.int .u64 0, .int .u64 0, .int .u64 0, .int .u64 0] : Array Value) 36))
    have M6 := Lib.hid (HasN.new uw2 (#[.int .u64 0, .int .u64 0, .int .u64 0, .int .u64 0] : Array Value) 36 4 rfl)
    have hsz := HB.out.size
    replace HB := Lib.hid (HB.out.alloc hsz (.cells (#[.int .u64 0, .int .u64 0, .int .u64 0, .int .u64 0] : Array Value) 36))
    refine hK _ _ ?_
    clear hK K
    first | (obtain ⟨Zq, hZ, mZ⟩ := M6.out) | (obtain ⟨Zq, hZ, mZ⟩ := M6.out.toN (e4_size _))
    clear M6
    have hZ' := Lib.hid hZ; clear hZ
    have mZ' := Lib.hid mZ; clear mZ
    refine wpList_store_row rfl 36 _ _ rfl (uw2.heap.size) _ rfl rfl 36 Zq mZ'.out (by rw [e4_size]; kernel_rfl) (hZ'.out.trans (e4_size _).symm) (row_one _ _ _) ?_
    (try simp only [Act.put, sI, sS, sZ])
    replace M1 := Lib.hid (M1.out.setRow_other (uw2.heap.size) (e4 m6) (by omega))
    replace M5 := Lib.hid (M5.out.setRow_other (uw2.heap.size) (e4 m6) (by omega))
    have M6 := Lib.hid (mZ'.out.setRow (e4 m6))
    clear mZ' hZ'
    replace HB := Lib.hid (below_setRow HB.out (uw2.heap.size) (e4 m6) (by omega))
    refine wpList_nil ?_
    have hk6 := Hgo.out m5 1023 1025 m6 1048575 Hk5.out hm6r (by decide +kernel)
    have Hk6 := Lib.hid hk6; clear hk6
    clear hm6r
    go_step
    go_step
    go_step
    refine wp_region_meet (α := Nat × Nat × Nat × Nat) (fun W0 x w' => x.2.2.2 < 115792089237316195423570985008687907853269984665640564039457584007913129639936 ∧ x.2.2.2 % PP = pwm a 1125899906842623 ∧ W0.heap.size ≤ x.1 ∧ Has w' x.1 (e4 x.2.2.2) 36 ∧ Below W0.heap.size W0 w') (fun ac x => (((((((ac.put (some 23) (.func (.func 110) #[] #[])).put (some 24) (.agg (e4 m6))).put (some 25) (.agg (e4 x.2.1))).put (some 26) (.agg (e4 x.2.2.1))).put (some 27) (.agg (e4 m5))).put (some 28) (.agg (e4 x.2.2.2))).put (some 7) (.pointer (some ⟨x.1, 0, none⟩)))) ?_ ?_
    · intro Q' hQ'
      refine wp_region_noPanic ?_
      refine wp_region_go 99 8 #[false, false, false, false, false, false, false, false] (by kernel_rfl) rfl rfl ?_
      intro W5 hW5
      rw [← hW5] at hQ'
      simp only [Act.put, List.setIfInBounds_toArray, List.set_cons_succ, List.set_cons_zero] at hQ'
      have HQ := Lib.hid hQ'; clear hQ'
      have kq := M1.out; rw [← hW5] at kq; clear M1; have M1 := Lib.hid kq; clear kq
      have kq := M5.out; rw [← hW5] at kq; clear M5; have M5 := Lib.hid kq; clear kq
      have kq := M6.out; rw [← hW5] at kq; clear M6; have M6 := Lib.hid kq; clear kq
      have kq := HB.out; rw [← hW5] at kq; clear HB; have HB := Lib.hid kq; clear kq
      clear hW5
      refine go_take2 0 23 #[true, false, false, false, false, false, false, false] (v := ?uv3) rfl rfl rfl (by kernel_rfl) (Or.inl ⟨by rfl, ?uy3⟩) ((below_dr W5)) ?urest3
      case uy3 => (intro _ _; go_simp; try with_reducible rfl)
      (try simp only [sI, sS, sZ])
      refine go_take2 1 24 #[true, true, false, false, false, false, false, false] rfl rfl rfl (by kernel_rfl) (yieldsIf_load_row (by rfl) 36 _ rfl (uw2.heap.size) rfl 36 (e4 m6) (fun _ h => M6.out.below h M6.out.lt) Try.underlying36 rfl (by rw [e4_size]; kernel_rfl)) ((below_dr W5)) ?_
      (try simp only [sI, sS, sZ])
      refine go_take2 4 27 #[true, true, false, false, true, false, false, false] rfl rfl rfl (by kernel_rfl) (yieldsIf_load_row (by rfl) 36 _ rfl (uw1.heap.size) rfl 36 (e4 m5) (fun _ h => M5.out.below h M5.out.lt) Try.underlying36 rfl (by rw [e4_size]; kernel_rfl)) ((below_dr W5)) ?_
      (try simp only [sI, sS, sZ])
      refine wpBut_r2 (i := 2) (j := 6) (by kernel_rfl) ?_ ?_
      refine go_call 2 25 #[true, true, true, false, true, false, false, false] rfl rfl rfl (by rfl) rfl rfl (by rfl) ent110 (by rfl) (Hg20.out m6 hm6 _) ?_
      rintro e wW51 ⟨m7, hm7, hm7r, rfl, hb⟩
      have hkW51 := held_next (below_dr W5) hb
      refine ⟨_, rfl, fun _ => hkW51, ?_⟩
      clear hb
      (try simp only [sI, sS, sZ])
      refine wpBut_r2 (i := 3) (j := 6) (by kernel_rfl) ?_ ?_
      refine go_call 3 26 #[true, true, true, true, true, false, false, false] rfl rfl rfl (by rfl) rfl rfl (by rfl) ent83 (by rfl) (Hs10.out m7 hm7 _) ?_
      rintro e wW52 ⟨m8, hm8, hm8r, rfl, hb⟩
      have hkW52 := held_next hkW51 hb
      refine ⟨_, rfl, fun _ => hkW52, ?_⟩
      clear hb
      (try simp only [sI, sS, sZ])
      refine wpBut_r2 (i := 5) (j := 6) (by kernel_rfl) ?_ ?_
      refine go_call 5 28 #[true, true, true, true, true, true, false, false] rfl rfl rfl (by rfl) rfl rfl (by rfl) ent31 (by rfl) (Ht.out m8 m5 hm8 hm5 _) ?_
      rintro e wW53 ⟨m9, hm9, hm9r, rfl, hb⟩
      have hkW53 := held_next hkW52 hb
      refine ⟨_, rfl, fun _ => hkW53, ?_⟩
      clear hb
      (try simp only [sI, sS, sZ])
      refine wpBut_r1 (i := 6) (by kernel_rfl) ?_
      refine go_alloc 6 7 #[true, true, true, true, true, true, true, false] rfl rfl rfl (by rfl) 36 rfl _ al36 ?_
      intro wW54 hw2
      have hkW54 := (hkW53).alloc (hkW53).size (.cells z36 36)
      rw [← hw2] at hkW54
      have MQ := HasN.new (wW53) z36 36 4 (by kernel_rfl); rw [← hw2] at MQ; have MA6 := Lib.hid MQ; clear MQ
      have HA6 := Lib.hid (show W5.heap.size ≤ _ from (hkW53).size)
      clear hw2
      refine ⟨fun _ => hkW54, ?_⟩
      (try simp only [sI, sS, sZ])
      refine wpBut_r1 (i := 7) (by kernel_rfl) ?_
      obtain ⟨Zq, hZ, mZ⟩ := MA6.out
      refine go_store2 7 #[true, true, true, true, true, true, true, true] rfl rfl rfl (by rfl) 36 _ _ rfl _ _ rfl rfl 36 Zq mZ (by rw [e4_size]; kernel_rfl) (hZ.trans (e4_size ..).symm) (row_one _ _ _) ?_
      intro wW55 hw2
      have hkW55 := below_setRow (hkW54) _ (e4 m9) HA6.out
      rw [← hw2] at hkW55
      clear MA6
      have MQ := mZ.setRow (e4 m9); rw [← hw2] at MQ; have MA6 := Lib.hid MQ; clear MQ mZ hZ hw2
      refine ⟨fun _ => hkW55, ?_⟩
      (try simp only [sI, sS, sZ])
      exact wpBut_done (by kernel_rfl) (NoPanic.normal (HQ.out (_, m7, m8, m9) _ ⟨hm9, Hp50.out m6 m7 m8 m5 m9 Hk6.out Hk5.out hm7r hm8r hm9r, HA6.out, MA6.out, (hkW55)⟩))
      refine go_alloc 6 7 #[true, true, true, true, true, false, true, false] rfl rfl rfl (by rfl) 36 rfl _ al36 ?_
      intro wW53 hw2
      have hkW53 := (hkW52).alloc (hkW52).size (.cells z36 36)
      rw [← hw2] at hkW53
      have MQ := HasN.new (wW52) z36 36 4 (by kernel_rfl); rw [← hw2] at MQ; have MA6 := Lib.hid MQ; clear MQ
      have HA6 := Lib.hid (show W5.heap.size ≤ _ from (hkW52).size)
      clear hw2
      refine ⟨fun _ => hkW53, ?_⟩
      (try simp only [sI, sS, sZ])
      refine wpBut_r1 (i := 5) (by kernel_rfl) ?_
      refine go_call 5 28 #[true, true, true, true, true, true, true, false] rfl rfl rfl (by rfl) rfl rfl (by rfl) ent31 (by rfl) (Ht.out m8 m5 hm8 hm5 _) ?_
      rintro e wW54 ⟨m9, hm9, hm9r, rfl, hb⟩
      have hkW54 := held_next hkW53 hb
      have MQ6 := Lib.hid (MA6.out.call hb); clear MA6
      have MA6 := MQ6; clear MQ6
      refine ⟨_, rfl, fun _ => hkW54, ?_⟩
      clear hb
      (try simp only [sI, sS, sZ])
      refine wpBut_r1 (i := 7) (by kernel_rfl) ?_
      obtain ⟨Zq, hZ, mZ⟩ := MA6.out
      refine go_store2 7 #[true, true, true, true, true, true, true, true] rfl rfl rfl (by rfl) 36 _ _ rfl _ _ rfl rfl 36 Zq mZ (by rw [e4_size]; kernel_rfl) (hZ.trans (e4_size ..).symm) (row_one _ _ _) ?_
      intro wW55 hw2
      have hkW55 := below_setRow (hkW54) _ (e4 m9) HA6.out
      rw [← hw2] at hkW55
      clear MA6
      have MQ := mZ.setRow (e4 m9); rw [← hw2] at MQ; have MA6 := Lib.hid MQ; clear MQ mZ hZ hw2
      refine ⟨fun _ => hkW55, ?_⟩
      (try simp only [sI, sS, sZ])
      exact wpBut_done (by kernel_rfl) (NoPanic.normal (HQ.out (_, m7, m8, m9) _ ⟨hm9, Hp50.out m6 m7 m8 m5 m9 Hk6.out Hk5.out hm7r hm8r hm9r, HA6.out, MA6.out, (hkW55)⟩))
      refine go_alloc 6 7 #[true, true, true, false, true, false, true, false] rfl rfl rfl (by rfl) 36 rfl _ al36 ?_
      intro wW52 hw2
      have hkW52 := (hkW51).alloc (hkW51).size (.cells z36 36)
      rw [← hw2] at hkW52
      have MQ := HasN.new (wW51) z36 36 4 (by kernel_rfl); rw [← hw2] at MQ; have MA6 := Lib.hid MQ; clear MQ
      have HA6 := Lib.hid (show W5.heap.size ≤ _ from (hkW51).size)
      clear hw2
      refine ⟨fun _ => hkW52, ?_⟩
      (try simp only [sI, sS, sZ])
      refine wpBut_r1 (i := 3) (by kernel_rfl) ?_
      refine go_call 3 26 #[true, true, true, true, true, false, true, false] rfl rfl rfl (by rfl) rfl rfl (by rfl) ent83 (by rfl) (Hs10.out m7 hm7 _) ?_
      rintro e wW53 ⟨m8, hm8, hm8r, rfl, hb⟩
      have hkW53 := held_next hkW52 hb
      have MQ6 := Lib.hid (MA6.out.call hb); clear MA6
      have MA6 := MQ6; clear MQ6
      refine ⟨_, rfl, fun _ => hkW53, ?_⟩
      clear hb
      (try simp only [sI, sS, sZ])
      refine wpBut_r1 (i := 5) (by kernel_rfl) ?_
      refine go_call 5 28 #[true, true, true, true, true, true, true, false] rfl rfl rfl (by rfl) rfl rfl (by rfl) ent31 (by rfl) (Ht.out m8 m5 hm8 hm5 _) ?_
      rintro e wW54 ⟨m9, hm9, hm9r, rfl, hb⟩
      have hkW54 := held_next hkW53 hb
      have MQ6 := Lib.hid (MA6.out.call hb); clear MA6
      have MA6 := MQ6; clear MQ6
      refine ⟨_, rfl, fun _ => hkW54, ?_⟩
      clear hb
      (try simp only [sI, sS, sZ])
      refine wpBut_r1 (i := 7) (by kernel_rfl) ?_
      obtain ⟨Zq, hZ, mZ⟩ := MA6.out
      refine go_store2 7 #[true, true, true, true, true, true, true, true] rfl rfl rfl (by rfl) 36 _ _ rfl _ _ rfl rfl 36 Zq mZ (by rw [e4_size]; kernel_rfl) (hZ.trans (e4_size ..).symm) (row_one _ _ _) ?_
      intro wW55 hw2
      have hkW55 := below_setRow (hkW54) _ (e4 m9) HA6.out
      rw [← hw2] at hkW55
      clear MA6
      have MQ := mZ.setRow (e4 m9); rw [← hw2] at MQ; have MA6 := Lib.hid MQ; clear MQ mZ hZ hw2
      refine ⟨fun _ => hkW55, ?_⟩
      (try simp only [sI, sS, sZ])
      exact wpBut_done (by kernel_rfl) (NoPanic.normal (HQ.out (_, m7, m8, m9) _ ⟨hm9, Hp50.out m6 m7 m8 m5 m9 Hk6.out Hk5.out hm7r hm8r hm9r, HA6.out, MA6.out, (hkW55)⟩))
      refine go_alloc 6 7 #[true, true, false, false, true, false, true, false] rfl rfl rfl (by rfl) 36 rfl _ al36 ?_
      intro wW51 hw2
      have hkW51 := ((below_dr W5)).alloc ((below_dr W5)).size (.cells z36 36)
      rw [← hw2] at hkW51
      have MQ := HasN.new (W5.drew) z36 36 4 (by kernel_rfl); rw [← hw2] at MQ; have MA6 := Lib.hid MQ; clear MQ
      have HA6 := Lib.hid (show W5.heap.size ≤ _ from ((below_dr W5)).size)
      clear hw2
      refine ⟨fun _ => hkW51, ?_⟩
      (try simp only [sI, sS, sZ])
      refine wpBut_r1 (i := 2) (by kernel_rfl) ?_
      refine go_call 2 25 #[true, true, true, false, true, false, true, false] rfl rfl rfl (by rfl) rfl rfl (by rfl) ent110 (by rfl) (Hg20.out m6 hm6 _) ?_
      rintro e wW52 ⟨m7, hm7, hm7r, rfl, hb⟩
      have hkW52 := held_next hkW51 hb
      have MQ6 := Lib.hid (MA6.out.call hb); clear MA6
      have MA6 := MQ6; clear MQ6
      refine ⟨_, rfl, fun _ => hkW52, ?_⟩
      clear hb
      (try simp only [sI, sS, sZ])
      refine wpBut_r1 (i := 3) (by kernel_rfl) ?_
      refine go_call 3 26 #[true, true, true, true, true, false, true, false] rfl rfl rfl (by rfl) rfl rfl (by rfl) ent83 (by rfl) (Hs10.out m7 hm7 _) ?_
      rintro e wW53 ⟨m8, hm8, hm8r, rfl, hb⟩
      have hkW53 := held_next hkW52 hb
      have MQ6 := Lib.hid (MA6.out.call hb); clear MA6
      have MA6 := MQ6; clear MQ6
      refine ⟨_, rfl, fun _ => hkW53, ?_⟩
      clear hb
      (try simp only [sI, sS, sZ])
      refine wpBut_r1 (i := 5) (by kernel_rfl) ?_
      refine go_call 5 28 #[true, true, true, true, true, true, true, false] rfl rfl rfl (by rfl) rfl rfl (by rfl) ent31 (by rfl) (Ht.out m8 m5 hm8 hm5 _) ?_
      rintro e wW54 ⟨m9, hm9, hm9r, rfl, hb⟩
      have hkW54 := held_next hkW53 hb
      have MQ6 := Lib.hid (MA6.out.call hb); clear MA6
      have MA6 := MQ6; clear MQ6
      refine ⟨_, rfl, fun _ => hkW54, ?_⟩
      clear hb
      (try simp only [sI, sS, sZ])
      refine wpBut_r1 (i := 7) (by kernel_rfl) ?_
      obtain ⟨Zq, hZ, mZ⟩ := MA6.out
      refine go_store2 7 #[true, true, true, true, true, true, true, true] rfl rfl rfl (by rfl) 36 _ _ rfl _ _ rfl rfl 36 Zq mZ (by rw [e4_size]; kernel_rfl) (hZ.trans (e4_size ..).symm) (row_one _ _ _) ?_
      intro wW55 hw2
      have hkW55 := below_setRow (hkW54) _ (e4 m9) HA6.out
      rw [← hw2] at hkW55
      clear MA6
      have MQ := mZ.setRow (e4 m9); rw [← hw2] at MQ; have MA6 := Lib.hid MQ; clear MQ mZ hZ hw2
      refine ⟨fun _ => hkW55, ?_⟩
      (try simp only [sI, sS, sZ])
      exact wpBut_done (by kernel_rfl) (NoPanic.normal (HQ.out (_, m7, m8, m9) _ ⟨hm9, Hp50.out m6 m7 m8 m5 m9 Hk6.out Hk5.out hm7r hm8r hm9r, HA6.out, MA6.out, (hkW55)⟩))
    · rintro W5 ⟨B7, m7, m8, m9⟩ vw5 hW5 ⟨hm9, hm9r, hBq0, mBq0, hbw⟩
      simp only [Act.put, List.setIfInBounds_toArray, List.set_cons_succ, List.set_cons_zero] at hm9 hm9r hBq0  mBq0 ⊢
      have kq := M1.out; rw [← hW5] at kq; clear M1; have M1 := Lib.hid kq; clear kq
      have kq := M5.out; rw [← hW5] at kq; clear M5; have M5 := Lib.hid kq; clear kq
      have kq := M6.out; rw [← hW5] at kq; clear M6; have M6 := Lib.hid kq; clear kq
      have kq := HB.out; rw [← hW5] at kq; clear HB; have HB := Lib.hid kq; clear kq
      clear hW5
      have hltM1_5 := M1.out.lt
      have hltM5_5 := M5.out.lt
      have hltM6_5 := M6.out.lt
      replace M1 := Lib.hid (M1.out.call hbw)
      replace M5 := Lib.hid (M5.out.call hbw)
      replace M6 := Lib.hid (M6.out.call hbw)
      replace HB := Lib.hid (held_next HB.out hbw)
      have M7 := Lib.hid mBq0; clear mBq0
      clear hbw
      have Hm9r := Lib.hid hm9r; clear hm9r
      clear M5 M6
      go_step
      go_step
      go_step
      go_step
      refine wpList_step (fun K hK => ?_)
      go_simp
      (try go_bits)
      refine hK _ _ ?_
      clear hK K
      refine wpList_load (by rfl) 36 _ rfl (B7) rfl 36 (e4 m9) M7.out Try.underlying36 rfl (by rw [e4_size]; kernel_rfl) 30 rfl ?_
      (try simp only [Act.put, sI, sS, sZ])
      refine wpList_call (by rfl) rfl rfl (by rfl) ent110 (by rfl) (Hg50.out m9 hm9 _) 31 rfl ?_
      rintro e uw3 ⟨m10, hm10, hm10r, rfl, hb⟩
      replace M1 := Lib.hid (M1.out.call hb)
      replace M7 := Lib.hid (M7.out.call hb)
      replace HB := Lib.hid (held_next HB.out hb)
      refine ⟨_, rfl, ?_⟩
      clear hb
      (try simp only [Act.put, sI, sS, sZ])
      refine wpList_step (fun K hK => ?_)
      go_simp
      have hlt6 := M1.out.lt
      have hlt7 := M7.out.lt
      replace M1 := Lib.hid (M1.out.alloc (.cells (#[.int .u64 0, .int .u64 0, .int .u64 0, .int .u64 0] : Array Value) 36))
      replace M7 := Lib.hid (M7.out.alloc (.cells (#[.int .u64 0, .int .u64 0, .int .u64 0, .int .u64 0] : Array Value) 36))
      have M8 := Lib.hid (HasN.new uw3 (#[.int .u64 0, .int .u64 0, .int .u64 0, .int .u64 0] : Array Value) 36 4 rfl)
      have hsz := HB.out.size
      replace HB := Lib.hid (HB.out.alloc hsz (.cells (#[.int .u64 0, .int .u64 0, .int .u64 0, .int .u64 0] : Array Value) 36))
      refine hK _ _ ?_
      clear hK K
      first | (obtain ⟨Zq, hZ, mZ⟩ := M8.out) | (obtain ⟨Zq, hZ, mZ⟩ := M8.out.toN (e4_size _))
      clear M8
      have hZ' := Lib.hid hZ; clear hZ
      have mZ' := Lib.hid mZ; clear mZ
      refine wpList_store_row rfl 36 _ _ rfl (uw3.heap.size) _ rfl rfl 36 Zq mZ'.out (by rw [e4_size]; kernel_rfl) (hZ'.out.trans (e4_size _).symm) (row_one _ _ _) ?_
      (try simp only [Act.put, sI, sS, sZ])
      replace M1 := Lib.hid (M1.out.setRow_other (uw3.heap.size) (e4 m10) (by omega))
      replace M7 := Lib.hid (M7.out.setRow_other (uw3.heap.size) (e4 m10) (by omega))
      have M8 := Lib.hid (mZ'.out.setRow (e4 m10))
      clear mZ' hZ'
      replace HB := Lib.hid (below_setRow HB.out (uw3.heap.size) (e4 m10) (by omega))
      refine wpList_nil ?_
      have hk10 := Hgo.out m9 1125899906842623 1125899906842625 m10 1267650600228229401496703205375 Hm9r.out hm10r (by decide +kernel)
      have Hk10 := Lib.hid hk10; clear hk10
      clear hm10r
      go_step
      go_step
      go_step
      refine wp_region_noPanic ?_
      refine wp_region_go 6 7 #[false, false, false, false, false, false, false] (by kernel_rfl) rfl rfl ?_
      intro W8 hW8
      have kq := M1.out; rw [← hW8] at kq; clear M1; have M1 := Lib.hid kq; clear kq
      have kq := M7.out; rw [← hW8] at kq; clear M7; have M7 := Lib.hid kq; clear kq
      have kq := M8.out; rw [← hW8] at kq; clear M8; have M8 := Lib.hid kq; clear kq
      have kq := HB.out; rw [← hW8] at kq; clear HB; have HB := Lib.hid kq; clear kq
      clear hW8
      have M1N := Lib.hid (by first | exact M1.out | exact M1.out.toN (by first | exact e4_size _ | exact r22_size _ | exact k32_size _ | exact pt_size .. | exact rp_size ..) : HasN W8 (w.heap.size + 1) _ _)
      refine go_take2 0 32 #[true, false, false, false, false, false, false] (v := ?uv4) rfl rfl rfl (by kernel_rfl) (Or.inl ⟨by rfl, ?uy4⟩) ((below_dr W8)) ?urest4
      case uy4 => (intro _ _; go_simp; try with_reducible rfl)
      (try simp only [sI, sS, sZ])
      refine go_take2 1 33 #[true, true, false, false, false, false, false] rfl rfl rfl (by kernel_rfl) (yieldsIf_load_row (by rfl) 36 _ rfl (uw3.heap.size) rfl 36 (e4 m10) (fun _ h => M8.out.below h M8.out.lt) Try.underlying36 rfl (by rw [e4_size]; kernel_rfl)) ((below_dr W8)) ?_
      (try simp only [sI, sS, sZ])
      refine go_take2 4 36 #[true, true, false, false, true, false, false] rfl rfl rfl (by kernel_rfl) (yieldsIf_load_row (by rfl) 36 _ rfl (B7) rfl 36 (e4 m9) (fun _ h => M7.out.below h M7.out.lt) Try.underlying36 rfl (by rw [e4_size]; kernel_rfl)) ((below_dr W8)) ?_
      (try simp only [sI, sS, sZ])
      refine wpBut_r1 (i := 2) (by kernel_rfl) ?_
      refine go_call 2 34 #[true, true, true, false, true, false, false] rfl rfl rfl (by rfl) rfl rfl (by rfl) ent110 (by rfl) (Hg100.out m10 hm10 _) ?_
      rintro e wW81 ⟨m11, hm11, hm11r, rfl, hb⟩
      have hkW81 := held_next (below_dr W8) hb
      refine ⟨_, rfl, fun _ => hkW81, ?_⟩
      clear hb
      (try simp only [sI, sS, sZ])
      refine wpBut_r1 (i := 3) (by kernel_rfl) ?_
      refine go_call 3 35 #[true, true, true, true, true, false, false] rfl rfl rfl (by rfl) rfl rfl (by rfl) ent83 (by rfl) (Hs50.out m11 hm11 _) ?_
      rintro e wW82 ⟨m12, hm12, hm12r, rfl, hb⟩
      have hkW82 := held_next hkW81 hb
      refine ⟨_, rfl, fun _ => hkW82, ?_⟩
      clear hb
      (try simp only [sI, sS, sZ])
      refine wpBut_r1 (i := 5) (by kernel_rfl) ?_
      refine go_call 5 37 #[true, true, true, true, true, true, false] rfl rfl rfl (by rfl) rfl rfl (by rfl) ent31 (by rfl) (Ht.out m12 m9 hm12 hm9 _) ?_
      rintro e wW83 ⟨m13, hm13, hm13r, rfl, hb⟩
      have hkW83 := held_next hkW82 hb
      refine ⟨_, rfl, fun _ => hkW83, ?_⟩
      clear hb
      (try simp only [sI, sS, sZ])
      refine wpBut_r1 (i := 6) (by kernel_rfl) ?_
      obtain ⟨Zq, hZ, mZ⟩ := M1N.out.below hkW83 M1N.out.lt
      have MZ := Lib.hid mZ; clear mZ
      have HZ := Lib.hid hZ; clear hZ
      refine go_store 6 #[true, true, true, true, true, true, true] rfl rfl rfl (by rfl) 36 _ _ rfl (w.heap.size + 1) _ rfl rfl 36 Zq MZ.out (by rw [e4_size]; kernel_rfl) (HZ.out.trans (e4_size ..).symm) (row_one _ _ _) ⟨fun h => (h rfl).elim, ?_⟩
      (try simp only [sI, sS, sZ])
      refine wpBut_done (by kernel_rfl) (NoPanic.normal ?_)
      replace M7 := Lib.hid ((M7.out.call hkW83).setRow_other (w.heap.size + 1) (e4 m13) (by omega))
      replace M8 := Lib.hid ((M8.out.call hkW83).setRow_other (w.heap.size + 1) (e4 m13) (by omega))
      clear M1 M1N
      have M1 := Lib.hid (MZ.out.setRow (e4 m13)); clear MZ HZ
      replace HB := Lib.hid (below_setRow (held_next HB.out hkW83) (w.heap.size + 1) (e4 m13) (by omega))
      have hfin := Hpa.out m10 m11 m12 m9 m13 Hk10.out Hm9r.out hm11r hm12r hm13r
      have Hfin := Lib.hid hfin; clear hfin
      go_wp2_with fail
      exact bodyPost_ret (v := .agg (e4 m13)) (results_cell_row (t := 36) (by rfl) _ _ (w.heap.size + 1) _ _ _ rfl M1.out Try.underlying36 rfl (by rw [e4_size]; kernel_rfl)) rfl ⟨m13, hm13, Hfin.out, rfl, HB.out⟩
end Go.Proofs.Ytjiagjonlcadiaa
