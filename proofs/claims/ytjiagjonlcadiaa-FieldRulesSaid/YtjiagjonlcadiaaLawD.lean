/- The laws of chapter 03: sums. -/
import Derived.Test.YtjiagjonlcadiaaLawC
namespace Go.Proofs.Ytjiagjonlcadiaa
open Go.RowKit Go.Lib

theorem minus_agree (a b A B m : Nat) (hA : A = a % PP) (hB : B = b % PP) (hm : m % PP = (a % PP + (PP - b % PP)) % PP) : m % PP = (A + (PP - B)) % PP := by rw [hm, hA, hB]
theorem plus_agree (a b A B m : Nat) (hA : A = a % PP) (hB : B = b % PP) (hm : m % PP = (a + b) % PP) : m % PP = (A + B) % PP := by rw [hm, hA, hB, ← Nat.add_mod]

set_option maxRecDepth 100000 in
set_option linter.unusedSimpArgs false in
set_option maxHeartbeats 8000000 in
theorem law_sums (n1 n2 : Nat) (hn1 : n1 < 115792089237316195423570985008687907853269984665640564039457584007913129639936) (hn2 : n2 < 115792089237316195423570985008687907853269984665640564039457584007913129639936) (w : World) :
    Calls Try.prog 7 #[.agg (k32 n1), .agg (k32 n2)] w fun e w' => e = .returned (.bool true) ∧ Below w.heap.size w w' := by
  have hal := law3_alive
  have hp := plus_any
  have hmi := minus_any
  have hrp := fun a b ha hb w => rplus_any a b (PPr_22 a ha) (PPr_22 b hb) w
  have hrm := rminus_any
  have his := lis_yes
  obtain ⟨a1, ha1⟩ : ∃ a, a = n1 % 57896044618658097711785492504343953926634992332820282019728792003956564819968 := ⟨_, rfl⟩
  obtain ⟨A1, hA1⟩ : ∃ A, A = a1 % PP := ⟨_, rfl⟩
  have hf1 := fun w => fof_a n1 a1 hn1 ha1 w
  have hr1 := fun w => rof_a n1 a1 A1 ha1 hA1 w
  have hal1 : a1 < 115792089237316195423570985008687907853269984665640564039457584007913129639936 := by rw [ha1]; exact fof_lt _
  have hAl1 : A1 < PP := by rw [hA1]; exact Nat.mod_lt _ PP_pos
  have Hf1 := Lib.hid hf1; clear hf1
  have Hr1 := Lib.hid hr1; clear hr1
  have Hal1 := Lib.hid hal1; clear hal1
  have HAl1 := Lib.hid hAl1; clear hAl1
  have HA1 := Lib.hid hA1; clear hA1
  clear ha1 hn1
  obtain ⟨a2, ha2⟩ : ∃ a, a = n2 % 57896044618658097711785492504343953926634992332820282019728792003956564819968 := ⟨_, rfl⟩
  obtain ⟨A2, hA2⟩ : ∃ A, A = a2 % PP := ⟨_, rfl⟩
  have hf2 := fun w => fof_a n2 a2 hn2 ha2 w
  have hr2 := fun w => rof_a n2 a2 A2 ha2 hA2 w
  have hal2 : a2 < 115792089237316195423570985008687907853269984665640564039457584007913129639936 := by rw [ha2]; exact fof_lt _
  have hAl2 : A2 < PP := by rw [hA2]; exact Nat.mod_lt _ PP_pos
  have Hf2 := Lib.hid hf2; clear hf2
  have Hr2 := Lib.hid hr2; clear hr2
  have Hal2 := Lib.hid hal2; clear hal2
  have HAl2 := Lib.hid hAl2; clear hAl2
  have HA2 := Lib.hid hA2; clear hA2
  clear ha2 hn2
  have hiq := fun w => is_any a1 a2 Hal1.out Hal2.out w
  rw [← HA1.out, ← HA2.out] at hiq
  have heq := fun w => r22_eq A1 A2 (PPr_22 A1 HAl1.out) (PPr_22 A2 HAl2.out) w
  obtain ⟨b, hb⟩ : ∃ b, b = decide (A1 = A2) := ⟨_, rfl⟩
  rw [← hb] at hiq heq
  clear hb
  have Hal := Lib.hid hal; clear hal
  have Hp := Lib.hid hp; clear hp
  have Hmi := Lib.hid hmi; clear hmi
  have Hrp := Lib.hid hrp; clear hrp
  have Hrm := Lib.hid hrm; clear hrm
  have His := Lib.hid his; clear his
  have Hiq := Lib.hid hiq; clear hiq
  go_enter Try.func7, Try.ntmps7
  repeat ((fail_if_success (with_reducible (show wpList _ _ _ _ _ _))); go_step)
  refine wpList_step (fun K hK => ?_)
  go_simp
  (try go_bits)
  refine hK _ _ ?_
  clear hK K
  refine wpList_step (fun K hK => ?_)
  go_simp
  (try go_bits)
  refine hK _ _ ?_
  clear hK K
  refine wpList_step (fun K hK => ?_)
  go_simp
  (try go_bits)
  refine hK _ _ ?_
  clear hK K
  refine wpList_nil ?_
  have M2 := Lib.hid ((Has.new w  (k32 n1) 24).alloc (.cells (k32 n2) 24))
  have M3 := Lib.hid (Has.new1 w (.cells (k32 n1) 24) (k32 n2) 24)
  have HB := Lib.hid (below_2 w (.cells (k32 n1) 24) (.cells (k32 n2) 24))
  repeat ((fail_if_success (with_reducible (show wpList _ _ _ _ _ _))); go_step)
  refine wp_region_meet (α := Nat × Nat) (fun W0 x w' => W0.heap.size ≤ x.1 ∧ Has w' x.1 (r22 A1) 40 ∧ W0.heap.size ≤ x.2 ∧ Has w' x.2 (r22 A2) 40 ∧ Below W0.heap.size W0 w') (fun ac x => ((((((ac.put (some 9) (.agg (k32 n1))).put (some 10) (.agg (r22 A1))).put (some 11) (.agg (k32 n2))).put (some 12) (.agg (r22 A2))).put (some 5) (.pointer (some ⟨x.1, 0, none⟩))).put (some 6) (.pointer (some ⟨x.2, 0, none⟩)))) ?_ ?_
  · intro Q' hQ'
    refine wp_region_noPanic ?_
    refine wp_region_go 99 8 #[false, false, false, false, false, false, false, false] (by kernel_rfl) rfl rfl ?_
    intro W1 hW1
    rw [← hW1] at hQ'
    simp only [Act.put, List.setIfInBounds_toArray, List.set_cons_succ, List.set_cons_zero] at hQ'
    have HQ := Lib.hid hQ'; clear hQ'
    have kq := M2.out; rw [← hW1] at kq; clear M2; have M2 := Lib.hid kq; clear kq
    have kq := M3.out; rw [← hW1] at kq; clear M3; have M3 := Lib.hid kq; clear kq
    have kq := HB.out; rw [← hW1] at kq; clear HB; have HB := Lib.hid kq; clear kq
    clear hW1
    refine go_take 0 9 #[true, false, false, false, false, false, false, false] rfl rfl rfl (by kernel_rfl) (by kernel_rfl) (by kernel_rfl) (by kernel_rfl) (by kernel_rfl) (yieldsIf_load_row (by rfl) 24 _ rfl (w.heap.size) rfl 24 (k32 n1) (fun _ h => M2.out.below h M2.out.lt) Try.underlying24 rfl (by rw [k32_size]; kernel_rfl)) ((show Below W1.heap.size W1 W1.drew from (Below.refl _ _).drew)) ?_
    (try simp only [List.setIfInBounds_toArray, List.set_cons_succ, List.set_cons_zero])
    refine go_take 2 11 #[true, false, true, false, false, false, false, false] rfl rfl rfl (by kernel_rfl) (by kernel_rfl) (by kernel_rfl) (by kernel_rfl) (by kernel_rfl) (yieldsIf_load_row (by rfl) 24 _ rfl (w.heap.size + 1) rfl 24 (k32 n2) (fun _ h => M3.out.below h M3.out.lt) Try.underlying24 rfl (by rw [k32_size]; kernel_rfl)) ((show Below W1.heap.size W1 W1.drew from (Below.refl _ _).drew)) ?_
    (try simp only [List.setIfInBounds_toArray, List.set_cons_succ, List.set_cons_zero])
    refine wpBut_r3 (i := 1) (j := 4) (l := 5) (by kernel_rfl) ?_ ?_ ?_
    · refine go_call 1 10 #[true, true, true, false, false, false, false, false] rfl rfl rfl (by rfl) rfl rfl (by rfl) ent33 (by rfl) (Hr1.out _) ?_
      rintro e wW11 ⟨rfl, hb⟩
      have hkW11 := held_next (show Below W1.heap.size W1 W1.drew from (Below.refl _ _).drew) hb
      refine ⟨_, rfl, fun _ => hkW11, ?_⟩
      clear hb
      (try simp only [List.setIfInBounds_toArray, List.set_cons_succ, List.set_cons_zero])
      refine wpBut_r3 (i := 3) (j := 4) (l := 5) (by kernel_rfl) ?_ ?_ ?_
      · refine go_call 3 12 #[true, true, true, true, false, false, false, false] rfl rfl rfl (by rfl) rfl rfl (by rfl) ent33 (by rfl) (Hr2.out _) ?_
        rintro e wW12 ⟨rfl, hb⟩
        have hkW12 := held_next hkW11 hb
        refine ⟨_, rfl, fun _ => hkW12, ?_⟩
        clear hb
        (try simp only [List.setIfInBounds_toArray, List.set_cons_succ, List.set_cons_zero])
        refine wpBut_r2 (i := 4) (j := 5) (by kernel_rfl) ?_ ?_
        · refine go_alloc 4 5 #[true, true, true, true, true, false, false, false] rfl rfl rfl (by rfl) 40 rfl _ al40 ?_
          intro wW13 hw2
          have hkW13 := (hkW12).alloc (hkW12).size (.cells (#[.int .i64 0, .int .i64 0, .int .i64 0, .int .i64 0, .int .i64 0, .int .i64 0, .int .i64 0, .int .i64 0, .int .i64 0, .int .i64 0, .int .i64 0, .int .i64 0, .int .i64 0, .int .i64 0, .int .i64 0, .int .i64 0, .int .i64 0, .int .i64 0, .int .i64 0, .int .i64 0, .int .i64 0, .int .i64 0] : Array Value) 40)
          rw [← hw2] at hkW13
          have MQ := HasN.new (wW12) (#[.int .i64 0, .int .i64 0, .int .i64 0, .int .i64 0, .int .i64 0, .int .i64 0, .int .i64 0, .int .i64 0, .int .i64 0, .int .i64 0, .int .i64 0, .int .i64 0, .int .i64 0, .int .i64 0, .int .i64 0, .int .i64 0, .int .i64 0, .int .i64 0, .int .i64 0, .int .i64 0, .int .i64 0, .int .i64 0] : Array Value) 40 22 rfl; rw [← hw2] at MQ; have MA4 := Lib.hid MQ; clear MQ
          have HA4 := Lib.hid (show W1.heap.size ≤ _ from (hkW12).size)
          clear hw2
          refine ⟨fun _ => hkW13, ?_⟩
          (try simp only [List.setIfInBounds_toArray, List.set_cons_succ, List.set_cons_zero])
          refine wpBut_r1 (i := 5) (by kernel_rfl) ?_
          refine go_alloc 5 6 #[true, true, true, true, true, true, false, false] rfl rfl rfl (by rfl) 40 rfl _ al40 ?_
          intro wW14 hw2
          have hkW14 := (hkW13).alloc (hkW13).size (.cells (#[.int .i64 0, .int .i64 0, .int .i64 0, .int .i64 0, .int .i64 0, .int .i64 0, .int .i64 0, .int .i64 0, .int .i64 0, .int .i64 0, .int .i64 0, .int .i64 0, .int .i64 0, .int .i64 0, .int .i64 0, .int .i64 0, .int .i64 0, .int .i64 0, .int .i64 0, .int .i64 0, .int .i64 0, .int .i64 0] : Array Value) 40)
          rw [← hw2] at hkW14
          have hne4_5 := MA4.out.lt
          have MQ := MA4.out.alloc (.cells (#[.int .i64 0, .int .i64 0, .int .i64 0, .int .i64 0, .int .i64 0, .int .i64 0, .int .i64 0, .int .i64 0, .int .i64 0, .int .i64 0, .int .i64 0, .int .i64 0, .int .i64 0, .int .i64 0, .int .i64 0, .int .i64 0, .int .i64 0, .int .i64 0, .int .i64 0, .int .i64 0, .int .i64 0, .int .i64 0] : Array Value) 40); rw [← hw2] at MQ; clear MA4; have MA4 := Lib.hid MQ; clear MQ
          have MQ := HasN.new (wW13) (#[.int .i64 0, .int .i64 0, .int .i64 0, .int .i64 0, .int .i64 0, .int .i64 0, .int .i64 0, .int .i64 0, .int .i64 0, .int .i64 0, .int .i64 0, .int .i64 0, .int .i64 0, .int .i64 0, .int .i64 0, .int .i64 0, .int .i64 0, .int .i64 0, .int .i64 0, .int .i64 0, .int .i64 0, .int .i64 0] : Array Value) 40 22 rfl; rw [← hw2] at MQ; have MA5 := Lib.hid MQ; clear MQ
          have HA5 := Lib.hid (show W1.heap.size ≤ _ from (hkW13).size)
          clear hw2
          refine ⟨fun _ => hkW14, ?_⟩
          (try simp only [List.setIfInBounds_toArray, List.set_cons_succ, List.set_cons_zero])
          refine wpBut_r1 (i := 6) (by kernel_rfl) ?_
          obtain ⟨Z, hZ, mZ⟩ := MA4.out
          refine go_store2 6 #[true, true, true, true, true, true, true, false] rfl rfl rfl (by rfl) 40 _ _ rfl _ _ rfl rfl 40 Z mZ (by rw [r22_size]; kernel_rfl) (hZ.trans (r22_size _).symm) (row_one _ _ _) ?_
          intro wW15 hw2
          have hkW15 := below_setRow (hkW14) _ (r22 A1) HA4.out
          rw [← hw2] at hkW15
          clear MA4
          have MQ := MA5.out.setRow_other _ (r22 A1) (show _ ≠ wW12.heap.size by omega); rw [← hw2] at MQ; clear MA5; have MA5 := Lib.hid MQ; clear MQ
          have MQ := mZ.setRow (r22 A1); rw [← hw2] at MQ; have MA4 := Lib.hid MQ; clear MQ mZ hZ hw2
          refine ⟨fun _ => hkW15, ?_⟩
          (try simp only [List.setIfInBounds_toArray, List.set_cons_succ, List.set_cons_zero])
          refine wpBut_r1 (i := 7) (by kernel_rfl) ?_
          obtain ⟨Z, hZ, mZ⟩ := MA5.out
          refine go_store2 7 #[true, true, true, true, true, true, true, true] rfl rfl rfl (by rfl) 40 _ _ rfl _ _ rfl rfl 40 Z mZ (by rw [r22_size]; kernel_rfl) (hZ.trans (r22_size _).symm) (row_one _ _ _) ?_
          intro wW16 hw2
          have hkW16 := below_setRow (hkW15) _ (r22 A2) HA5.out
          rw [← hw2] at hkW16
          clear MA5
          have MQ := MA4.out.setRow_other _ (r22 A2) (show _ ≠ wW13.heap.size by omega); rw [← hw2] at MQ; clear MA4; have MA4 := Lib.hid MQ; clear MQ
          have MQ := mZ.setRow (r22 A2); rw [← hw2] at MQ; have MA5 := Lib.hid MQ; clear MQ mZ hZ hw2
          refine ⟨fun _ => hkW16, ?_⟩
          (try simp only [List.setIfInBounds_toArray, List.set_cons_succ, List.set_cons_zero])
          exact wpBut_done (by kernel_rfl) (NoPanic.normal (HQ.out (_, _) _ ⟨HA4.out, MA4.out, HA5.out, MA5.out, (hkW16)⟩))
        · refine go_alloc 5 6 #[true, true, true, true, false, true, false, false] rfl rfl rfl (by rfl) 40 rfl _ al40 ?_
          intro wW13 hw2
          have hkW13 := (hkW12).alloc (hkW12).size (.cells (#[.int .i64 0, .int .i64 0, .int .i64 0, .int .i64 0, .int .i64 0, .int .i64 0, .int .i64 0, .int .i64 0, .int .i64 0, .int .i64 0, .int .i64 0, .int .i64 0, .int .i64 0, .int .i64 0, .int .i64 0, .int .i64 0, .int .i64 0, .int .i64 0, .int .i64 0, .int .i64 0, .int .i64 0, .int .i64 0] : Array Value) 40)
          rw [← hw2] at hkW13
          have MQ := HasN.new (wW12) (#[.int .i64 0, .int .i64 0, .int .i64 0, .int .i64 0, .int .i64 0, .int .i64 0, .int .i64 0, .int .i64 0, .int .i64 0, .int .i64 0, .int .i64 0, .int .i64 0, .int .i64 0, .int .i64 0, .int .i64 0, .int .i64 0, .int .i64 0, .int .i64 0, .int .i64 0, .int .i64 0, .int .i64 0, .int .i64 0] : Array Value) 40 22 rfl; rw [← hw2] at MQ; have MA5 := Lib.hid MQ; clear MQ
          have HA5 := Lib.hid (show W1.heap.size ≤ _ from (hkW12).size)
          clear hw2
          refine ⟨fun _ => hkW13, ?_⟩
          (try simp only [List.setIfInBounds_toArray, List.set_cons_succ, List.set_cons_zero])
          refine wpBut_r1 (i := 4) (by kernel_rfl) ?_
          refine go_alloc 4 5 #[true, true, true, true, true, true, false, false] rfl rfl rfl (by rfl) 40 rfl _ al40 ?_
          intro wW14 hw2
          have hkW14 := (hkW13).alloc (hkW13).size (.cells (#[.int .i64 0, .int .i64 0, .int .i64 0, .int .i64 0, .int .i64 0, .int .i64 0, .int .i64 0, .int .i64 0, .int .i64 0, .int .i64 0, .int .i64 0, .int .i64 0, .int .i64 0, .int .i64 0, .int .i64 0, .int .i64 0, .int .i64 0, .int .i64 0, .int .i64 0, .int .i64 0, .int .i64 0, .int .i64 0] : Array Value) 40)
          rw [← hw2] at hkW14
          have hne5_4 := MA5.out.lt
          have MQ := MA5.out.alloc (.cells (#[.int .i64 0, .int .i64 0, .int .i64 0, .int .i64 0, .int .i64 0, .int .i64 0, .int .i64 0, .int .i64 0, .int .i64 0, .int .i64 0, .int .i64 0, .int .i64 0, .int .i64 0, .int .i64 0, .int .i64 0, .int .i64 0, .int .i64 0, .int .i64 0, .int .i64 0, .int .i64 0, .int .i64 0, .int .i64 0] : Array Value) 40); rw [← hw2] at MQ; clear MA5; have MA5 := Lib.hid MQ; clear MQ
          have MQ := HasN.new (wW13) (#[.int .i64 0, .int .i64 0, .int .i64 0, .int .i64 0, .int .i64 0, .int .i64 0, .int .i64 0, .int .i64 0, .int .i64 0, .int .i64 0, .int .i64 0, .int .i64 0, .int .i64 0, .int .i64 0, .int .i64 0, .int .i64 0, .int .i64 0, .int .i64 0, .int .i64 0, .int .i64 0, .int .i64 0, .int .i64 0] : Array Value) 40 22 rfl; rw [← hw2] at MQ; have MA4 := Lib.hid MQ; clear MQ
          have HA4 := Lib.hid (show W1.heap.size ≤ _ from (hkW13).size)
          clear hw2
          refine ⟨fun _ => hkW14, ?_⟩
          (try simp only [List.setIfInBounds_toArray, List.set_cons_succ, List.set_cons_zero])
          refine wpBut_r1 (i := 6) (by kernel_rfl) ?_
          obtain ⟨Z, hZ, mZ⟩ := MA4.out
          refine go_store2 6 #[true, true, true, true, true, true, true, false] rfl rfl rfl (by rfl) 40 _ _ rfl _ _ rfl rfl 40 Z mZ (by rw [r22_size]; kernel_rfl) (hZ.trans (r22_size _).symm) (row_one _ _ _) ?_
          intro wW15 hw2
          have hkW15 := below_setRow (hkW14) _ (r22 A1) HA4.out
          rw [← hw2] at hkW15
          clear MA4
          have MQ := MA5.out.setRow_other _ (r22 A1) (show _ ≠ wW13.heap.size by omega); rw [← hw2] at MQ; clear MA5; have MA5 := Lib.hid MQ; clear MQ
          have MQ := mZ.setRow (r22 A1); rw [← hw2] at MQ; have MA4 := Lib.hid MQ; clear MQ mZ hZ hw2
          refine ⟨fun _ => hkW15, ?_⟩
          (try simp only [List.setIfInBounds_toArray, List.set_cons_succ, List.set_cons_zero])
          refine wpBut_r1 (i := 7) (by kernel_rfl) ?_
          obtain ⟨Z, hZ, mZ⟩ := MA5.out
          refine go_store2 7 #[true, true, true, true, true, true, true, true] rfl rfl rfl (by rfl) 40 _ _ rfl _ _ rfl rfl 40 Z mZ (by rw [r22_size]; kernel_rfl) (hZ.trans (r22_size _).symm) (row_one _ _ _) ?_
          intro wW16 hw2
          have hkW16 := below_setRow (hkW15) _ (r22 A2) HA5.out
          rw [← hw2] at hkW16
          clear MA5
          have MQ := MA4.out.setRow_other _ (r22 A2) (show _ ≠ wW12.heap.size by omega); rw [← hw2] at MQ; clear MA4; have MA4 := Lib.hid MQ; clear MQ
          have MQ := mZ.setRow (r22 A2); rw [← hw2] at MQ; have MA5 := Lib.hid MQ; clear MQ mZ hZ hw2
          refine ⟨fun _ => hkW16, ?_⟩
          (try simp only [List.setIfInBounds_toArray, List.set_cons_succ, List.set_cons_zero])
          exact wpBut_done (by kernel_rfl) (NoPanic.normal (HQ.out (_, _) _ ⟨HA4.out, MA4.out, HA5.out, MA5.out, (hkW16)⟩))
      · refine go_alloc 4 5 #[true, true, true, false, true, false, false, false] rfl rfl rfl (by rfl) 40 rfl _ al40 ?_
        intro wW12 hw2
        have hkW12 := (hkW11).alloc (hkW11).size (.cells (#[.int .i64 0, .int .i64 0, .int .i64 0, .int .i64 0, .int .i64 0, .int .i64 0, .int .i64 0, .int .i64 0, .int .i64 0, .int .i64 0, .int .i64 0, .int .i64 0, .int .i64 0, .int .i64 0, .int .i64 0, .int .i64 0, .int .i64 0, .int .i64 0, .int .i64 0, .int .i64 0, .int .i64 0, .int .i64 0] : Array Value) 40)
        rw [← hw2] at hkW12
        have MQ := HasN.new (wW11) (#[.int .i64 0, .int .i64 0, .int .i64 0, .int .i64 0, .int .i64 0, .int .i64 0, .int .i64 0, .int .i64 0, .int .i64 0, .int .i64 0, .int .i64 0, .int .i64 0, .int .i64 0, .int .i64 0, .int .i64 0, .int .i64 0, .int .i64 0, .int .i64 0, .int .i64 0, .int .i64 0, .int .i64 0, .int .i64 0] : Array Value) 40 22 rfl; rw [← hw2] at MQ; have MA4 := Lib.hid MQ; clear MQ
        have HA4 := Lib.hid (show W1.heap.size ≤ _ from (hkW11).size)
        clear hw2
        refine ⟨fun _ => hkW12, ?_⟩
        (try simp only [List.setIfInBounds_toArray, List.set_cons_succ, List.set_cons_zero])
        refine wpBut_r2 (i := 3) (j := 5) (by kernel_rfl) ?_ ?_
        · refine go_call 3 12 #[true, true, true, true, true, false, false, false] rfl rfl rfl (by rfl) rfl rfl (by rfl) ent33 (by rfl) (Hr2.out _) ?_
          rintro e wW13 ⟨rfl, hb⟩
          have hkW13 := held_next hkW12 hb
          have MQ4 := Lib.hid (MA4.out.call hb); clear MA4
          have MA4 := MQ4; clear MQ4
          refine ⟨_, rfl, fun _ => hkW13, ?_⟩
          clear hb
          (try simp only [List.setIfInBounds_toArray, List.set_cons_succ, List.set_cons_zero])
          refine wpBut_r1 (i := 5) (by kernel_rfl) ?_
          refine go_alloc 5 6 #[true, true, true, true, true, true, false, false] rfl rfl rfl (by rfl) 40 rfl _ al40 ?_
          intro wW14 hw2
          have hkW14 := (hkW13).alloc (hkW13).size (.cells (#[.int .i64 0, .int .i64 0, .int .i64 0, .int .i64 0, .int .i64 0, .int .i64 0, .int .i64 0, .int .i64 0, .int .i64 0, .int .i64 0, .int .i64 0, .int .i64 0, .int .i64 0, .int .i64 0, .int .i64 0, .int .i64 0, .int .i64 0, .int .i64 0, .int .i64 0, .int .i64 0, .int .i64 0, .int .i64 0] : Array Value) 40)
          rw [← hw2] at hkW14
          have hne4_5 := MA4.out.lt
          have MQ := MA4.out.alloc (.cells (#[.int .i64 0, .int .i64 0, .int .i64 0, .int .i64 0, .int .i64 0, .int .i64 0, .int .i64 0, .int .i64 0, .int .i64 0, .int .i64 0, .int .i64 0, .int .i64 0, .int .i64 0, .int .i64 0, .int .i64 0, .int .i64 0, .int .i64 0, .int .i64 0, .int .i64 0, .int .i64 0, .int .i64 0, .int .i64 0] : Array Value) 40); rw [← hw2] at MQ; clear MA4; have MA4 := Lib.hid MQ; clear MQ
          have MQ := HasN.new (wW13) (#[.int .i64 0, .int .i64 0, .int .i64 0, .int .i64 0, .int .i64 0, .int .i64 0, .int .i64 0, .int .i64 0, .int .i64 0, .int .i64 0, .int .i64 0, .int .i64 0, .int .i64 0, .int .i64 0, .int .i64 0, .int .i64 0, .int .i64 0, .int .i64 0, .int .i64 0, .int .i64 0, .int .i64 0, .int .i64 0] : Array Value) 40 22 rfl; rw [← hw2] at MQ; have MA5 := Lib.hid MQ; clear MQ
          have HA5 := Lib.hid (show W1.heap.size ≤ _ from (hkW13).size)
          clear hw2
          refine ⟨fun _ => hkW14, ?_⟩
          (try simp only [List.setIfInBounds_toArray, List.set_cons_succ, List.set_cons_zero])
          refine wpBut_r1 (i := 6) (by kernel_rfl) ?_
          obtain ⟨Z, hZ, mZ⟩ := MA4.out
          refine go_store2 6 #[true, true, true, true, true, true, true, false] rfl rfl rfl (by rfl) 40 _ _ rfl _ _ rfl rfl 40 Z mZ (by rw [r22_size]; kernel_rfl) (hZ.trans (r22_size _).symm) (row_one _ _ _) ?_
          intro wW15 hw2
          have hkW15 := below_setRow (hkW14) _ (r22 A1) HA4.out
          rw [← hw2] at hkW15
          clear MA4
          have MQ := MA5.out.setRow_other _ (r22 A1) (show _ ≠ wW11.heap.size by omega); rw [← hw2] at MQ; clear MA5; have MA5 := Lib.hid MQ; clear MQ
          have MQ := mZ.setRow (r22 A1); rw [← hw2] at MQ; have MA4 := Lib.hid MQ; clear MQ mZ hZ hw2
          refine ⟨fun _ => hkW15, ?_⟩
          (try simp only [List.setIfInBounds_toArray, List.set_cons_succ, List.set_cons_zero])
          refine wpBut_r1 (i := 7) (by kernel_rfl) ?_
          obtain ⟨Z, hZ, mZ⟩ := MA5.out
          refine go_store2 7 #[true, true, true, true, true, true, true, true] rfl rfl rfl (by rfl) 40 _ _ rfl _ _ rfl rfl 40 Z mZ (by rw [r22_size]; kernel_rfl) (hZ.trans (r22_size _).symm) (row_one _ _ _) ?_
          intro wW16 hw2
          have hkW16 := below_setRow (hkW15) _ (r22 A2) HA5.out
          rw [← hw2] at hkW16
          clear MA5
          have MQ := MA4.out.setRow_other _ (r22 A2) (show _ ≠ wW13.heap.size by omega); rw [← hw2] at MQ; clear MA4; have MA4 := Lib.hid MQ; clear MQ
          have MQ := mZ.setRow (r22 A2); rw [← hw2] at MQ; have MA5 := Lib.hid MQ; clear MQ mZ hZ hw2
          refine ⟨fun _ => hkW16, ?_⟩
          (try simp only [List.setIfInBounds_toArray, List.set_cons_succ, List.set_cons_zero])
          exact wpBut_done (by kernel_rfl) (NoPanic.normal (HQ.out (_, _) _ ⟨HA4.out, MA4.out, HA5.out, MA5.out, (hkW16)⟩))
        · refine go_alloc 5 6 #[true, true, true, false, true, true, false, false] rfl rfl rfl (by rfl) 40 rfl _ al40 ?_
          intro wW13 hw2
          have hkW13 := (hkW12).alloc (hkW12).size (.cells (#[.int .i64 0, .int .i64 0, .int .i64 0, .int .i64 0, .int .i64 0, .int .i64 0, .int .i64 0, .int .i64 0, .int .i64 0, .int .i64 0, .int .i64 0, .int .i64 0, .int .i64 0, .int .i64 0, .int .i64 0, .int .i64 0, .int .i64 0, .int .i64 0, .int .i64 0, .int .i64 0, .int .i64 0, .int .i64 0] : Array Value) 40)
          rw [← hw2] at hkW13
          have hne4_5 := MA4.out.lt
          have MQ := MA4.out.alloc (.cells (#[.int .i64 0, .int .i64 0, .int .i64 0, .int .i64 0, .int .i64 0, .int .i64 0, .int .i64 0, .int .i64 0, .int .i64 0, .int .i64 0, .int .i64 0, .int .i64 0, .int .i64 0, .int .i64 0, .int .i64 0, .int .i64 0, .int .i64 0, .int .i64 0, .int .i64 0, .int .i64 0, .int .i64 0, .int .i64 0] : Array Value) 40); rw [← hw2] at MQ; clear MA4; have MA4 := Lib.hid MQ; clear MQ
          have MQ := HasN.new (wW12) (#[.int .i64 0, .int .i64 0, .int .i64 0, .int .i64 0, .int .i64 0, .int .i64 0, .int .i64 0, .int .i64 0, .int .i64 0, .int .i64 0, .int .i64 0, .int .i64 0, .int .i64 0, .int .i64 0, .int .i64 0, .int .i64 0, .int .i64 0, .int .i64 0, .int .i64 0, .int .i64 0, .int .i64 0, .int .i64 0] : Array Value) 40 22 rfl; rw [← hw2] at MQ; have MA5 := Lib.hid MQ; clear MQ
          have HA5 := Lib.hid (show W1.heap.size ≤ _ from (hkW12).size)
          clear hw2
          refine ⟨fun _ => hkW13, ?_⟩
          (try simp only [List.setIfInBounds_toArray, List.set_cons_succ, List.set_cons_zero])
          refine wpBut_r1 (i := 3) (by kernel_rfl) ?_
          refine go_call 3 12 #[true, true, true, true, true, true, false, false] rfl rfl rfl (by rfl) rfl rfl (by rfl) ent33 (by rfl) (Hr2.out _) ?_
          rintro e wW14 ⟨rfl, hb⟩
          have hkW14 := held_next hkW13 hb
          have MQ4 := Lib.hid (MA4.out.call hb); clear MA4
          have MA4 := MQ4; clear MQ4
          have MQ5 := Lib.hid (MA5.out.call hb); clear MA5
          have MA5 := MQ5; clear MQ5
          refine ⟨_, rfl, fun _ => hkW14, ?_⟩
          clear hb
          (try simp only [List.setIfInBounds_toArray, List.set_cons_succ, List.set_cons_zero])
          refine wpBut_r1 (i := 6) (by kernel_rfl) ?_
          obtain ⟨Z, hZ, mZ⟩ := MA4.out
          refine go_store2 6 #[true, true, true, true, true, true, true, false] rfl rfl rfl (by rfl) 40 _ _ rfl _ _ rfl rfl 40 Z mZ (by rw [r22_size]; kernel_rfl) (hZ.trans (r22_size _).symm) (row_one _ _ _) ?_
          intro wW15 hw2
          have hkW15 := below_setRow (hkW14) _ (r22 A1) HA4.out
          rw [← hw2] at hkW15
          clear MA4
          have MQ := MA5.out.setRow_other _ (r22 A1) (show _ ≠ wW11.heap.size by omega); rw [← hw2] at MQ; clear MA5; have MA5 := Lib.hid MQ; clear MQ
          have MQ := mZ.setRow (r22 A1); rw [← hw2] at MQ; have MA4 := Lib.hid MQ; clear MQ mZ hZ hw2
          refine ⟨fun _ => hkW15, ?_⟩
          (try simp only [List.setIfInBounds_toArray, List.set_cons_succ, List.set_cons_zero])
          refine wpBut_r1 (i := 7) (by kernel_rfl) ?_
          obtain ⟨Z, hZ, mZ⟩ := MA5.out
          refine go_store2 7 #[true, true, true, true, true, true, true, true] rfl rfl rfl (by rfl) 40 _ _ rfl _ _ rfl rfl 40 Z mZ (by rw [r22_size]; kernel_rfl) (hZ.trans (r22_size _).symm) (row_one _ _ _) ?_
          intro wW16 hw2
          have hkW16 := below_setRow (hkW15) _ (r22 A2) HA5.out
          rw [← hw2] at hkW16
          clear MA5
          have MQ := MA4.out.setRow_other _ (r22 A2) (show _ ≠ wW12.heap.size by omega); rw [← hw2] at MQ; clear MA4; have MA4 := Lib.hid MQ; clear MQ
          have MQ := mZ.setRow (r22 A2); rw [← hw2] at MQ; have MA5 := Lib.hid MQ; clear MQ mZ hZ hw2
          refine ⟨fun _ => hkW16, ?_⟩
          (try simp only [List.setIfInBounds_toArray, List.set_cons_succ, List.set_cons_zero])
          exact wpBut_done (by kernel_rfl) (NoPanic.normal (HQ.out (_, _) _ ⟨HA4.out, MA4.out, HA5.out, MA5.out, (hkW16)⟩))
      · refine go_alloc 5 6 #[true, true, true, false, false, true, false, false] rfl rfl rfl (by rfl) 40 rfl _ al40 ?_
        intro wW12 hw2
        have hkW12 := (hkW11).alloc (hkW11).size (.cells (#[.int .i64 0, .int .i64 0, .int .i64 0, .int .i64 0, .int .i64 0, .int .i64 0, .int .i64 0, .int .i64 0, .int .i64 0, .int .i64 0, .int .i64 0, .int .i64 0, .int .i64 0, .int .i64 0, .int .i64 0, .int .i64 0, .int .i64 0, .int .i64 0, .int .i64 0, .int .i64 0, .int .i64 0, .int .i64 0] : Array Value) 40)
        rw [← hw2] at hkW12
        have MQ := HasN.new (wW11) (#[.int .i64 0, .int .i64 0, .int .i64 0, .int .i64 0, .int .i64 0, .int .i64 0, .int .i64 0, .int .i64 0, .int .i64 0, .int .i64 0, .int .i64 0, .int .i64 0, .int .i64 0, .int .i64 0, .int .i64 0, .int .i64 0, .int .i64 0, .int .i64 0, .int .i64 0, .int .i64 0, .int .i64 0, .int .i64 0] : Array Value) 40 22 rfl; rw [← hw2] at MQ; have MA5 := Lib.hid MQ; clear MQ
        have HA5 := Lib.hid (show W1.heap.size ≤ _ from (hkW11).size)
        clear hw2
        refine ⟨fun _ => hkW12, ?_⟩
        (try simp only [List.setIfInBounds_toArray, List.set_cons_succ, List.set_cons_zero])
        refine wpBut_r2 (i := 3) (j := 4) (by kernel_rfl) ?_ ?_
        · refine go_call 3 12 #[true, true, true, true, false, true, false, false] rfl rfl rfl (by rfl) rfl rfl (by rfl) ent33 (by rfl) (Hr2.out _) ?_
          rintro e wW13 ⟨rfl, hb⟩
          have hkW13 := held_next hkW12 hb
          have MQ5 := Lib.hid (MA5.out.call hb); clear MA5
          have MA5 := MQ5; clear MQ5
          refine ⟨_, rfl, fun _ => hkW13, ?_⟩
          clear hb
          (try simp only [List.setIfInBounds_toArray, List.set_cons_succ, List.set_cons_zero])
          refine wpBut_r1 (i := 4) (by kernel_rfl) ?_
          refine go_alloc 4 5 #[true, true, true, true, true, true, false, false] rfl rfl rfl (by rfl) 40 rfl _ al40 ?_
          intro wW14 hw2
          have hkW14 := (hkW13).alloc (hkW13).size (.cells (#[.int .i64 0, .int .i64 0, .int .i64 0, .int .i64 0, .int .i64 0, .int .i64 0, .int .i64 0, .int .i64 0, .int .i64 0, .int .i64 0, .int .i64 0, .int .i64 0, .int .i64 0, .int .i64 0, .int .i64 0, .int .i64 0, .int .i64 0, .int .i64 0, .int .i64 0, .int .i64 0, .int .i64 0, .int .i64 0] : Array Value) 40)
          rw [← hw2] at hkW14
          have hne5_4 := MA5.out.lt
          have MQ := MA5.out.alloc (.cells (#[.int .i64 0, .int .i64 0, .int .i64 0, .int .i64 0, .int .i64 0, .int .i64 0, .int .i64 0, .int .i64 0, .int .i64 0, .int .i64 0, .int .i64 0, .int .i64 0, .int .i64 0, .int .i64 0, .int .i64 0, .int .i64 0, .int .i64 0, .int .i64 0, .int .i64 0, .int .i64 0, .int .i64 0, .int .i64 0] : Array Value) 40); rw [← hw2] at MQ; clear MA5; have MA5 := Lib.hid MQ; clear MQ
          have MQ := HasN.new (wW13) (#[.int .i64 0, .int .i64 0, .int .i64 0, .int .i64 0, .int .i64 0, .int .i64 0, .int .i64 0, .int .i64 0, .int .i64 0, .int .i64 0, .int .i64 0, .int .i64 0, .int .i64 0, .int .i64 0, .int .i64 0, .int .i64 0, .int .i64 0, .int .i64 0, .int .i64 0, .int .i64 0, .int .i64 0, .int .i64 0] : Array Value) 40 22 rfl; rw [← hw2] at MQ; have MA4 := Lib.hid MQ; clear MQ
          have HA4 := Lib.hid (show W1.heap.size ≤ _ from (hkW13).size)
          clear hw2
          refine ⟨fun _ => hkW14, ?_⟩
          (try simp only [List.setIfInBounds_toArray, List.set_cons_succ, List.set_cons_zero])
          refine wpBut_r1 (i := 6) (by kernel_rfl) ?_
          obtain ⟨Z, hZ, mZ⟩ := MA4.out
          refine go_store2 6 #[true, true, true, true, true, true, true, false] rfl rfl rfl (by rfl) 40 _ _ rfl _ _ rfl rfl 40 Z mZ (by rw [r22_size]; kernel_rfl) (hZ.trans (r22_size _).symm) (row_one _ _ _) ?_
          intro wW15 hw2
          have hkW15 := below_setRow (hkW14) _ (r22 A1) HA4.out
          rw [← hw2] at hkW15
          clear MA4
          have MQ := MA5.out.setRow_other _ (r22 A1) (show _ ≠ wW13.heap.size by omega); rw [← hw2] at MQ; clear MA5; have MA5 := Lib.hid MQ; clear MQ
          have MQ := mZ.setRow (r22 A1); rw [← hw2] at MQ; have MA4 := Lib.hid MQ; clear MQ mZ hZ hw2
          refine ⟨fun _ => hkW15, ?_⟩
          (try simp only [List.setIfInBounds_toArray, List.set_cons_succ, List.set_cons_zero])
          refine wpBut_r1 (i := 7) (by kernel_rfl) ?_
          obtain ⟨Z, hZ, mZ⟩ := MA5.out
          refine go_store2 7 #[true, true, true, true, true, true, true, true] rfl rfl rfl (by rfl) 40 _ _ rfl _ _ rfl rfl 40 Z mZ (by rw [r22_size]; kernel_rfl) (hZ.trans (r22_size _).symm) (row_one _ _ _) ?_
          intro wW16 hw2
          have hkW16 := below_setRow (hkW15) _ (r22 A2) HA5.out
          rw [← hw2] at hkW16
          clear MA5
          have MQ := MA4.out.setRow_other _ (r22 A2) (show _ ≠ wW11.heap.size by omega); rw [← hw2] at MQ; clear MA4; have MA4 := Lib.hid MQ; clear MQ
          have MQ := mZ.setRow (r22 A2); rw [← hw2] at MQ; have MA5 := Lib.hid MQ; clear MQ mZ hZ hw2
          refine ⟨fun _ => hkW16, ?_⟩
          (try simp only [List.setIfInBounds_toArray, List.set_cons_succ, List.set_cons_zero])
          exact wpBut_done (by kernel_rfl) (NoPanic.normal (HQ.out (_, _) _ ⟨HA4.out, MA4.out, HA5.out, MA5.out, (hkW16)⟩))
        · refine go_alloc 4 5 #[true, true, true, false, true, true, false, false] rfl rfl rfl (by rfl) 40 rfl _ al40 ?_
          intro wW13 hw2
          have hkW13 := (hkW12).alloc (hkW12).size (.cells (#[.int .i64 0, .int .i64 0, .int .i64 0, .int .i64 0, .int .i64 0, .int .i64 0, .int .i64 0, .int .i64 0, .int .i64 0, .int .i64 0, .int .i64 0, .int .i64 0, .int .i64 0, .int .i64 0, .int .i64 0, .int .i64 0, .int .i64 0, .int .i64 0, .int .i64 0, .int .i64 0, .int .i64 0, .int .i64 0] : Array Value) 40)
          rw [← hw2] at hkW13
          have hne5_4 := MA5.out.lt
          have MQ := MA5.out.alloc (.cells (#[.int .i64 0, .int .i64 0, .int .i64 0, .int .i64 0, .int .i64 0, .int .i64 0, .int .i64 0, .int .i64 0, .int .i64 0, .int .i64 0, .int .i64 0, .int .i64 0, .int .i64 0, .int .i64 0, .int .i64 0, .int .i64 0, .int .i64 0, .int .i64 0, .int .i64 0, .int .i64 0, .int .i64 0, .int .i64 0] : Array Value) 40); rw [← hw2] at MQ; clear MA5; have MA5 := Lib.hid MQ; clear MQ
          have MQ := HasN.new (wW12) (#[.int .i64 0, .int .i64 0, .int .i64 0, .int .i64 0, .int .i64 0, .int .i64 0, .int .i64 0, .int .i64 0, .int .i64 0, .int .i64 0, .int .i64 0, .int .i64 0, .int .i64 0, .int .i64 0, .int .i64 0, .int .i64 0, .int .i64 0, .int .i64 0, .int .i64 0, .int .i64 0, .int .i64 0, .int .i64 0] : Array Value) 40 22 rfl; rw [← hw2] at MQ; have MA4 := Lib.hid MQ; clear MQ
          have HA4 := Lib.hid (show W1.heap.size ≤ _ from (hkW12).size)
          clear hw2
          refine ⟨fun _ => hkW13, ?_⟩
          (try simp only [List.setIfInBounds_toArray, List.set_cons_succ, List.set_cons_zero])
          refine wpBut_r1 (i := 3) (by kernel_rfl) ?_
          refine go_call 3 12 #[true, true, true, true, true, true, false, false] rfl rfl rfl (by rfl) rfl rfl (by rfl) ent33 (by rfl) (Hr2.out _) ?_
          rintro e wW14 ⟨rfl, hb⟩
          have hkW14 := held_next hkW13 hb
          have MQ5 := Lib.hid (MA5.out.call hb); clear MA5
          have MA5 := MQ5; clear MQ5
          have MQ4 := Lib.hid (MA4.out.call hb); clear MA4
          have MA4 := MQ4; clear MQ4
          refine ⟨_, rfl, fun _ => hkW14, ?_⟩
          clear hb
          (try simp only [List.setIfInBounds_toArray, List.set_cons_succ, List.set_cons_zero])
          refine wpBut_r1 (i := 6) (by kernel_rfl) ?_
          obtain ⟨Z, hZ, mZ⟩ := MA4.out
          refine go_store2 6 #[true, true, true, true, true, true, true, false] rfl rfl rfl (by rfl) 40 _ _ rfl _ _ rfl rfl 40 Z mZ (by rw [r22_size]; kernel_rfl) (hZ.trans (r22_size _).symm) (row_one _ _ _) ?_
          intro wW15 hw2
          have hkW15 := below_setRow (hkW14) _ (r22 A1) HA4.out
          rw [← hw2] at hkW15
          clear MA4
          have MQ := MA5.out.setRow_other _ (r22 A1) (show _ ≠ wW12.heap.size by omega); rw [← hw2] at MQ; clear MA5; have MA5 := Lib.hid MQ; clear MQ
          have MQ := mZ.setRow (r22 A1); rw [← hw2] at MQ; have MA4 := Lib.hid MQ; clear MQ mZ hZ hw2
          refine ⟨fun _ => hkW15, ?_⟩
          (try simp only [List.setIfInBounds_toArray, List.set_cons_succ, List.set_cons_zero])
          refine wpBut_r1 (i := 7) (by kernel_rfl) ?_
          obtain ⟨Z, hZ, mZ⟩ := MA5.out
          refine go_store2 7 #[true, true, true, true, true, true, true, true] rfl rfl rfl (by rfl) 40 _ _ rfl _ _ rfl rfl 40 Z mZ (by rw [r22_size]; kernel_rfl) (hZ.trans (r22_size _).symm) (row_one _ _ _) ?_
          intro wW16 hw2
          have hkW16 := below_setRow (hkW15) _ (r22 A2) HA5.out
          rw [← hw2] at hkW16
          clear MA5
          have MQ := MA4.out.setRow_other _ (r22 A2) (show _ ≠ wW11.heap.size by omega); rw [← hw2] at MQ; clear MA4; have MA4 := Lib.hid MQ; clear MQ
          have MQ := mZ.setRow (r22 A2); rw [← hw2] at MQ; have MA5 := Lib.hid MQ; clear MQ mZ hZ hw2
          refine ⟨fun _ => hkW16, ?_⟩
          (try simp only [List.setIfInBounds_toArray, List.set_cons_succ, List.set_cons_zero])
          exact wpBut_done (by kernel_rfl) (NoPanic.normal (HQ.out (_, _) _ ⟨HA4.out, MA4.out, HA5.out, MA5.out, (hkW16)⟩))
    · refine go_alloc 4 5 #[true, false, true, false, true, false, false, false] rfl rfl rfl (by rfl) 40 rfl _ al40 ?_
      intro wW11 hw2
      have hkW11 := ((show Below W1.heap.size W1 W1.drew from (Below.refl _ _).drew)).alloc ((show Below W1.heap.size W1 W1.drew from (Below.refl _ _).drew)).size (.cells (#[.int .i64 0, .int .i64 0, .int .i64 0, .int .i64 0, .int .i64 0, .int .i64 0, .int .i64 0, .int .i64 0, .int .i64 0, .int .i64 0, .int .i64 0, .int .i64 0, .int .i64 0, .int .i64 0, .int .i64 0, .int .i64 0, .int .i64 0, .int .i64 0, .int .i64 0, .int .i64 0, .int .i64 0, .int .i64 0] : Array Value) 40)
      rw [← hw2] at hkW11
      have MQ := HasN.new (W1.drew) (#[.int .i64 0, .int .i64 0, .int .i64 0, .int .i64 0, .int .i64 0, .int .i64 0, .int .i64 0, .int .i64 0, .int .i64 0, .int .i64 0, .int .i64 0, .int .i64 0, .int .i64 0, .int .i64 0, .int .i64 0, .int .i64 0, .int .i64 0, .int .i64 0, .int .i64 0, .int .i64 0, .int .i64 0, .int .i64 0] : Array Value) 40 22 rfl; rw [← hw2] at MQ; have MA4 := Lib.hid MQ; clear MQ
      have HA4 := Lib.hid (show W1.heap.size ≤ _ from ((show Below W1.heap.size W1 W1.drew from (Below.refl _ _).drew)).size)
      clear hw2
      refine ⟨fun _ => hkW11, ?_⟩
      (try simp only [List.setIfInBounds_toArray, List.set_cons_succ, List.set_cons_zero])
      refine wpBut_r2 (i := 1) (j := 5) (by kernel_rfl) ?_ ?_
      · refine go_call 1 10 #[true, true, true, false, true, false, false, false] rfl rfl rfl (by rfl) rfl rfl (by rfl) ent33 (by rfl) (Hr1.out _) ?_
        rintro e wW12 ⟨rfl, hb⟩
        have hkW12 := held_next hkW11 hb
        have MQ4 := Lib.hid (MA4.out.call hb); clear MA4
        have MA4 := MQ4; clear MQ4
        refine ⟨_, rfl, fun _ => hkW12, ?_⟩
        clear hb
        (try simp only [List.setIfInBounds_toArray, List.set_cons_succ, List.set_cons_zero])
        refine wpBut_r2 (i := 3) (j := 5) (by kernel_rfl) ?_ ?_
        · refine go_call 3 12 #[true, true, true, true, true, false, false, false] rfl rfl rfl (by rfl) rfl rfl (by rfl) ent33 (by rfl) (Hr2.out _) ?_
          rintro e wW13 ⟨rfl, hb⟩
          have hkW13 := held_next hkW12 hb
          have MQ4 := Lib.hid (MA4.out.call hb); clear MA4
          have MA4 := MQ4; clear MQ4
          refine ⟨_, rfl, fun _ => hkW13, ?_⟩
          clear hb
          (try simp only [List.setIfInBounds_toArray, List.set_cons_succ, List.set_cons_zero])
          refine wpBut_r1 (i := 5) (by kernel_rfl) ?_
          refine go_alloc 5 6 #[true, true, true, true, true, true, false, false] rfl rfl rfl (by rfl) 40 rfl _ al40 ?_
          intro wW14 hw2
          have hkW14 := (hkW13).alloc (hkW13).size (.cells (#[.int .i64 0, .int .i64 0, .int .i64 0, .int .i64 0, .int .i64 0, .int .i64 0, .int .i64 0, .int .i64 0, .int .i64 0, .int .i64 0, .int .i64 0, .int .i64 0, .int .i64 0, .int .i64 0, .int .i64 0, .int .i64 0, .int .i64 0, .int .i64 0, .int .i64 0, .int .i64 0, .int .i64 0, .int .i64 0] : Array Value) 40)
          rw [← hw2] at hkW14
          have hne4_5 := MA4.out.lt
          have MQ := MA4.out.alloc (.cells (#[.int .i64 0, .int .i64 0, .int .i64 0, .int .i64 0, .int .i64 0, .int .i64 0, .int .i64 0, .int .i64 0, .int .i64 0, .int .i64 0, .int .i64 0, .int .i64 0, .int .i64 0, .int .i64 0, .int .i64 0, .int .i64 0, .int .i64 0, .int .i64 0, .int .i64 0, .int .i64 0, .int .i64 0, .int .i64 0] : Array Value) 40); rw [← hw2] at MQ; clear MA4; have MA4 := Lib.hid MQ; clear MQ
          have MQ := HasN.new (wW13) (#[.int .i64 0, .int .i64 0, .int .i64 0, .int .i64 0, .int .i64 0, .int .i64 0, .int .i64 0, .int .i64 0, .int .i64 0, .int .i64 0, .int .i64 0, .int .i64 0, .int .i64 0, .int .i64 0, .int .i64 0, .int .i64 0, .int .i64 0, .int .i64 0, .int .i64 0, .int .i64 0, .int .i64 0, .int .i64 0] : Array Value) 40 22 rfl; rw [← hw2] at MQ; have MA5 := Lib.hid MQ; clear MQ
          have HA5 := Lib.hid (show W1.heap.size ≤ _ from (hkW13).size)
          clear hw2
          refine ⟨fun _ => hkW14, ?_⟩
          (try simp only [List.setIfInBounds_toArray, List.set_cons_succ, List.set_cons_zero])
          refine wpBut_r1 (i := 6) (by kernel_rfl) ?_
          obtain ⟨Z, hZ, mZ⟩ := MA4.out
          refine go_store2 6 #[true, true, true, true, true, true, true, false] rfl rfl rfl (by rfl) 40 _ _ rfl _ _ rfl rfl 40 Z mZ (by rw [r22_size]; kernel_rfl) (hZ.trans (r22_size _).symm) (row_one _ _ _) ?_
          intro wW15 hw2
          have hkW15 := below_setRow (hkW14) _ (r22 A1) HA4.out
          rw [← hw2] at hkW15
          clear MA4
          have MQ := MA5.out.setRow_other _ (r22 A1) (show _ ≠ W1.drew.heap.size by omega); rw [← hw2] at MQ; clear MA5; have MA5 := Lib.hid MQ; clear MQ
          have MQ := mZ.setRow (r22 A1); rw [← hw2] at MQ; have MA4 := Lib.hid MQ; clear MQ mZ hZ hw2
          refine ⟨fun _ => hkW15, ?_⟩
          (try simp only [List.setIfInBounds_toArray, List.set_cons_succ, List.set_cons_zero])
          refine wpBut_r1 (i := 7) (by kernel_rfl) ?_
          obtain ⟨Z, hZ, mZ⟩ := MA5.out
          refine go_store2 7 #[true, true, true, true, true, true, true, true] rfl rfl rfl (by rfl) 40 _ _ rfl _ _ rfl rfl 40 Z mZ (by rw [r22_size]; kernel_rfl) (hZ.trans (r22_size _).symm) (row_one _ _ _) ?_
          intro wW16 hw2
          have hkW16 := below_setRow (hkW15) _ (r22 A2) HA5.out
          rw [← hw2] at hkW16
          clear MA5
          have MQ := MA4.out.setRow_other _ (r22 A2) (show _ ≠ wW13.heap.size by omega); rw [← hw2] at MQ; clear MA4; have MA4 := Lib.hid MQ; clear MQ
          have MQ := mZ.setRow (r22 A2); rw [← hw2] at MQ; have MA5 := Lib.hid MQ; clear MQ mZ hZ hw2
          refine ⟨fun _ => hkW16, ?_⟩
          (try simp only [List.setIfInBounds_toArray, List.set_cons_succ, List.set_cons_zero])
          exact wpBut_done (by kernel_rfl) (NoPanic.normal (HQ.out (_, _) _ ⟨HA4.out, MA4.out, HA5.out, MA5.out, (hkW16)⟩))
        · refine go_alloc 5 6 #[true, true, true, false, true, true, false, false] rfl rfl rfl (by rfl) 40 rfl _ al40 ?_
          intro wW13 hw2
          have hkW13 := (hkW12).alloc (hkW12).size (.cells (#[.int .i64 0, .int .i64 0, .int .i64 0, .int .i64 0, .int .i64 0, .int .i64 0, .int .i64 0, .int .i64 0, .int .i64 0, .int .i64 0, .int .i64 0, .int .i64 0, .int .i64 0, .int .i64 0, .int .i64 0, .int .i64 0, .int .i64 0, .int .i64 0, .int .i64 0, .int .i64 0, .int .i64 0, .int .i64 0] : Array Value) 40)
          rw [← hw2] at hkW13
          have hne4_5 := MA4.out.lt
          have MQ := MA4.out.alloc (.cells (#[.int .i64 0, .int .i64 0, .int .i64 0, .int .i64 0, .int .i64 0, .int .i64 0, .int .i64 0, .int .i64 0, .int .i64 0, .int .i64 0, .int .i64 0, .int .i64 0, .int .i64 0, .int .i64 0, .int .i64 0, .int .i64 0, .int .i64 0, .int .i64 0, .int .i64 0, .int .i64 0, .int .i64 0, .int .i64 0] : Array Value) 40); rw [← hw2] at MQ; clear MA4; have MA4 := Lib.hid MQ; clear MQ
          have MQ := HasN.new (wW12) (#[.int .i64 0, .int .i64 0, .int .i64 0, .int .i64 0, .int .i64 0, .int .i64 0, .int .i64 0, .int .i64 0, .int .i64 0, .int .i64 0, .int .i64 0, .int .i64 0, .int .i64 0, .int .i64 0, .int .i64 0, .int .i64 0, .int .i64 0, .int .i64 0, .int .i64 0, .int .i64 0, .int .i64 0, .int .i64 0] : Array Value) 40 22 rfl; rw [← hw2] at MQ; have MA5 := Lib.hid MQ; clear MQ
          have HA5 := Lib.hid (show W1.heap.size ≤ _ from (hkW12).size)
          clear hw2
          refine ⟨fun _ => hkW13, ?_⟩
          (try simp only [List.setIfInBounds_toArray, List.set_cons_succ, List.set_cons_zero])
          refine wpBut_r1 (i := 3) (by kernel_rfl) ?_
          refine go_call 3 12 #[true, true, true, true, true, true, false, false] rfl rfl rfl (by rfl) rfl rfl (by rfl) ent33 (by rfl) (Hr2.out _) ?_
          rintro e wW14 ⟨rfl, hb⟩
          have hkW14 := held_next hkW13 hb
          have MQ4 := Lib.hid (MA4.out.call hb); clear MA4
          have MA4 := MQ4; clear MQ4
          have MQ5 := Lib.hid (MA5.out.call hb); clear MA5
          have MA5 := MQ5; clear MQ5
          refine ⟨_, rfl, fun _ => hkW14, ?_⟩
          clear hb
          (try simp only [List.setIfInBounds_toArray, List.set_cons_succ, List.set_cons_zero])
          refine wpBut_r1 (i := 6) (by kernel_rfl) ?_
          obtain ⟨Z, hZ, mZ⟩ := MA4.out
          refine go_store2 6 #[true, true, true, true, true, true, true, false] rfl rfl rfl (by rfl) 40 _ _ rfl _ _ rfl rfl 40 Z mZ (by rw [r22_size]; kernel_rfl) (hZ.trans (r22_size _).symm) (row_one _ _ _) ?_
          intro wW15 hw2
          have hkW15 := below_setRow (hkW14) _ (r22 A1) HA4.out
          rw [← hw2] at hkW15
          clear MA4
          have MQ := MA5.out.setRow_other _ (r22 A1) (show _ ≠ W1.drew.heap.size by omega); rw [← hw2] at MQ; clear MA5; have MA5 := Lib.hid MQ; clear MQ
          have MQ := mZ.setRow (r22 A1); rw [← hw2] at MQ; have MA4 := Lib.hid MQ; clear MQ mZ hZ hw2
          refine ⟨fun _ => hkW15, ?_⟩
          (try simp only [List.setIfInBounds_toArray, List.set_cons_succ, List.set_cons_zero])
          refine wpBut_r1 (i := 7) (by kernel_rfl) ?_
          obtain ⟨Z, hZ, mZ⟩ := MA5.out
          refine go_store2 7 #[true, true, true, true, true, true, true, true] rfl rfl rfl (by rfl) 40 _ _ rfl _ _ rfl rfl 40 Z mZ (by rw [r22_size]; kernel_rfl) (hZ.trans (r22_size _).symm) (row_one _ _ _) ?_
          intro wW16 hw2
          have hkW16 := below_setRow (hkW15) _ (r22 A2) HA5.out
          rw [← hw2] at hkW16
          clear MA5
          have MQ := MA4.out.setRow_other _ (r22 A2) (show _ ≠ wW12.heap.size by omega); rw [← hw2] at MQ; clear MA4; have MA4 := Lib.hid MQ; clear MQ
          have MQ := mZ.setRow (r22 A2); rw [← hw2] at MQ; have MA5 := Lib.hid MQ; clear MQ mZ hZ hw2
          refine ⟨fun _ => hkW16, ?_⟩
          (try simp only [List.setIfInBounds_toArray, List.set_cons_succ, List.set_cons_zero])
          exact wpBut_done (by kernel_rfl) (NoPanic.normal (HQ.out (_, _) _ ⟨HA4.out, MA4.out, HA5.out, MA5.out, (hkW16)⟩))
      · refine go_alloc 5 6 #[true, false, true, false, true, true, false, false] rfl rfl rfl (by rfl) 40 rfl _ al40 ?_
        intro wW12 hw2
        have hkW12 := (hkW11).alloc (hkW11).size (.cells (#[.int .i64 0, .int .i64 0, .int .i64 0, .int .i64 0, .int .i64 0, .int .i64 0, .int .i64 0, .int .i64 0, .int .i64 0, .int .i64 0, .int .i64 0, .int .i64 0, .int .i64 0, .int .i64 0, .int .i64 0, .int .i64 0, .int .i64 0, .int .i64 0, .int .i64 0, .int .i64 0, .int .i64 0, .int .i64 0] : Array Value) 40)
        rw [← hw2] at hkW12
        have hne4_5 := MA4.out.lt
        have MQ := MA4.out.alloc (.cells (#[.int .i64 0, .int .i64 0, .int .i64 0, .int .i64 0, .int .i64 0, .int .i64 0, .int .i64 0, .int .i64 0, .int .i64 0, .int .i64 0, .int .i64 0, .int .i64 0, .int .i64 0, .int .i64 0, .int .i64 0, .int .i64 0, .int .i64 0, .int .i64 0, .int .i64 0, .int .i64 0, .int .i64 0, .int .i64 0] : Array Value) 40); rw [← hw2] at MQ; clear MA4; have MA4 := Lib.hid MQ; clear MQ
        have MQ := HasN.new (wW11) (#[.int .i64 0, .int .i64 0, .int .i64 0, .int .i64 0, .int .i64 0, .int .i64 0, .int .i64 0, .int .i64 0, .int .i64 0, .int .i64 0, .int .i64 0, .int .i64 0, .int .i64 0, .int .i64 0, .int .i64 0, .int .i64 0, .int .i64 0, .int .i64 0, .int .i64 0, .int .i64 0, .int .i64 0, .int .i64 0] : Array Value) 40 22 rfl; rw [← hw2] at MQ; have MA5 := Lib.hid MQ; clear MQ
        have HA5 := Lib.hid (show W1.heap.size ≤ _ from (hkW11).size)
        clear hw2
        refine ⟨fun _ => hkW12, ?_⟩
        (try simp only [List.setIfInBounds_toArray, List.set_cons_succ, List.set_cons_zero])
        refine wpBut_r1 (i := 1) (by kernel_rfl) ?_
        refine go_call 1 10 #[true, true, true, false, true, true, false, false] rfl rfl rfl (by rfl) rfl rfl (by rfl) ent33 (by rfl) (Hr1.out _) ?_
        rintro e wW13 ⟨rfl, hb⟩
        have hkW13 := held_next hkW12 hb
        have MQ4 := Lib.hid (MA4.out.call hb); clear MA4
        have MA4 := MQ4; clear MQ4
        have MQ5 := Lib.hid (MA5.out.call hb); clear MA5
        have MA5 := MQ5; clear MQ5
        refine ⟨_, rfl, fun _ => hkW13, ?_⟩
        clear hb
        (try simp only [List.setIfInBounds_toArray, List.set_cons_succ, List.set_cons_zero])
        refine wpBut_r1 (i := 3) (by kernel_rfl) ?_
        refine go_call 3 12 #[true, true, true, true, true, true, false, false] rfl rfl rfl (by rfl) rfl rfl (by rfl) ent33 (by rfl) (Hr2.out _) ?_
        rintro e wW14 ⟨rfl, hb⟩
        have hkW14 := held_next hkW13 hb
        have MQ4 := Lib.hid (MA4.out.call hb); clear MA4
        have MA4 := MQ4; clear MQ4
        have MQ5 := Lib.hid (MA5.out.call hb); clear MA5
        have MA5 := MQ5; clear MQ5
        refine ⟨_, rfl, fun _ => hkW14, ?_⟩
        clear hb
        (try simp only [List.setIfInBounds_toArray, List.set_cons_succ, List.set_cons_zero])
        refine wpBut_r1 (i := 6) (by kernel_rfl) ?_
        obtain ⟨Z, hZ, mZ⟩ := MA4.out
        refine go_store2 6 #[true, true, true, true, true, true, true, false] rfl rfl rfl (by rfl) 40 _ _ rfl _ _ rfl rfl 40 Z mZ (by rw [r22_size]; kernel_rfl) (hZ.trans (r22_size _).symm) (row_one _ _ _) ?_
        intro wW15 hw2
        have hkW15 := below_setRow (hkW14) _ (r22 A1) HA4.out
        rw [← hw2] at hkW15
        clear MA4
        have MQ := MA5.out.setRow_other _ (r22 A1) (show _ ≠ W1.drew.heap.size by omega); rw [← hw2] at MQ; clear MA5; have MA5 := Lib.hid MQ; clear MQ
        have MQ := mZ.setRow (r22 A1); rw [← hw2] at MQ; have MA4 := Lib.hid MQ; clear MQ mZ hZ hw2
        refine ⟨fun _ => hkW15, ?_⟩
        (try simp only [List.setIfInBounds_toArray, List.set_cons_succ, List.set_cons_zero])
        refine wpBut_r1 (i := 7) (by kernel_rfl) ?_
        obtain ⟨Z, hZ, mZ⟩ := MA5.out
        refine go_store2 7 #[true, true, true, true, true, true, true, true] rfl rfl rfl (by rfl) 40 _ _ rfl _ _ rfl rfl 40 Z mZ (by rw [r22_size]; kernel_rfl) (hZ.trans (r22_size _).symm) (row_one _ _ _) ?_
        intro wW16 hw2
        have hkW16 := below_setRow (hkW15) _ (r22 A2) HA5.out
        rw [← hw2] at hkW16
        clear MA5
        have MQ := MA4.out.setRow_other _ (r22 A2) (show _ ≠ wW11.heap.size by omega); rw [← hw2] at MQ; clear MA4; have MA4 := Lib.hid MQ; clear MQ
        have MQ := mZ.setRow (r22 A2); rw [← hw2] at MQ; have MA5 := Lib.hid MQ; clear MQ mZ hZ hw2
        refine ⟨fun _ => hkW16, ?_⟩
        (try simp only [List.setIfInBounds_toArray, List.set_cons_succ, List.set_cons_zero])
        exact wpBut_done (by kernel_rfl) (NoPanic.normal (HQ.out (_, _) _ ⟨HA4.out, MA4.out, HA5.out, MA5.out, (hkW16)⟩))
    · refine go_alloc 5 6 #[true, false, true, false, false, true, false, false] rfl rfl rfl (by rfl) 40 rfl _ al40 ?_
      intro wW11 hw2
      have hkW11 := ((show Below W1.heap.size W1 W1.drew from (Below.refl _ _).drew)).alloc ((show Below W1.heap.size W1 W1.drew from (Below.refl _ _).drew)).size (.cells (#[.int .i64 0, .int .i64 0, .int .i64 0, .int .i64 0, .int .i64 0, .int .i64 0, .int .i64 0, .int .i64 0, .int .i64 0, .int .i64 0, .int .i64 0, .int .i64 0, .int .i64 0, .int .i64 0, .int .i64 0, .int .i64 0, .int .i64 0, .int .i64 0, .int .i64 0, .int .i64 0, .int .i64 0, .int .i64 0] : Array Value) 40)
      rw [← hw2] at hkW11
      have MQ := HasN.new (W1.drew) (#[.int .i64 0, .int .i64 0, .int .i64 0, .int .i64 0, .int .i64 0, .int .i64 0, .int .i64 0, .int .i64 0, .int .i64 0, .int .i64 0, .int .i64 0, .int .i64 0, .int .i64 0, .int .i64 0, .int .i64 0, .int .i64 0, .int .i64 0, .int .i64 0, .int .i64 0, .int .i64 0, .int .i64 0, .int .i64 0] : Array Value) 40 22 rfl; rw [← hw2] at MQ; have MA5 := Lib.hid MQ; clear MQ
      have HA5 := Lib.hid (show W1.heap.size ≤ _ from ((show Below W1.heap.size W1 W1.drew from (Below.refl _ _).drew)).size)
      clear hw2
      refine ⟨fun _ => hkW11, ?_⟩
      (try simp only [List.setIfInBounds_toArray, List.set_cons_succ, List.set_cons_zero])
      refine wpBut_r2 (i := 1) (j := 4) (by kernel_rfl) ?_ ?_
      · refine go_call 1 10 #[true, true, true, false, false, true, false, false] rfl rfl rfl (by rfl) rfl rfl (by rfl) ent33 (by rfl) (Hr1.out _) ?_
        rintro e wW12 ⟨rfl, hb⟩
        have hkW12 := held_next hkW11 hb
        have MQ5 := Lib.hid (MA5.out.call hb); clear MA5
        have MA5 := MQ5; clear MQ5
        refine ⟨_, rfl, fun _ => hkW12, ?_⟩
        clear hb
        (try simp only [List.setIfInBounds_toArray, List.set_cons_succ, List.set_cons_zero])
        refine wpBut_r2 (i := 3) (j := 4) (by kernel_rfl) ?_ ?_
        · refine go_call 3 12 #[true, true, true, true, false, true, false, false] rfl rfl rfl (by rfl) rfl rfl (by rfl) ent33 (by rfl) (Hr2.out _) ?_
          rintro e wW13 ⟨rfl, hb⟩
          have hkW13 := held_next hkW12 hb
          have MQ5 := Lib.hid (MA5.out.call hb); clear MA5
          have MA5 := MQ5; clear MQ5
          refine ⟨_, rfl, fun _ => hkW13, ?_⟩
          clear hb
          (try simp only [List.setIfInBounds_toArray, List.set_cons_succ, List.set_cons_zero])
          refine wpBut_r1 (i := 4) (by kernel_rfl) ?_
          refine go_alloc 4 5 #[true, true, true, true, true, true, false, false] rfl rfl rfl (by rfl) 40 rfl _ al40 ?_
          intro wW14 hw2
          have hkW14 := (hkW13).alloc (hkW13).size (.cells (#[.int .i64 0, .int .i64 0, .int .i64 0, .int .i64 0, .int .i64 0, .int .i64 0, .int .i64 0, .int .i64 0, .int .i64 0, .int .i64 0, .int .i64 0, .int .i64 0, .int .i64 0, .int .i64 0, .int .i64 0, .int .i64 0, .int .i64 0, .int .i64 0, .int .i64 0, .int .i64 0, .int .i64 0, .int .i64 0] : Array Value) 40)
          rw [← hw2] at hkW14
          have hne5_4 := MA5.out.lt
          have MQ := MA5.out.alloc (.cells (#[.int .i64 0, .int .i64 0, .int .i64 0, .int .i64 0, .int .i64 0, .int .i64 0, .int .i64 0, .int .i64 0, .int .i64 0, .int .i64 0, .int .i64 0, .int .i64 0, .int .i64 0, .int .i64 0, .int .i64 0, .int .i64 0, .int .i64 0, .int .i64 0, .int .i64 0, .int .i64 0, .int .i64 0, .int .i64 0] : Array Value) 40); rw [← hw2] at MQ; clear MA5; have MA5 := Lib.hid MQ; clear MQ
          have MQ := HasN.new (wW13) (#[.int .i64 0, .int .i64 0, .int .i64 0, .int .i64 0, .int .i64 0, .int .i64 0, .int .i64 0, .int .i64 0, .int .i64 0, .int .i64 0, .int .i64 0, .int .i64 0, .int .i64 0, .int .i64 0, .int .i64 0, .int .i64 0, .int .i64 0, .int .i64 0, .int .i64 0, .int .i64 0, .int .i64 0, .int .i64 0] : Array Value) 40 22 rfl; rw [← hw2] at MQ; have MA4 := Lib.hid MQ; clear MQ
          have HA4 := Lib.hid (show W1.heap.size ≤ _ from (hkW13).size)
          clear hw2
          refine ⟨fun _ => hkW14, ?_⟩
          (try simp only [List.setIfInBounds_toArray, List.set_cons_succ, List.set_cons_zero])
          refine wpBut_r1 (i := 6) (by kernel_rfl) ?_
          obtain ⟨Z, hZ, mZ⟩ := MA4.out
          refine go_store2 6 #[true, true, true, true, true, true, true, false] rfl rfl rfl (by rfl) 40 _ _ rfl _ _ rfl rfl 40 Z mZ (by rw [r22_size]; kernel_rfl) (hZ.trans (r22_size _).symm) (row_one _ _ _) ?_
          intro wW15 hw2
          have hkW15 := below_setRow (hkW14) _ (r22 A1) HA4.out
          rw [← hw2] at hkW15
          clear MA4
          have MQ := MA5.out.setRow_other _ (r22 A1) (show _ ≠ wW13.heap.size by omega); rw [← hw2] at MQ; clear MA5; have MA5 := Lib.hid MQ; clear MQ
          have MQ := mZ.setRow (r22 A1); rw [← hw2] at MQ; have MA4 := Lib.hid MQ; clear MQ mZ hZ hw2
          refine ⟨fun _ => hkW15, ?_⟩
          (try simp only [List.setIfInBounds_toArray, List.set_cons_succ, List.set_cons_zero])
          refine wpBut_r1 (i := 7) (by kernel_rfl) ?_
          obtain ⟨Z, hZ, mZ⟩ := MA5.out
          refine go_store2 7 #[true, true, true, true, true, true, true, true] rfl rfl rfl (by rfl) 40 _ _ rfl _ _ rfl rfl 40 Z mZ (by rw [r22_size]; kernel_rfl) (hZ.trans (r22_size _).symm) (row_one _ _ _) ?_
          intro wW16 hw2
          have hkW16 := below_setRow (hkW15) _ (r22 A2) HA5.out
          rw [← hw2] at hkW16
          clear MA5
          have MQ := MA4.out.setRow_other _ (r22 A2) (show _ ≠ W1.drew.heap.size by omega); rw [← hw2] at MQ; clear MA4; have MA4 := Lib.hid MQ; clear MQ
          have MQ := mZ.setRow (r22 A2); rw [← hw2] at MQ; have MA5 := Lib.hid MQ; clear MQ mZ hZ hw2
          refine ⟨fun _ => hkW16, ?_⟩
          (try simp only [List.setIfInBounds_toArray, List.set_cons_succ, List.set_cons_zero])
          exact wpBut_done (by kernel_rfl) (NoPanic.normal (HQ.out (_, _) _ ⟨HA4.out, MA4.out, HA5.out, MA5.out, (hkW16)⟩))
        · refine go_alloc 4 5 #[true, true, true, false, true, true, false, false] rfl rfl rfl (by rfl) 40 rfl _ al40 ?_
          intro wW13 hw2
          have hkW13 := (hkW12).alloc (hkW12).size (.cells (#[.int .i64 0, .int .i64 0, .int .i64 0, .int .i64 0, .int .i64 0, .int .i64 0, .int .i64 0, .int .i64 0, .int .i64 0, .int .i64 0, .int .i64 0, .int .i64 0, .int .i64 0, .int .i64 0, .int .i64 0, .int .i64 0, .int .i64 0, .int .i64 0, .int .i64 0, .int .i64 0, .int .i64 0, .int .i64 0] : Array Value) 40)
          rw [← hw2] at hkW13
          have hne5_4 := MA5.out.lt
          have MQ := MA5.out.alloc (.cells (#[.int .i64 0, .int .i64 0, .int .i64 0, .int .i64 0, .int .i64 0, .int .i64 0, .int .i64 0, .int .i64 0, .int .i64 0, .int .i64 0, .int .i64 0, .int .i64 0, .int .i64 0, .int .i64 0, .int .i64 0, .int .i64 0, .int .i64 0, .int .i64 0, .int .i64 0, .int .i64 0, .int .i64 0, .int .i64 0] : Array Value) 40); rw [← hw2] at MQ; clear MA5; have MA5 := Lib.hid MQ; clear MQ
          have MQ := HasN.new (wW12) (#[.int .i64 0, .int .i64 0, .int .i64 0, .int .i64 0, .int .i64 0, .int .i64 0, .int .i64 0, .int .i64 0, .int .i64 0, .int .i64 0, .int .i64 0, .int .i64 0, .int .i64 0, .int .i64 0, .int .i64 0, .int .i64 0, .int .i64 0, .int .i64 0, .int .i64 0, .int .i64 0, .int .i64 0, .int .i64 0] : Array Value) 40 22 rfl; rw [← hw2] at MQ; have MA4 := Lib.hid MQ; clear MQ
          have HA4 := Lib.hid (show W1.heap.size ≤ _ from (hkW12).size)
          clear hw2
          refine ⟨fun _ => hkW13, ?_⟩
          (try simp only [List.setIfInBounds_toArray, List.set_cons_succ, List.set_cons_zero])
          refine wpBut_r1 (i := 3) (by kernel_rfl) ?_
          refine go_call 3 12 #[true, true, true, true, true, true, false, false] rfl rfl rfl (by rfl) rfl rfl (by rfl) ent33 (by rfl) (Hr2.out _) ?_
          rintro e wW14 ⟨rfl, hb⟩
          have hkW14 := held_next hkW13 hb
          have MQ5 := Lib.hid (MA5.out.call hb); clear MA5
          have MA5 := MQ5; clear MQ5
          have MQ4 := Lib.hid (MA4.out.call hb); clear MA4
          have MA4 := MQ4; clear MQ4
          refine ⟨_, rfl, fun _ => hkW14, ?_⟩
          clear hb
          (try simp only [List.setIfInBounds_toArray, List.set_cons_succ, List.set_cons_zero])
          refine wpBut_r1 (i := 6) (by kernel_rfl) ?_
          obtain ⟨Z, hZ, mZ⟩ := MA4.out
          refine go_store2 6 #[true, true, true, true, true, true, true, false] rfl rfl rfl (by rfl) 40 _ _ rfl _ _ rfl rfl 40 Z mZ (by rw [r22_size]; kernel_rfl) (hZ.trans (r22_size _).symm) (row_one _ _ _) ?_
          intro wW15 hw2
          have hkW15 := below_setRow (hkW14) _ (r22 A1) HA4.out
          rw [← hw2] at hkW15
          clear MA4
          have MQ := MA5.out.setRow_other _ (r22 A1) (show _ ≠ wW12.heap.size by omega); rw [← hw2] at MQ; clear MA5; have MA5 := Lib.hid MQ; clear MQ
          have MQ := mZ.setRow (r22 A1); rw [← hw2] at MQ; have MA4 := Lib.hid MQ; clear MQ mZ hZ hw2
          refine ⟨fun _ => hkW15, ?_⟩
          (try simp only [List.setIfInBounds_toArray, List.set_cons_succ, List.set_cons_zero])
          refine wpBut_r1 (i := 7) (by kernel_rfl) ?_
          obtain ⟨Z, hZ, mZ⟩ := MA5.out
          refine go_store2 7 #[true, true, true, true, true, true, true, true] rfl rfl rfl (by rfl) 40 _ _ rfl _ _ rfl rfl 40 Z mZ (by rw [r22_size]; kernel_rfl) (hZ.trans (r22_size _).symm) (row_one _ _ _) ?_
          intro wW16 hw2
          have hkW16 := below_setRow (hkW15) _ (r22 A2) HA5.out
          rw [← hw2] at hkW16
          clear MA5
          have MQ := MA4.out.setRow_other _ (r22 A2) (show _ ≠ W1.drew.heap.size by omega); rw [← hw2] at MQ; clear MA4; have MA4 := Lib.hid MQ; clear MQ
          have MQ := mZ.setRow (r22 A2); rw [← hw2] at MQ; have MA5 := Lib.hid MQ; clear MQ mZ hZ hw2
          refine ⟨fun _ => hkW16, ?_⟩
          (try simp only [List.setIfInBounds_toArray, List.set_cons_succ, List.set_cons_zero])
          exact wpBut_done (by kernel_rfl) (NoPanic.normal (HQ.out (_, _) _ ⟨HA4.out, MA4.out, HA5.out, MA5.out, (hkW16)⟩))
      · refine go_alloc 4 5 #[true, false, true, false, true, true, false, false] rfl rfl rfl (by rfl) 40 rfl _ al40 ?_
        intro wW12 hw2
        have hkW12 := (hkW11).alloc (hkW11).size (.cells (#[.int .i64 0, .int .i64 0, .int .i64 0, .int .i64 0, .int .i64 0, .int .i64 0, .int .i64 0, .int .i64 0, .int .i64 0, .int .i64 0, .int .i64 0, .int .i64 0, .int .i64 0, .int .i64 0, .int .i64 0, .int .i64 0, .int .i64 0, .int .i64 0, .int .i64 0, .int .i64 0, .int .i64 0, .int .i64 0] : Array Value) 40)
        rw [← hw2] at hkW12
        have hne5_4 := MA5.out.lt
        have MQ := MA5.out.alloc (.cells (#[.int .i64 0, .int .i64 0, .int .i64 0, .int .i64 0, .int .i64 0, .int .i64 0, .int .i64 0, .int .i64 0, .int .i64 0, .int .i64 0, .int .i64 0, .int .i64 0, .int .i64 0, .int .i64 0, .int .i64 0, .int .i64 0, .int .i64 0, .int .i64 0, .int .i64 0, .int .i64 0, .int .i64 0, .int .i64 0] : Array Value) 40); rw [← hw2] at MQ; clear MA5; have MA5 := Lib.hid MQ; clear MQ
        have MQ := HasN.new (wW11) (#[.int .i64 0, .int .i64 0, .int .i64 0, .int .i64 0, .int .i64 0, .int .i64 0, .int .i64 0, .int .i64 0, .int .i64 0, .int .i64 0, .int .i64 0, .int .i64 0, .int .i64 0, .int .i64 0, .int .i64 0, .int .i64 0, .int .i64 0, .int .i64 0, .int .i64 0, .int .i64 0, .int .i64 0, .int .i64 0] : Array Value) 40 22 rfl; rw [← hw2] at MQ; have MA4 := Lib.hid MQ; clear MQ
        have HA4 := Lib.hid (show W1.heap.size ≤ _ from (hkW11).size)
        clear hw2
        refine ⟨fun _ => hkW12, ?_⟩
        (try simp only [List.setIfInBounds_toArray, List.set_cons_succ, List.set_cons_zero])
        refine wpBut_r1 (i := 1) (by kernel_rfl) ?_
        refine go_call 1 10 #[true, true, true, false, true, true, false, false] rfl rfl rfl (by rfl) rfl rfl (by rfl) ent33 (by rfl) (Hr1.out _) ?_
        rintro e wW13 ⟨rfl, hb⟩
        have hkW13 := held_next hkW12 hb
        have MQ5 := Lib.hid (MA5.out.call hb); clear MA5
        have MA5 := MQ5; clear MQ5
        have MQ4 := Lib.hid (MA4.out.call hb); clear MA4
        have MA4 := MQ4; clear MQ4
        refine ⟨_, rfl, fun _ => hkW13, ?_⟩
        clear hb
        (try simp only [List.setIfInBounds_toArray, List.set_cons_succ, List.set_cons_zero])
        refine wpBut_r1 (i := 3) (by kernel_rfl) ?_
        refine go_call 3 12 #[true, true, true, true, true, true, false, false] rfl rfl rfl (by rfl) rfl rfl (by rfl) ent33 (by rfl) (Hr2.out _) ?_
        rintro e wW14 ⟨rfl, hb⟩
        have hkW14 := held_next hkW13 hb
        have MQ5 := Lib.hid (MA5.out.call hb); clear MA5
        have MA5 := MQ5; clear MQ5
        have MQ4 := Lib.hid (MA4.out.call hb); clear MA4
        have MA4 := MQ4; clear MQ4
        refine ⟨_, rfl, fun _ => hkW14, ?_⟩
        clear hb
        (try simp only [List.setIfInBounds_toArray, List.set_cons_succ, List.set_cons_zero])
        refine wpBut_r1 (i := 6) (by kernel_rfl) ?_
        obtain ⟨Z, hZ, mZ⟩ := MA4.out
        refine go_store2 6 #[true, true, true, true, true, true, true, false] rfl rfl rfl (by rfl) 40 _ _ rfl _ _ rfl rfl 40 Z mZ (by rw [r22_size]; kernel_rfl) (hZ.trans (r22_size _).symm) (row_one _ _ _) ?_
        intro wW15 hw2
        have hkW15 := below_setRow (hkW14) _ (r22 A1) HA4.out
        rw [← hw2] at hkW15
        clear MA4
        have MQ := MA5.out.setRow_other _ (r22 A1) (show _ ≠ wW11.heap.size by omega); rw [← hw2] at MQ; clear MA5; have MA5 := Lib.hid MQ; clear MQ
        have MQ := mZ.setRow (r22 A1); rw [← hw2] at MQ; have MA4 := Lib.hid MQ; clear MQ mZ hZ hw2
        refine ⟨fun _ => hkW15, ?_⟩
        (try simp only [List.setIfInBounds_toArray, List.set_cons_succ, List.set_cons_zero])
        refine wpBut_r1 (i := 7) (by kernel_rfl) ?_
        obtain ⟨Z, hZ, mZ⟩ := MA5.out
        refine go_store2 7 #[true, true, true, true, true, true, true, true] rfl rfl rfl (by rfl) 40 _ _ rfl _ _ rfl rfl 40 Z mZ (by rw [r22_size]; kernel_rfl) (hZ.trans (r22_size _).symm) (row_one _ _ _) ?_
        intro wW16 hw2
        have hkW16 := below_setRow (hkW15) _ (r22 A2) HA5.out
        rw [← hw2] at hkW16
        clear MA5
        have MQ := MA4.out.setRow_other _ (r22 A2) (show _ ≠ W1.drew.heap.size by omega); rw [← hw2] at MQ; clear MA4; have MA4 := Lib.hid MQ; clear MQ
        have MQ := mZ.setRow (r22 A2); rw [← hw2] at MQ; have MA5 := Lib.hid MQ; clear MQ mZ hZ hw2
        refine ⟨fun _ => hkW16, ?_⟩
        (try simp only [List.setIfInBounds_toArray, List.set_cons_succ, List.set_cons_zero])
        exact wpBut_done (by kernel_rfl) (NoPanic.normal (HQ.out (_, _) _ ⟨HA4.out, MA4.out, HA5.out, MA5.out, (hkW16)⟩))
  · rintro W1 ⟨B5, B6⟩ v1 hW1 ⟨hBq0, mBq0, hBq1, mBq1, hbw⟩
    simp only [Act.put, List.setIfInBounds_toArray, List.set_cons_succ, List.set_cons_zero] at  hBq0  mBq0 hBq1  mBq1 ⊢
    have kq := M2.out; rw [← hW1] at kq; clear M2; have M2 := Lib.hid kq; clear kq
    have kq := M3.out; rw [← hW1] at kq; clear M3; have M3 := Lib.hid kq; clear kq
    have kq := HB.out; rw [← hW1] at kq; clear HB; have HB := Lib.hid kq; clear kq
    clear hW1
    have hltM2_1 := M2.out.lt
    have hltM3_1 := M3.out.lt
    have kq := M2.out.call hbw; clear M2; have M2 := Lib.hid kq; clear kq
    have kq := M3.out.call hbw; clear M3; have M3 := Lib.hid kq; clear kq
    have hBq := held_next HB.out hbw; clear HB; have HB := Lib.hid hBq; clear hBq
    have M5 := Lib.hid mBq0; clear mBq0
    have M6 := Lib.hid mBq1; clear mBq1
    clear hbw
    repeat ((fail_if_success (with_reducible (show wpList _ _ _ _ _ _))); go_step)
    refine wp_region_meet (α := Nat × Nat) (fun W0 x w' => W0.heap.size ≤ x.1 ∧ Has w' x.1 (e4 a1) 36 ∧ W0.heap.size ≤ x.2 ∧ Has w' x.2 (e4 a2) 36 ∧ Below W0.heap.size W0 w') (fun ac x => ((((((ac.put (some 13) (.agg (k32 n1))).put (some 14) (.agg (e4 a1))).put (some 15) (.agg (k32 n2))).put (some 16) (.agg (e4 a2))).put (some 7) (.pointer (some ⟨x.1, 0, none⟩))).put (some 8) (.pointer (some ⟨x.2, 0, none⟩)))) ?_ ?_
    · intro Q' hQ'
      refine wp_region_noPanic ?_
      refine wp_region_go 99 8 #[false, false, false, false, false, false, false, false] (by kernel_rfl) rfl rfl ?_
      intro W2 hW2
      rw [← hW2] at hQ'
      simp only [Act.put, List.setIfInBounds_toArray, List.set_cons_succ, List.set_cons_zero] at hQ'
      have HQ := Lib.hid hQ'; clear hQ'
      have kq := M2.out; rw [← hW2] at kq; clear M2; have M2 := Lib.hid kq; clear kq
      have kq := M3.out; rw [← hW2] at kq; clear M3; have M3 := Lib.hid kq; clear kq
      have kq := M5.out; rw [← hW2] at kq; clear M5; have M5 := Lib.hid kq; clear kq
      have kq := M6.out; rw [← hW2] at kq; clear M6; have M6 := Lib.hid kq; clear kq
      have kq := HB.out; rw [← hW2] at kq; clear HB; have HB := Lib.hid kq; clear kq
      clear hW2
      refine go_take 0 13 #[true, false, false, false, false, false, false, false] rfl rfl rfl (by kernel_rfl) (by kernel_rfl) (by kernel_rfl) (by kernel_rfl) (by kernel_rfl) (yieldsIf_load_row (by rfl) 24 _ rfl (w.heap.size) rfl 24 (k32 n1) (fun _ h => M2.out.below h M2.out.lt) Try.underlying24 rfl (by rw [k32_size]; kernel_rfl)) ((show Below W2.heap.size W2 W2.drew from (Below.refl _ _).drew)) ?_
      (try simp only [List.setIfInBounds_toArray, List.set_cons_succ, List.set_cons_zero])
      refine go_take 2 15 #[true, false, true, false, false, false, false, false] rfl rfl rfl (by kernel_rfl) (by kernel_rfl) (by kernel_rfl) (by kernel_rfl) (by kernel_rfl) (yieldsIf_load_row (by rfl) 24 _ rfl (w.heap.size + 1) rfl 24 (k32 n2) (fun _ h => M3.out.below h M3.out.lt) Try.underlying24 rfl (by rw [k32_size]; kernel_rfl)) ((show Below W2.heap.size W2 W2.drew from (Below.refl _ _).drew)) ?_
      (try simp only [List.setIfInBounds_toArray, List.set_cons_succ, List.set_cons_zero])
      refine wpBut_r3 (i := 1) (j := 4) (l := 5) (by kernel_rfl) ?_ ?_ ?_
      · refine go_call 1 14 #[true, true, true, false, false, false, false, false] rfl rfl rfl (by rfl) rfl rfl (by rfl) ent30 (by rfl) (Hf1.out _) ?_
        rintro e wW21 ⟨rfl, hb⟩
        have hkW21 := held_next (show Below W2.heap.size W2 W2.drew from (Below.refl _ _).drew) hb
        refine ⟨_, rfl, fun _ => hkW21, ?_⟩
        clear hb
        (try simp only [List.setIfInBounds_toArray, List.set_cons_succ, List.set_cons_zero])
        refine wpBut_r3 (i := 3) (j := 4) (l := 5) (by kernel_rfl) ?_ ?_ ?_
        · refine go_call 3 16 #[true, true, true, true, false, false, false, false] rfl rfl rfl (by rfl) rfl rfl (by rfl) ent30 (by rfl) (Hf2.out _) ?_
          rintro e wW22 ⟨rfl, hb⟩
          have hkW22 := held_next hkW21 hb
          refine ⟨_, rfl, fun _ => hkW22, ?_⟩
          clear hb
          (try simp only [List.setIfInBounds_toArray, List.set_cons_succ, List.set_cons_zero])
          refine wpBut_r2 (i := 4) (j := 5) (by kernel_rfl) ?_ ?_
          · refine go_alloc 4 7 #[true, true, true, true, true, false, false, false] rfl rfl rfl (by rfl) 36 rfl _ al36 ?_
            intro wW23 hw2
            have hkW23 := (hkW22).alloc (hkW22).size (.cells (#[.int .u64 0, .int .u64 0, .int .u64 0, .int .u64 0] : Array Value) 36)
            rw [← hw2] at hkW23
            have MQ := HasN.new (wW22) (#[.int .u64 0, .int .u64 0, .int .u64 0, .int .u64 0] : Array Value) 36 4 rfl; rw [← hw2] at MQ; have MA4 := Lib.hid MQ; clear MQ
            have HA4 := Lib.hid (show W2.heap.size ≤ _ from (hkW22).size)
            clear hw2
            refine ⟨fun _ => hkW23, ?_⟩
            (try simp only [List.setIfInBounds_toArray, List.set_cons_succ, List.set_cons_zero])
            refine wpBut_r1 (i := 5) (by kernel_rfl) ?_
            refine go_alloc 5 8 #[true, true, true, true, true, true, false, false] rfl rfl rfl (by rfl) 36 rfl _ al36 ?_
            intro wW24 hw2
            have hkW24 := (hkW23).alloc (hkW23).size (.cells (#[.int .u64 0, .int .u64 0, .int .u64 0, .int .u64 0] : Array Value) 36)
            rw [← hw2] at hkW24
            have hne4_5 := MA4.out.lt
            have MQ := MA4.out.alloc (.cells (#[.int .u64 0, .int .u64 0, .int .u64 0, .int .u64 0] : Array Value) 36); rw [← hw2] at MQ; clear MA4; have MA4 := Lib.hid MQ; clear MQ
            have MQ := HasN.new (wW23) (#[.int .u64 0, .int .u64 0, .int .u64 0, .int .u64 0] : Array Value) 36 4 rfl; rw [← hw2] at MQ; have MA5 := Lib.hid MQ; clear MQ
            have HA5 := Lib.hid (show W2.heap.size ≤ _ from (hkW23).size)
            clear hw2
            refine ⟨fun _ => hkW24, ?_⟩
            (try simp only [List.setIfInBounds_toArray, List.set_cons_succ, List.set_cons_zero])
            refine wpBut_r1 (i := 6) (by kernel_rfl) ?_
            obtain ⟨Z, hZ, mZ⟩ := MA4.out
            refine go_store2 6 #[true, true, true, true, true, true, true, false] rfl rfl rfl (by rfl) 36 _ _ rfl _ _ rfl rfl 36 Z mZ (by rw [e4_size]; kernel_rfl) (hZ.trans (e4_size _).symm) (row_one _ _ _) ?_
            intro wW25 hw2
            have hkW25 := below_setRow (hkW24) _ (e4 a1) HA4.out
            rw [← hw2] at hkW25
            clear MA4
            have MQ := MA5.out.setRow_other _ (e4 a1) (show _ ≠ wW22.heap.size by omega); rw [← hw2] at MQ; clear MA5; have MA5 := Lib.hid MQ; clear MQ
            have MQ := mZ.setRow (e4 a1); rw [← hw2] at MQ; have MA4 := Lib.hid MQ; clear MQ mZ hZ hw2
            refine ⟨fun _ => hkW25, ?_⟩
            (try simp only [List.setIfInBounds_toArray, List.set_cons_succ, List.set_cons_zero])
            refine wpBut_r1 (i := 7) (by kernel_rfl) ?_
            obtain ⟨Z, hZ, mZ⟩ := MA5.out
            refine go_store2 7 #[true, true, true, true, true, true, true, true] rfl rfl rfl (by rfl) 36 _ _ rfl _ _ rfl rfl 36 Z mZ (by rw [e4_size]; kernel_rfl) (hZ.trans (e4_size _).symm) (row_one _ _ _) ?_
            intro wW26 hw2
            have hkW26 := below_setRow (hkW25) _ (e4 a2) HA5.out
            rw [← hw2] at hkW26
            clear MA5
            have MQ := MA4.out.setRow_other _ (e4 a2) (show _ ≠ wW23.heap.size by omega); rw [← hw2] at MQ; clear MA4; have MA4 := Lib.hid MQ; clear MQ
            have MQ := mZ.setRow (e4 a2); rw [← hw2] at MQ; have MA5 := Lib.hid MQ; clear MQ mZ hZ hw2
            refine ⟨fun _ => hkW26, ?_⟩
            (try simp only [List.setIfInBounds_toArray, List.set_cons_succ, List.set_cons_zero])
            exact wpBut_done (by kernel_rfl) (NoPanic.normal (HQ.out (_, _) _ ⟨HA4.out, MA4.out, HA5.out, MA5.out, (hkW26)⟩))
          · refine go_alloc 5 8 #[true, true, true, true, false, true, false, false] rfl rfl rfl (by rfl) 36 rfl _ al36 ?_
            intro wW23 hw2
            have hkW23 := (hkW22).alloc (hkW22).size (.cells (#[.int .u64 0, .int .u64 0, .int .u64 0, .int .u64 0] : Array Value) 36)
            rw [← hw2] at hkW23
            have MQ := HasN.new (wW22) (#[.int .u64 0, .int .u64 0, .int .u64 0, .int .u64 0] : Array Value) 36 4 rfl; rw [← hw2] at MQ; have MA5 := Lib.hid MQ; clear MQ
            have HA5 := Lib.hid (show W2.heap.size ≤ _ from (hkW22).size)
            clear hw2
            refine ⟨fun _ => hkW23, ?_⟩
            (try simp only [List.setIfInBounds_toArray, List.set_cons_succ, List.set_cons_zero])
            refine wpBut_r1 (i := 4) (by kernel_rfl) ?_
            refine go_alloc 4 7 #[true, true, true, true, true, true, false, false] rfl rfl rfl (by rfl) 36 rfl _ al36 ?_
            intro wW24 hw2
            have hkW24 := (hkW23).alloc (hkW23).size (.cells (#[.int .u64 0, .int .u64 0, .int .u64 0, .int .u64 0] : Array Value) 36)
            rw [← hw2] at hkW24
            have hne5_4 := MA5.out.lt
            have MQ := MA5.out.alloc (.cells (#[.int .u64 0, .int .u64 0, .int .u64 0, .int .u64 0] : Array Value) 36); rw [← hw2] at MQ; clear MA5; have MA5 := Lib.hid MQ; clear MQ
            have MQ := HasN.new (wW23) (#[.int .u64 0, .int .u64 0, .int .u64 0, .int .u64 0] : Array Value) 36 4 rfl; rw [← hw2] at MQ; have MA4 := Lib.hid MQ; clear MQ
            have HA4 := Lib.hid (show W2.heap.size ≤ _ from (hkW23).size)
            clear hw2
            refine ⟨fun _ => hkW24, ?_⟩
            (try simp only [List.setIfInBounds_toArray, List.set_cons_succ, List.set_cons_zero])
            refine wpBut_r1 (i := 6) (by kernel_rfl) ?_
            obtain ⟨Z, hZ, mZ⟩ := MA4.out
            refine go_store2 6 #[true, true, true, true, true, true, true, false] rfl rfl rfl (by rfl) 36 _ _ rfl _ _ rfl rfl 36 Z mZ (by rw [e4_size]; kernel_rfl) (hZ.trans (e4_size _).symm) (row_one _ _ _) ?_
            intro wW25 hw2
            have hkW25 := below_setRow (hkW24) _ (e4 a1) HA4.out
            rw [← hw2] at hkW25
            clear MA4
            have MQ := MA5.out.setRow_other _ (e4 a1) (show _ ≠ wW23.heap.size by omega); rw [← hw2] at MQ; clear MA5; have MA5 := Lib.hid MQ; clear MQ
            have MQ := mZ.setRow (e4 a1); rw [← hw2] at MQ; have MA4 := Lib.hid MQ; clear MQ mZ hZ hw2
            refine ⟨fun _ => hkW25, ?_⟩
            (try simp only [List.setIfInBounds_toArray, List.set_cons_succ, List.set_cons_zero])
            refine wpBut_r1 (i := 7) (by kernel_rfl) ?_
            obtain ⟨Z, hZ, mZ⟩ := MA5.out
            refine go_store2 7 #[true, true, true, true, true, true, true, true] rfl rfl rfl (by rfl) 36 _ _ rfl _ _ rfl rfl 36 Z mZ (by rw [e4_size]; kernel_rfl) (hZ.trans (e4_size _).symm) (row_one _ _ _) ?_
            intro wW26 hw2
            have hkW26 := below_setRow (hkW25) _ (e4 a2) HA5.out
            rw [← hw2] at hkW26
            clear MA5
            have MQ := MA4.out.setRow_other _ (e4 a2) (show _ ≠ wW22.heap.size by omega); rw [← hw2] at MQ; clear MA4; have MA4 := Lib.hid MQ; clear MQ
            have MQ := mZ.setRow (e4 a2); rw [← hw2] at MQ; have MA5 := Lib.hid MQ; clear MQ mZ hZ hw2
            refine ⟨fun _ => hkW26, ?_⟩
            (try simp only [List.setIfInBounds_toArray, List.set_cons_succ, List.set_cons_zero])
            exact wpBut_done (by kernel_rfl) (NoPanic.normal (HQ.out (_, _) _ ⟨HA4.out, MA4.out, HA5.out, MA5.out, (hkW26)⟩))
        · refine go_alloc 4 7 #[true, true, true, false, true, false, false, false] rfl rfl rfl (by rfl) 36 rfl _ al36 ?_
          intro wW22 hw2
          have hkW22 := (hkW21).alloc (hkW21).size (.cells (#[.int .u64 0, .int .u64 0, .int .u64 0, .int .u64 0] : Array Value) 36)
          rw [← hw2] at hkW22
          have MQ := HasN.new (wW21) (#[.int .u64 0, .int .u64 0, .int .u64 0, .int .u64 0] : Array Value) 36 4 rfl; rw [← hw2] at MQ; have MA4 := Lib.hid MQ; clear MQ
          have HA4 := Lib.hid (show W2.heap.size ≤ _ from (hkW21).size)
          clear hw2
          refine ⟨fun _ => hkW22, ?_⟩
          (try simp only [List.setIfInBounds_toArray, List.set_cons_succ, List.set_cons_zero])
          refine wpBut_r2 (i := 3) (j := 5) (by kernel_rfl) ?_ ?_
          · refine go_call 3 16 #[true, true, true, true, true, false, false, false] rfl rfl rfl (by rfl) rfl rfl (by rfl) ent30 (by rfl) (Hf2.out _) ?_
            rintro e wW23 ⟨rfl, hb⟩
            have hkW23 := held_next hkW22 hb
            have MQ4 := Lib.hid (MA4.out.call hb); clear MA4
            have MA4 := MQ4; clear MQ4
            refine ⟨_, rfl, fun _ => hkW23, ?_⟩
            clear hb
            (try simp only [List.setIfInBounds_toArray, List.set_cons_succ, List.set_cons_zero])
            refine wpBut_r1 (i := 5) (by kernel_rfl) ?_
            refine go_alloc 5 8 #[true, true, true, true, true, true, false, false] rfl rfl rfl (by rfl) 36 rfl _ al36 ?_
            intro wW24 hw2
            have hkW24 := (hkW23).alloc (hkW23).size (.cells (#[.int .u64 0, .int .u64 0, .int .u64 0, .int .u64 0] : Array Value) 36)
            rw [← hw2] at hkW24
            have hne4_5 := MA4.out.lt
            have MQ := MA4.out.alloc (.cells (#[.int .u64 0, .int .u64 0, .int .u64 0, .int .u64 0] : Array Value) 36); rw [← hw2] at MQ; clear MA4; have MA4 := Lib.hid MQ; clear MQ
            have MQ := HasN.new (wW23) (#[.int .u64 0, .int .u64 0, .int .u64 0, .int .u64 0] : Array Value) 36 4 rfl; rw [← hw2] at MQ; have MA5 := Lib.hid MQ; clear MQ
            have HA5 := Lib.hid (show W2.heap.size ≤ _ from (hkW23).size)
            clear hw2
            refine ⟨fun _ => hkW24, ?_⟩
            (try simp only [List.setIfInBounds_toArray, List.set_cons_succ, List.set_cons_zero])
            refine wpBut_r1 (i := 6) (by kernel_rfl) ?_
            obtain ⟨Z, hZ, mZ⟩ := MA4.out
            refine go_store2 6 #[true, true, true, true, true, true, true, false] rfl rfl rfl (by rfl) 36 _ _ rfl _ _ rfl rfl 36 Z mZ (by rw [e4_size]; kernel_rfl) (hZ.trans (e4_size _).symm) (row_one _ _ _) ?_
            intro wW25 hw2
            have hkW25 := below_setRow (hkW24) _ (e4 a1) HA4.out
            rw [← hw2] at hkW25
            clear MA4
            have MQ := MA5.out.setRow_other _ (e4 a1) (show _ ≠ wW21.heap.size by omega); rw [← hw2] at MQ; clear MA5; have MA5 := Lib.hid MQ; clear MQ
            have MQ := mZ.setRow (e4 a1); rw [← hw2] at MQ; have MA4 := Lib.hid MQ; clear MQ mZ hZ hw2
            refine ⟨fun _ => hkW25, ?_⟩
            (try simp only [List.setIfInBounds_toArray, List.set_cons_succ, List.set_cons_zero])
            refine wpBut_r1 (i := 7) (by kernel_rfl) ?_
            obtain ⟨Z, hZ, mZ⟩ := MA5.out
            refine go_store2 7 #[true, true, true, true, true, true, true, true] rfl rfl rfl (by rfl) 36 _ _ rfl _ _ rfl rfl 36 Z mZ (by rw [e4_size]; kernel_rfl) (hZ.trans (e4_size _).symm) (row_one _ _ _) ?_
            intro wW26 hw2
            have hkW26 := below_setRow (hkW25) _ (e4 a2) HA5.out
            rw [← hw2] at hkW26
            clear MA5
            have MQ := MA4.out.setRow_other _ (e4 a2) (show _ ≠ wW23.heap.size by omega); rw [← hw2] at MQ; clear MA4; have MA4 := Lib.hid MQ; clear MQ
            have MQ := mZ.setRow (e4 a2); rw [← hw2] at MQ; have MA5 := Lib.hid MQ; clear MQ mZ hZ hw2
            refine ⟨fun _ => hkW26, ?_⟩
            (try simp only [List.setIfInBounds_toArray, List.set_cons_succ, List.set_cons_zero])
            exact wpBut_done (by kernel_rfl) (NoPanic.normal (HQ.out (_, _) _ ⟨HA4.out, MA4.out, HA5.out, MA5.out, (hkW26)⟩))
          · refine go_alloc 5 8 #[true, true, true, false, true, true, false, false] rfl rfl rfl (by rfl) 36 rfl _ al36 ?_
            intro wW23 hw2
            have hkW23 := (hkW22).alloc (hkW22).size (.cells (#[.int .u64 0, .int .u64 0, .int .u64 0, .int .u64 0] : Array Value) 36)
            rw [← hw2] at hkW23
            have hne4_5 := MA4.out.lt
            have MQ := MA4.out.alloc (.cells (#[.int .u64 0, .int .u64 0, .int .u64 0, .int .u64 0] : Array Value) 36); rw [← hw2] at MQ; clear MA4; have MA4 := Lib.hid MQ; clear MQ
            have MQ := HasN.new (wW22) (#[.int .u64 0, .int .u64 0, .int .u64 0, .int .u64 0] : Array Value) 36 4 rfl; rw [← hw2] at MQ; have MA5 := Lib.hid MQ; clear MQ
            have HA5 := Lib.hid (show W2.heap.size ≤ _ from (hkW22).size)
            clear hw2
            refine ⟨fun _ => hkW23, ?_⟩
            (try simp only [List.setIfInBounds_toArray, List.set_cons_succ, List.set_cons_zero])
            refine wpBut_r1 (i := 3) (by kernel_rfl) ?_
            refine go_call 3 16 #[true, true, true, true, true, true, false, false] rfl rfl rfl (by rfl) rfl rfl (by rfl) ent30 (by rfl) (Hf2.out _) ?_
            rintro e wW24 ⟨rfl, hb⟩
            have hkW24 := held_next hkW23 hb
            have MQ4 := Lib.hid (MA4.out.call hb); clear MA4
            have MA4 := MQ4; clear MQ4
            have MQ5 := Lib.hid (MA5.out.call hb); clear MA5
            have MA5 := MQ5; clear MQ5
            refine ⟨_, rfl, fun _ => hkW24, ?_⟩
            clear hb
            (try simp only [List.setIfInBounds_toArray, List.set_cons_succ, List.set_cons_zero])
            refine wpBut_r1 (i := 6) (by kernel_rfl) ?_
            obtain ⟨Z, hZ, mZ⟩ := MA4.out
            refine go_store2 6 #[true, true, true, true, true, true, true, false] rfl rfl rfl (by rfl) 36 _ _ rfl _ _ rfl rfl 36 Z mZ (by rw [e4_size]; kernel_rfl) (hZ.trans (e4_size _).symm) (row_one _ _ _) ?_
            intro wW25 hw2
            have hkW25 := below_setRow (hkW24) _ (e4 a1) HA4.out
            rw [← hw2] at hkW25
            clear MA4
            have MQ := MA5.out.setRow_other _ (e4 a1) (show _ ≠ wW21.heap.size by omega); rw [← hw2] at MQ; clear MA5; have MA5 := Lib.hid MQ; clear MQ
            have MQ := mZ.setRow (e4 a1); rw [← hw2] at MQ; have MA4 := Lib.hid MQ; clear MQ mZ hZ hw2
            refine ⟨fun _ => hkW25, ?_⟩
            (try simp only [List.setIfInBounds_toArray, List.set_cons_succ, List.set_cons_zero])
            refine wpBut_r1 (i := 7) (by kernel_rfl) ?_
            obtain ⟨Z, hZ, mZ⟩ := MA5.out
            refine go_store2 7 #[true, true, true, true, true, true, true, true] rfl rfl rfl (by rfl) 36 _ _ rfl _ _ rfl rfl 36 Z mZ (by rw [e4_size]; kernel_rfl) (hZ.trans (e4_size _).symm) (row_one _ _ _) ?_
            intro wW26 hw2
            have hkW26 := below_setRow (hkW25) _ (e4 a2) HA5.out
            rw [← hw2] at hkW26
            clear MA5
            have MQ := MA4.out.setRow_other _ (e4 a2) (show _ ≠ wW22.heap.size by omega); rw [← hw2] at MQ; clear MA4; have MA4 := Lib.hid MQ; clear MQ
            have MQ := mZ.setRow (e4 a2); rw [← hw2] at MQ; have MA5 := Lib.hid MQ; clear MQ mZ hZ hw2
            refine ⟨fun _ => hkW26, ?_⟩
            (try simp only [List.setIfInBounds_toArray, List.set_cons_succ, List.set_cons_zero])
            exact wpBut_done (by kernel_rfl) (NoPanic.normal (HQ.out (_, _) _ ⟨HA4.out, MA4.out, HA5.out, MA5.out, (hkW26)⟩))
        · refine go_alloc 5 8 #[true, true, true, false, false, true, false, false] rfl rfl rfl (by rfl) 36 rfl _ al36 ?_
          intro wW22 hw2
          have hkW22 := (hkW21).alloc (hkW21).size (.cells (#[.int .u64 0, .int .u64 0, .int .u64 0, .int .u64 0] : Array Value) 36)
          rw [← hw2] at hkW22
          have MQ := HasN.new (wW21) (#[.int .u64 0, .int .u64 0, .int .u64 0, .int .u64 0] : Array Value) 36 4 rfl; rw [← hw2] at MQ; have MA5 := Lib.hid MQ; clear MQ
          have HA5 := Lib.hid (show W2.heap.size ≤ _ from (hkW21).size)
          clear hw2
          refine ⟨fun _ => hkW22, ?_⟩
          (try simp only [List.setIfInBounds_toArray, List.set_cons_succ, List.set_cons_zero])
          refine wpBut_r2 (i := 3) (j := 4) (by kernel_rfl) ?_ ?_
          · refine go_call 3 16 #[true, true, true, true, false, true, false, false] rfl rfl rfl (by rfl) rfl rfl (by rfl) ent30 (by rfl) (Hf2.out _) ?_
            rintro e wW23 ⟨rfl, hb⟩
            have hkW23 := held_next hkW22 hb
            have MQ5 := Lib.hid (MA5.out.call hb); clear MA5
            have MA5 := MQ5; clear MQ5
            refine ⟨_, rfl, fun _ => hkW23, ?_⟩
            clear hb
            (try simp only [List.setIfInBounds_toArray, List.set_cons_succ, List.set_cons_zero])
            refine wpBut_r1 (i := 4) (by kernel_rfl) ?_
            refine go_alloc 4 7 #[true, true, true, true, true, true, false, false] rfl rfl rfl (by rfl) 36 rfl _ al36 ?_
            intro wW24 hw2
            have hkW24 := (hkW23).alloc (hkW23).size (.cells (#[.int .u64 0, .int .u64 0, .int .u64 0, .int .u64 0] : Array Value) 36)
            rw [← hw2] at hkW24
            have hne5_4 := MA5.out.lt
            have MQ := MA5.out.alloc (.cells (#[.int .u64 0, .int .u64 0, .int .u64 0, .int .u64 0] : Array Value) 36); rw [← hw2] at MQ; clear MA5; have MA5 := Lib.hid MQ; clear MQ
            have MQ := HasN.new (wW23) (#[.int .u64 0, .int .u64 0, .int .u64 0, .int .u64 0] : Array Value) 36 4 rfl; rw [← hw2] at MQ; have MA4 := Lib.hid MQ; clear MQ
            have HA4 := Lib.hid (show W2.heap.size ≤ _ from (hkW23).size)
            clear hw2
            refine ⟨fun _ => hkW24, ?_⟩
            (try simp only [List.setIfInBounds_toArray, List.set_cons_succ, List.set_cons_zero])
            refine wpBut_r1 (i := 6) (by kernel_rfl) ?_
            obtain ⟨Z, hZ, mZ⟩ := MA4.out
            refine go_store2 6 #[true, true, true, true, true, true, true, false] rfl rfl rfl (by rfl) 36 _ _ rfl _ _ rfl rfl 36 Z mZ (by rw [e4_size]; kernel_rfl) (hZ.trans (e4_size _).symm) (row_one _ _ _) ?_
            intro wW25 hw2
            have hkW25 := below_setRow (hkW24) _ (e4 a1) HA4.out
            rw [← hw2] at hkW25
            clear MA4
            have MQ := MA5.out.setRow_other _ (e4 a1) (show _ ≠ wW23.heap.size by omega); rw [← hw2] at MQ; clear MA5; have MA5 := Lib.hid MQ; clear MQ
            have MQ := mZ.setRow (e4 a1); rw [← hw2] at MQ; have MA4 := Lib.hid MQ; clear MQ mZ hZ hw2
            refine ⟨fun _ => hkW25, ?_⟩
            (try simp only [List.setIfInBounds_toArray, List.set_cons_succ, List.set_cons_zero])
            refine wpBut_r1 (i := 7) (by kernel_rfl) ?_
            obtain ⟨Z, hZ, mZ⟩ := MA5.out
            refine go_store2 7 #[true, true, true, true, true, true, true, true] rfl rfl rfl (by rfl) 36 _ _ rfl _ _ rfl rfl 36 Z mZ (by rw [e4_size]; kernel_rfl) (hZ.trans (e4_size _).symm) (row_one _ _ _) ?_
            intro wW26 hw2
            have hkW26 := below_setRow (hkW25) _ (e4 a2) HA5.out
            rw [← hw2] at hkW26
            clear MA5
            have MQ := MA4.out.setRow_other _ (e4 a2) (show _ ≠ wW21.heap.size by omega); rw [← hw2] at MQ; clear MA4; have MA4 := Lib.hid MQ; clear MQ
            have MQ := mZ.setRow (e4 a2); rw [← hw2] at MQ; have MA5 := Lib.hid MQ; clear MQ mZ hZ hw2
            refine ⟨fun _ => hkW26, ?_⟩
            (try simp only [List.setIfInBounds_toArray, List.set_cons_succ, List.set_cons_zero])
            exact wpBut_done (by kernel_rfl) (NoPanic.normal (HQ.out (_, _) _ ⟨HA4.out, MA4.out, HA5.out, MA5.out, (hkW26)⟩))
          · refine go_alloc 4 7 #[true, true, true, false, true, true, false, false] rfl rfl rfl (by rfl) 36 rfl _ al36 ?_
            intro wW23 hw2
            have hkW23 := (hkW22).alloc (hkW22).size (.cells (#[.int .u64 0, .int .u64 0, .int .u64 0, .int .u64 0] : Array Value) 36)
            rw [← hw2] at hkW23
            have hne5_4 := MA5.out.lt
            have MQ := MA5.out.alloc (.cells (#[.int .u64 0, .int .u64 0, .int .u64 0, .int .u64 0] : Array Value) 36); rw [← hw2] at MQ; clear MA5; have MA5 := Lib.hid MQ; clear MQ
            have MQ := HasN.new (wW22) (#[.int .u64 0, .int .u64 0, .int .u64 0, .int .u64 0] : Array Value) 36 4 rfl; rw [← hw2] at MQ; have MA4 := Lib.hid MQ; clear MQ
            have HA4 := Lib.hid (show W2.heap.size ≤ _ from (hkW22).size)
            clear hw2
            refine ⟨fun _ => hkW23, ?_⟩
            (try simp only [List.setIfInBounds_toArray, List.set_cons_succ, List.set_cons_zero])
            refine wpBut_r1 (i := 3) (by kernel_rfl) ?_
            refine go_call 3 16 #[true, true, true, true, true, true, false, false] rfl rfl rfl (by rfl) rfl rfl (by rfl) ent30 (by rfl) (Hf2.out _) ?_
            rintro e wW24 ⟨rfl, hb⟩
            have hkW24 := held_next hkW23 hb
            have MQ5 := Lib.hid (MA5.out.call hb); clear MA5
            have MA5 := MQ5; clear MQ5
            have MQ4 := Lib.hid (MA4.out.call hb); clear MA4
            have MA4 := MQ4; clear MQ4
            refine ⟨_, rfl, fun _ => hkW24, ?_⟩
            clear hb
            (try simp only [List.setIfInBounds_toArray, List.set_cons_succ, List.set_cons_zero])
            refine wpBut_r1 (i := 6) (by kernel_rfl) ?_
            obtain ⟨Z, hZ, mZ⟩ := MA4.out
            refine go_store2 6 #[true, true, true, true, true, true, true, false] rfl rfl rfl (by rfl) 36 _ _ rfl _ _ rfl rfl 36 Z mZ (by rw [e4_size]; kernel_rfl) (hZ.trans (e4_size _).symm) (row_one _ _ _) ?_
            intro wW25 hw2
            have hkW25 := below_setRow (hkW24) _ (e4 a1) HA4.out
            rw [← hw2] at hkW25
            clear MA4
            have MQ := MA5.out.setRow_other _ (e4 a1) (show _ ≠ wW22.heap.size by omega); rw [← hw2] at MQ; clear MA5; have MA5 := Lib.hid MQ; clear MQ
            have MQ := mZ.setRow (e4 a1); rw [← hw2] at MQ; have MA4 := Lib.hid MQ; clear MQ mZ hZ hw2
            refine ⟨fun _ => hkW25, ?_⟩
            (try simp only [List.setIfInBounds_toArray, List.set_cons_succ, List.set_cons_zero])
            refine wpBut_r1 (i := 7) (by kernel_rfl) ?_
            obtain ⟨Z, hZ, mZ⟩ := MA5.out
            refine go_store2 7 #[true, true, true, true, true, true, true, true] rfl rfl rfl (by rfl) 36 _ _ rfl _ _ rfl rfl 36 Z mZ (by rw [e4_size]; kernel_rfl) (hZ.trans (e4_size _).symm) (row_one _ _ _) ?_
            intro wW26 hw2
            have hkW26 := below_setRow (hkW25) _ (e4 a2) HA5.out
            rw [← hw2] at hkW26
            clear MA5
            have MQ := MA4.out.setRow_other _ (e4 a2) (show _ ≠ wW21.heap.size by omega); rw [← hw2] at MQ; clear MA4; have MA4 := Lib.hid MQ; clear MQ
            have MQ := mZ.setRow (e4 a2); rw [← hw2] at MQ; have MA5 := Lib.hid MQ; clear MQ mZ hZ hw2
            refine ⟨fun _ => hkW26, ?_⟩
            (try simp only [List.setIfInBounds_toArray, List.set_cons_succ, List.set_cons_zero])
            exact wpBut_done (by kernel_rfl) (NoPanic.normal (HQ.out (_, _) _ ⟨HA4.out, MA4.out, HA5.out, MA5.out, (hkW26)⟩))
      · refine go_alloc 4 7 #[true, false, true, false, true, false, false, false] rfl rfl rfl (by rfl) 36 rfl _ al36 ?_
        intro wW21 hw2
        have hkW21 := ((show Below W2.heap.size W2 W2.drew from (Below.refl _ _).drew)).alloc ((show Below W2.heap.size W2 W2.drew from (Below.refl _ _).drew)).size (.cells (#[.int .u64 0, .int .u64 0, .int .u64 0, .int .u64 0] : Array Value) 36)
        rw [← hw2] at hkW21
        have MQ := HasN.new (W2.drew) (#[.int .u64 0, .int .u64 0, .int .u64 0, .int .u64 0] : Array Value) 36 4 rfl; rw [← hw2] at MQ; have MA4 := Lib.hid MQ; clear MQ
        have HA4 := Lib.hid (show W2.heap.size ≤ _ from ((show Below W2.heap.size W2 W2.drew from (Below.refl _ _).drew)).size)
        clear hw2
        refine ⟨fun _ => hkW21, ?_⟩
        (try simp only [List.setIfInBounds_toArray, List.set_cons_succ, List.set_cons_zero])
        refine wpBut_r2 (i := 1) (j := 5) (by kernel_rfl) ?_ ?_
        · refine go_call 1 14 #[true, true, true, false, true, false, false, false] rfl rfl rfl (by rfl) rfl rfl (by rfl) ent30 (by rfl) (Hf1.out _) ?_
          rintro e wW22 ⟨rfl, hb⟩
          have hkW22 := held_next hkW21 hb
          have MQ4 := Lib.hid (MA4.out.call hb); clear MA4
          have MA4 := MQ4; clear MQ4
          refine ⟨_, rfl, fun _ => hkW22, ?_⟩
          clear hb
          (try simp only [List.setIfInBounds_toArray, List.set_cons_succ, List.set_cons_zero])
          refine wpBut_r2 (i := 3) (j := 5) (by kernel_rfl) ?_ ?_
          · refine go_call 3 16 #[true, true, true, true, true, false, false, false] rfl rfl rfl (by rfl) rfl rfl (by rfl) ent30 (by rfl) (Hf2.out _) ?_
            rintro e wW23 ⟨rfl, hb⟩
            have hkW23 := held_next hkW22 hb
            have MQ4 := Lib.hid (MA4.out.call hb); clear MA4
            have MA4 := MQ4; clear MQ4
            refine ⟨_, rfl, fun _ => hkW23, ?_⟩
            clear hb
            (try simp only [List.setIfInBounds_toArray, List.set_cons_succ, List.set_cons_zero])
            refine wpBut_r1 (i := 5) (by kernel_rfl) ?_
            refine go_alloc 5 8 #[true, true, true, true, true, true, false, false] rfl rfl rfl (by rfl) 36 rfl _ al36 ?_
            intro wW24 hw2
            have hkW24 := (hkW23).alloc (hkW23).size (.cells (#[.int .u64 0, .int .u64 0, .int .u64 0, .int .u64 0] : Array Value) 36)
            rw [← hw2] at hkW24
            have hne4_5 := MA4.out.lt
            have MQ := MA4.out.alloc (.cells (#[.int .u64 0, .int .u64 0, .int .u64 0, .int .u64 0] : Array Value) 36); rw [← hw2] at MQ; clear MA4; have MA4 := Lib.hid MQ; clear MQ
            have MQ := HasN.new (wW23) (#[.int .u64 0, .int .u64 0, .int .u64 0, .int .u64 0] : Array Value) 36 4 rfl; rw [← hw2] at MQ; have MA5 := Lib.hid MQ; clear MQ
            have HA5 := Lib.hid (show W2.heap.size ≤ _ from (hkW23).size)
            clear hw2
            refine ⟨fun _ => hkW24, ?_⟩
            (try simp only [List.setIfInBounds_toArray, List.set_cons_succ, List.set_cons_zero])
            refine wpBut_r1 (i := 6) (by kernel_rfl) ?_
            obtain ⟨Z, hZ, mZ⟩ := MA4.out
            refine go_store2 6 #[true, true, true, true, true, true, true, false] rfl rfl rfl (by rfl) 36 _ _ rfl _ _ rfl rfl 36 Z mZ (by rw [e4_size]; kernel_rfl) (hZ.trans (e4_size _).symm) (row_one _ _ _) ?_
            intro wW25 hw2
            have hkW25 := below_setRow (hkW24) _ (e4 a1) HA4.out
            rw [← hw2] at hkW25
            clear MA4
            have MQ := MA5.out.setRow_other _ (e4 a1) (show _ ≠ W2.drew.heap.size by omega); rw [← hw2] at MQ; clear MA5; have MA5 := Lib.hid MQ; clear MQ
            have MQ := mZ.setRow (e4 a1); rw [← hw2] at MQ; have MA4 := Lib.hid MQ; clear MQ mZ hZ hw2
            refine ⟨fun _ => hkW25, ?_⟩
            (try simp only [List.setIfInBounds_toArray, List.set_cons_succ, List.set_cons_zero])
            refine wpBut_r1 (i := 7) (by kernel_rfl) ?_
            obtain ⟨Z, hZ, mZ⟩ := MA5.out
            refine go_store2 7 #[true, true, true, true, true, true, true, true] rfl rfl rfl (by rfl) 36 _ _ rfl _ _ rfl rfl 36 Z mZ (by rw [e4_size]; kernel_rfl) (hZ.trans (e4_size _).symm) (row_one _ _ _) ?_
            intro wW26 hw2
            have hkW26 := below_setRow (hkW25) _ (e4 a2) HA5.out
            rw [← hw2] at hkW26
            clear MA5
            have MQ := MA4.out.setRow_other _ (e4 a2) (show _ ≠ wW23.heap.size by omega); rw [← hw2] at MQ; clear MA4; have MA4 := Lib.hid MQ; clear MQ
            have MQ := mZ.setRow (e4 a2); rw [← hw2] at MQ; have MA5 := Lib.hid MQ; clear MQ mZ hZ hw2
            refine ⟨fun _ => hkW26, ?_⟩
            (try simp only [List.setIfInBounds_toArray, List.set_cons_succ, List.set_cons_zero])
            exact wpBut_done (by kernel_rfl) (NoPanic.normal (HQ.out (_, _) _ ⟨HA4.out, MA4.out, HA5.out, MA5.out, (hkW26)⟩))
          · refine go_alloc 5 8 #[true, true, true, false, true, true, false, false] rfl rfl rfl (by rfl) 36 rfl _ al36 ?_
            intro wW23 hw2
            have hkW23 := (hkW22).alloc (hkW22).size (.cells (#[.int .u64 0, .int .u64 0, .int .u64 0, .int .u64 0] : Array Value) 36)
            rw [← hw2] at hkW23
            have hne4_5 := MA4.out.lt
            have MQ := MA4.out.alloc (.cells (#[.int .u64 0, .int .u64 0, .int .u64 0, .int .u64 0] : Array Value) 36); rw [← hw2] at MQ; clear MA4; have MA4 := Lib.hid MQ; clear MQ
            have MQ := HasN.new (wW22) (#[.int .u64 0, .int .u64 0, .int .u64 0, .int .u64 0] : Array Value) 36 4 rfl; rw [← hw2] at MQ; have MA5 := Lib.hid MQ; clear MQ
            have HA5 := Lib.hid (show W2.heap.size ≤ _ from (hkW22).size)
            clear hw2
            refine ⟨fun _ => hkW23, ?_⟩
            (try simp only [List.setIfInBounds_toArray, List.set_cons_succ, List.set_cons_zero])
            refine wpBut_r1 (i := 3) (by kernel_rfl) ?_
            refine go_call 3 16 #[true, true, true, true, true, true, false, false] rfl rfl rfl (by rfl) rfl rfl (by rfl) ent30 (by rfl) (Hf2.out _) ?_
            rintro e wW24 ⟨rfl, hb⟩
            have hkW24 := held_next hkW23 hb
            have MQ4 := Lib.hid (MA4.out.call hb); clear MA4
            have MA4 := MQ4; clear MQ4
            have MQ5 := Lib.hid (MA5.out.call hb); clear MA5
            have MA5 := MQ5; clear MQ5
            refine ⟨_, rfl, fun _ => hkW24, ?_⟩
            clear hb
            (try simp only [List.setIfInBounds_toArray, List.set_cons_succ, List.set_cons_zero])
            refine wpBut_r1 (i := 6) (by kernel_rfl) ?_
            obtain ⟨Z, hZ, mZ⟩ := MA4.out
            refine go_store2 6 #[true, true, true, true, true, true, true, false] rfl rfl rfl (by rfl) 36 _ _ rfl _ _ rfl rfl 36 Z mZ (by rw [e4_size]; kernel_rfl) (hZ.trans (e4_size _).symm) (row_one _ _ _) ?_
            intro wW25 hw2
            have hkW25 := below_setRow (hkW24) _ (e4 a1) HA4.out
            rw [← hw2] at hkW25
            clear MA4
            have MQ := MA5.out.setRow_other _ (e4 a1) (show _ ≠ W2.drew.heap.size by omega); rw [← hw2] at MQ; clear MA5; have MA5 := Lib.hid MQ; clear MQ
            have MQ := mZ.setRow (e4 a1); rw [← hw2] at MQ; have MA4 := Lib.hid MQ; clear MQ mZ hZ hw2
            refine ⟨fun _ => hkW25, ?_⟩
            (try simp only [List.setIfInBounds_toArray, List.set_cons_succ, List.set_cons_zero])
            refine wpBut_r1 (i := 7) (by kernel_rfl) ?_
            obtain ⟨Z, hZ, mZ⟩ := MA5.out
            refine go_store2 7 #[true, true, true, true, true, true, true, true] rfl rfl rfl (by rfl) 36 _ _ rfl _ _ rfl rfl 36 Z mZ (by rw [e4_size]; kernel_rfl) (hZ.trans (e4_size _).symm) (row_one _ _ _) ?_
            intro wW26 hw2
            have hkW26 := below_setRow (hkW25) _ (e4 a2) HA5.out
            rw [← hw2] at hkW26
            clear MA5
            have MQ := MA4.out.setRow_other _ (e4 a2) (show _ ≠ wW22.heap.size by omega); rw [← hw2] at MQ; clear MA4; have MA4 := Lib.hid MQ; clear MQ
            have MQ := mZ.setRow (e4 a2); rw [← hw2] at MQ; have MA5 := Lib.hid MQ; clear MQ mZ hZ hw2
            refine ⟨fun _ => hkW26, ?_⟩
            (try simp only [List.setIfInBounds_toArray, List.set_cons_succ, List.set_cons_zero])
            exact wpBut_done (by kernel_rfl) (NoPanic.normal (HQ.out (_, _) _ ⟨HA4.out, MA4.out, HA5.out, MA5.out, (hkW26)⟩))
        · refine go_alloc 5 8 #[true, false, true, false, true, true, false, false] rfl rfl rfl (by rfl) 36 rfl _ al36 ?_
          intro wW22 hw2
          have hkW22 := (hkW21).alloc (hkW21).size (.cells (#[.int .u64 0, .int .u64 0, .int .u64 0, .int .u64 0] : Array Value) 36)
          rw [← hw2] at hkW22
          have hne4_5 := MA4.out.lt
          have MQ := MA4.out.alloc (.cells (#[.int .u64 0, .int .u64 0, .int .u64 0, .int .u64 0] : Array Value) 36); rw [← hw2] at MQ; clear MA4; have MA4 := Lib.hid MQ; clear MQ
          have MQ := HasN.new (wW21) (#[.int .u64 0, .int .u64 0, .int .u64 0, .int .u64 0] : Array Value) 36 4 rfl; rw [← hw2] at MQ; have MA5 := Lib.hid MQ; clear MQ
          have HA5 := Lib.hid (show W2.heap.size ≤ _ from (hkW21).size)
          clear hw2
          refine ⟨fun _ => hkW22, ?_⟩
          (try simp only [List.setIfInBounds_toArray, List.set_cons_succ, List.set_cons_zero])
          refine wpBut_r1 (i := 1) (by kernel_rfl) ?_
          refine go_call 1 14 #[true, true, true, false, true, true, false, false] rfl rfl rfl (by rfl) rfl rfl (by rfl) ent30 (by rfl) (Hf1.out _) ?_
          rintro e wW23 ⟨rfl, hb⟩
          have hkW23 := held_next hkW22 hb
          have MQ4 := Lib.hid (MA4.out.call hb); clear MA4
          have MA4 := MQ4; clear MQ4
          have MQ5 := Lib.hid (MA5.out.call hb); clear MA5
          have MA5 := MQ5; clear MQ5
          refine ⟨_, rfl, fun _ => hkW23, ?_⟩
          clear hb
          (try simp only [List.setIfInBounds_toArray, List.set_cons_succ, List.set_cons_zero])
          refine wpBut_r1 (i := 3) (by kernel_rfl) ?_
          refine go_call 3 16 #[true, true, true, true, true, true, false, false] rfl rfl rfl (by rfl) rfl rfl (by rfl) ent30 (by rfl) (Hf2.out _) ?_
          rintro e wW24 ⟨rfl, hb⟩
          have hkW24 := held_next hkW23 hb
          have MQ4 := Lib.hid (MA4.out.call hb); clear MA4
          have MA4 := MQ4; clear MQ4
          have MQ5 := Lib.hid (MA5.out.call hb); clear MA5
          have MA5 := MQ5; clear MQ5
          refine ⟨_, rfl, fun _ => hkW24, ?_⟩
          clear hb
          (try simp only [List.setIfInBounds_toArray, List.set_cons_succ, List.set_cons_zero])
          refine wpBut_r1 (i := 6) (by kernel_rfl) ?_
          obtain ⟨Z, hZ, mZ⟩ := MA4.out
          refine go_store2 6 #[true, true, true, true, true, true, true, false] rfl rfl rfl (by rfl) 36 _ _ rfl _ _ rfl rfl 36 Z mZ (by rw [e4_size]; kernel_rfl) (hZ.trans (e4_size _).symm) (row_one _ _ _) ?_
          intro wW25 hw2
          have hkW25 := below_setRow (hkW24) _ (e4 a1) HA4.out
          rw [← hw2] at hkW25
          clear MA4
          have MQ := MA5.out.setRow_other _ (e4 a1) (show _ ≠ W2.drew.heap.size by omega); rw [← hw2] at MQ; clear MA5; have MA5 := Lib.hid MQ; clear MQ
          have MQ := mZ.setRow (e4 a1); rw [← hw2] at MQ; have MA4 := Lib.hid MQ; clear MQ mZ hZ hw2
          refine ⟨fun _ => hkW25, ?_⟩
          (try simp only [List.setIfInBounds_toArray, List.set_cons_succ, List.set_cons_zero])
          refine wpBut_r1 (i := 7) (by kernel_rfl) ?_
          obtain ⟨Z, hZ, mZ⟩ := MA5.out
          refine go_store2 7 #[true, true, true, true, true, true, true, true] rfl rfl rfl (by rfl) 36 _ _ rfl _ _ rfl rfl 36 Z mZ (by rw [e4_size]; kernel_rfl) (hZ.trans (e4_size _).symm) (row_one _ _ _) ?_
          intro wW26 hw2
          have hkW26 := below_setRow (hkW25) _ (e4 a2) HA5.out
          rw [← hw2] at hkW26
          clear MA5
          have MQ := MA4.out.setRow_other _ (e4 a2) (show _ ≠ wW21.heap.size by omega); rw [← hw2] at MQ; clear MA4; have MA4 := Lib.hid MQ; clear MQ
          have MQ := mZ.setRow (e4 a2); rw [← hw2] at MQ; have MA5 := Lib.hid MQ; clear MQ mZ hZ hw2
          refine ⟨fun _ => hkW26, ?_⟩
          (try simp only [List.setIfInBounds_toArray, List.set_cons_succ, List.set_cons_zero])
          exact wpBut_done (by kernel_rfl) (NoPanic.normal (HQ.out (_, _) _ ⟨HA4.out, MA4.out, HA5.out, MA5.out, (hkW26)⟩))
      · refine go_alloc 5 8 #[true, false, true, false, false, true, false, false] rfl rfl rfl (by rfl) 36 rfl _ al36 ?_
        intro wW21 hw2
        have hkW21 := ((show Below W2.heap.size W2 W2.drew from (Below.refl _ _).drew)).alloc ((show Below W2.heap.size W2 W2.drew from (Below.refl _ _).drew)).size (.cells (#[.int .u64 0, .int .u64 0, .int .u64 0, .int .u64 0] : Array Value) 36)
        rw [← hw2] at hkW21
        have MQ := HasN.new (W2.drew) (#[.int .u64 0, .int .u64 0, .int .u64 0, .int .u64 0] : Array Value) 36 4 rfl; rw [← hw2] at MQ; have MA5 := Lib.hid MQ; clear MQ
        have HA5 := Lib.hid (show W2.heap.size ≤ _ from ((show Below W2.heap.size W2 W2.drew from (Below.refl _ _).drew)).size)
        clear hw2
        refine ⟨fun _ => hkW21, ?_⟩
        (try simp only [List.setIfInBounds_toArray, List.set_cons_succ, List.set_cons_zero])
        refine wpBut_r2 (i := 1) (j := 4) (by kernel_rfl) ?_ ?_
        · refine go_call 1 14 #[true, true, true, false, false, true, false, false] rfl rfl rfl (by rfl) rfl rfl (by rfl) ent30 (by rfl) (Hf1.out _) ?_
          rintro e wW22 ⟨rfl, hb⟩
          have hkW22 := held_next hkW21 hb
          have MQ5 := Lib.hid (MA5.out.call hb); clear MA5
          have MA5 := MQ5; clear MQ5
          refine ⟨_, rfl, fun _ => hkW22, ?_⟩
          clear hb
          (try simp only [List.setIfInBounds_toArray, List.set_cons_succ, List.set_cons_zero])
          refine wpBut_r2 (i := 3) (j := 4) (by kernel_rfl) ?_ ?_
          · refine go_call 3 16 #[true, true, true, true, false, true, false, false] rfl rfl rfl (by rfl) rfl rfl (by rfl) ent30 (by rfl) (Hf2.out _) ?_
            rintro e wW23 ⟨rfl, hb⟩
            have hkW23 := held_next hkW22 hb
            have MQ5 := Lib.hid (MA5.out.call hb); clear MA5
            have MA5 := MQ5; clear MQ5
            refine ⟨_, rfl, fun _ => hkW23, ?_⟩
            clear hb
            (try simp only [List.setIfInBounds_toArray, List.set_cons_succ, List.set_cons_zero])
            refine wpBut_r1 (i := 4) (by kernel_rfl) ?_
            refine go_alloc 4 7 #[true, true, true, true, true, true, false, false] rfl rfl rfl (by rfl) 36 rfl _ al36 ?_
            intro wW24 hw2
            have hkW24 := (hkW23).alloc (hkW23).size (.cells (#[.int .u64 0, .int .u64 0, .int .u64 0, .int .u64 0] : Array Value) 36)
            rw [← hw2] at hkW24
            have hne5_4 := MA5.out.lt
            have MQ := MA5.out.alloc (.cells (#[.int .u64 0, .int .u64 0, .int .u64 0, .int .u64 0] : Array Value) 36); rw [← hw2] at MQ; clear MA5; have MA5 := Lib.hid MQ; clear MQ
            have MQ := HasN.new (wW23) (#[.int .u64 0, .int .u64 0, .int .u64 0, .int .u64 0] : Array Value) 36 4 rfl; rw [← hw2] at MQ; have MA4 := Lib.hid MQ; clear MQ
            have HA4 := Lib.hid (show W2.heap.size ≤ _ from (hkW23).size)
            clear hw2
            refine ⟨fun _ => hkW24, ?_⟩
            (try simp only [List.setIfInBounds_toArray, List.set_cons_succ, List.set_cons_zero])
            refine wpBut_r1 (i := 6) (by kernel_rfl) ?_
            obtain ⟨Z, hZ, mZ⟩ := MA4.out
            refine go_store2 6 #[true, true, true, true, true, true, true, false] rfl rfl rfl (by rfl) 36 _ _ rfl _ _ rfl rfl 36 Z mZ (by rw [e4_size]; kernel_rfl) (hZ.trans (e4_size _).symm) (row_one _ _ _) ?_
            intro wW25 hw2
            have hkW25 := below_setRow (hkW24) _ (e4 a1) HA4.out
            rw [← hw2] at hkW25
            clear MA4
            have MQ := MA5.out.setRow_other _ (e4 a1) (show _ ≠ wW23.heap.size by omega); rw [← hw2] at MQ; clear MA5; have MA5 := Lib.hid MQ; clear MQ
            have MQ := mZ.setRow (e4 a1); rw [← hw2] at MQ; have MA4 := Lib.hid MQ; clear MQ mZ hZ hw2
            refine ⟨fun _ => hkW25, ?_⟩
            (try simp only [List.setIfInBounds_toArray, List.set_cons_succ, List.set_cons_zero])
            refine wpBut_r1 (i := 7) (by kernel_rfl) ?_
            obtain ⟨Z, hZ, mZ⟩ := MA5.out
            refine go_store2 7 #[true, true, true, true, true, true, true, true] rfl rfl rfl (by rfl) 36 _ _ rfl _ _ rfl rfl 36 Z mZ (by rw [e4_size]; kernel_rfl) (hZ.trans (e4_size _).symm) (row_one _ _ _) ?_
            intro wW26 hw2
            have hkW26 := below_setRow (hkW25) _ (e4 a2) HA5.out
            rw [← hw2] at hkW26
            clear MA5
            have MQ := MA4.out.setRow_other _ (e4 a2) (show _ ≠ W2.drew.heap.size by omega); rw [← hw2] at MQ; clear MA4; have MA4 := Lib.hid MQ; clear MQ
            have MQ := mZ.setRow (e4 a2); rw [← hw2] at MQ; have MA5 := Lib.hid MQ; clear MQ mZ hZ hw2
            refine ⟨fun _ => hkW26, ?_⟩
            (try simp only [List.setIfInBounds_toArray, List.set_cons_succ, List.set_cons_zero])
            exact wpBut_done (by kernel_rfl) (NoPanic.normal (HQ.out (_, _) _ ⟨HA4.out, MA4.out, HA5.out, MA5.out, (hkW26)⟩))
          · refine go_alloc 4 7 #[true, true, true, false, true, true, false, false] rfl rfl rfl (by rfl) 36 rfl _ al36 ?_
            intro wW23 hw2
            have hkW23 := (hkW22).alloc (hkW22).size (.cells (#[.int .u64 0, .int .u64 0, .int .u64 0, .int .u64 0] : Array Value) 36)
            rw [← hw2] at hkW23
            have hne5_4 := MA5.out.lt
            have MQ := MA5.out.alloc (.cells (#[.int .u64 0, .int .u64 0, .int .u64 0, .int .u64 0] : Array Value) 36); rw [← hw2] at MQ; clear MA5; have MA5 := Lib.hid MQ; clear MQ
            have MQ := HasN.new (wW22) (#[.int .u64 0, .int .u64 0, .int .u64 0, .int .u64 0] : Array Value) 36 4 rfl; rw [← hw2] at MQ; have MA4 := Lib.hid MQ; clear MQ
            have HA4 := Lib.hid (show W2.heap.size ≤ _ from (hkW22).size)
            clear hw2
            refine ⟨fun _ => hkW23, ?_⟩
            (try simp only [List.setIfInBounds_toArray, List.set_cons_succ, List.set_cons_zero])
            refine wpBut_r1 (i := 3) (by kernel_rfl) ?_
            refine go_call 3 16 #[true, true, true, true, true, true, false, false] rfl rfl rfl (by rfl) rfl rfl (by rfl) ent30 (by rfl) (Hf2.out _) ?_
            rintro e wW24 ⟨rfl, hb⟩
            have hkW24 := held_next hkW23 hb
            have MQ5 := Lib.hid (MA5.out.call hb); clear MA5
            have MA5 := MQ5; clear MQ5
            have MQ4 := Lib.hid (MA4.out.call hb); clear MA4
            have MA4 := MQ4; clear MQ4
            refine ⟨_, rfl, fun _ => hkW24, ?_⟩
            clear hb
            (try simp only [List.setIfInBounds_toArray, List.set_cons_succ, List.set_cons_zero])
            refine wpBut_r1 (i := 6) (by kernel_rfl) ?_
            obtain ⟨Z, hZ, mZ⟩ := MA4.out
            refine go_store2 6 #[true, true, true, true, true, true, true, false] rfl rfl rfl (by rfl) 36 _ _ rfl _ _ rfl rfl 36 Z mZ (by rw [e4_size]; kernel_rfl) (hZ.trans (e4_size _).symm) (row_one _ _ _) ?_
            intro wW25 hw2
            have hkW25 := below_setRow (hkW24) _ (e4 a1) HA4.out
            rw [← hw2] at hkW25
            clear MA4
            have MQ := MA5.out.setRow_other _ (e4 a1) (show _ ≠ wW22.heap.size by omega); rw [← hw2] at MQ; clear MA5; have MA5 := Lib.hid MQ; clear MQ
            have MQ := mZ.setRow (e4 a1); rw [← hw2] at MQ; have MA4 := Lib.hid MQ; clear MQ mZ hZ hw2
            refine ⟨fun _ => hkW25, ?_⟩
            (try simp only [List.setIfInBounds_toArray, List.set_cons_succ, List.set_cons_zero])
            refine wpBut_r1 (i := 7) (by kernel_rfl) ?_
            obtain ⟨Z, hZ, mZ⟩ := MA5.out
            refine go_store2 7 #[true, true, true, true, true, true, true, true] rfl rfl rfl (by rfl) 36 _ _ rfl _ _ rfl rfl 36 Z mZ (by rw [e4_size]; kernel_rfl) (hZ.trans (e4_size _).symm) (row_one _ _ _) ?_
            intro wW26 hw2
            have hkW26 := below_setRow (hkW25) _ (e4 a2) HA5.out
            rw [← hw2] at hkW26
            clear MA5
            have MQ := MA4.out.setRow_other _ (e4 a2) (show _ ≠ W2.drew.heap.size by omega); rw [← hw2] at MQ; clear MA4; have MA4 := Lib.hid MQ; clear MQ
            have MQ := mZ.setRow (e4 a2); rw [← hw2] at MQ; have MA5 := Lib.hid MQ; clear MQ mZ hZ hw2
            refine ⟨fun _ => hkW26, ?_⟩
            (try simp only [List.setIfInBounds_toArray, List.set_cons_succ, List.set_cons_zero])
            exact wpBut_done (by kernel_rfl) (NoPanic.normal (HQ.out (_, _) _ ⟨HA4.out, MA4.out, HA5.out, MA5.out, (hkW26)⟩))
        · refine go_alloc 4 7 #[true, false, true, false, true, true, false, false] rfl rfl rfl (by rfl) 36 rfl _ al36 ?_
          intro wW22 hw2
          have hkW22 := (hkW21).alloc (hkW21).size (.cells (#[.int .u64 0, .int .u64 0, .int .u64 0, .int .u64 0] : Array Value) 36)
          rw [← hw2] at hkW22
          have hne5_4 := MA5.out.lt
          have MQ := MA5.out.alloc (.cells (#[.int .u64 0, .int .u64 0, .int .u64 0, .int .u64 0] : Array Value) 36); rw [← hw2] at MQ; clear MA5; have MA5 := Lib.hid MQ; clear MQ
          have MQ := HasN.new (wW21) (#[.int .u64 0, .int .u64 0, .int .u64 0, .int .u64 0] : Array Value) 36 4 rfl; rw [← hw2] at MQ; have MA4 := Lib.hid MQ; clear MQ
          have HA4 := Lib.hid (show W2.heap.size ≤ _ from (hkW21).size)
          clear hw2
          refine ⟨fun _ => hkW22, ?_⟩
          (try simp only [List.setIfInBounds_toArray, List.set_cons_succ, List.set_cons_zero])
          refine wpBut_r1 (i := 1) (by kernel_rfl) ?_
          refine go_call 1 14 #[true, true, true, false, true, true, false, false] rfl rfl rfl (by rfl) rfl rfl (by rfl) ent30 (by rfl) (Hf1.out _) ?_
          rintro e wW23 ⟨rfl, hb⟩
          have hkW23 := held_next hkW22 hb
          have MQ5 := Lib.hid (MA5.out.call hb); clear MA5
          have MA5 := MQ5; clear MQ5
          have MQ4 := Lib.hid (MA4.out.call hb); clear MA4
          have MA4 := MQ4; clear MQ4
          refine ⟨_, rfl, fun _ => hkW23, ?_⟩
          clear hb
          (try simp only [List.setIfInBounds_toArray, List.set_cons_succ, List.set_cons_zero])
          refine wpBut_r1 (i := 3) (by kernel_rfl) ?_
          refine go_call 3 16 #[true, true, true, true, true, true, false, false] rfl rfl rfl (by rfl) rfl rfl (by rfl) ent30 (by rfl) (Hf2.out _) ?_
          rintro e wW24 ⟨rfl, hb⟩
          have hkW24 := held_next hkW23 hb
          have MQ5 := Lib.hid (MA5.out.call hb); clear MA5
          have MA5 := MQ5; clear MQ5
          have MQ4 := Lib.hid (MA4.out.call hb); clear MA4
          have MA4 := MQ4; clear MQ4
          refine ⟨_, rfl, fun _ => hkW24, ?_⟩
          clear hb
          (try simp only [List.setIfInBounds_toArray, List.set_cons_succ, List.set_cons_zero])
          refine wpBut_r1 (i := 6) (by kernel_rfl) ?_
          obtain ⟨Z, hZ, mZ⟩ := MA4.out
          refine go_store2 6 #[true, true, true, true, true, true, true, false] rfl rfl rfl (by rfl) 36 _ _ rfl _ _ rfl rfl 36 Z mZ (by rw [e4_size]; kernel_rfl) (hZ.trans (e4_size _).symm) (row_one _ _ _) ?_
          intro wW25 hw2
          have hkW25 := below_setRow (hkW24) _ (e4 a1) HA4.out
          rw [← hw2] at hkW25
          clear MA4
          have MQ := MA5.out.setRow_other _ (e4 a1) (show _ ≠ wW21.heap.size by omega); rw [← hw2] at MQ; clear MA5; have MA5 := Lib.hid MQ; clear MQ
          have MQ := mZ.setRow (e4 a1); rw [← hw2] at MQ; have MA4 := Lib.hid MQ; clear MQ mZ hZ hw2
          refine ⟨fun _ => hkW25, ?_⟩
          (try simp only [List.setIfInBounds_toArray, List.set_cons_succ, List.set_cons_zero])
          refine wpBut_r1 (i := 7) (by kernel_rfl) ?_
          obtain ⟨Z, hZ, mZ⟩ := MA5.out
          refine go_store2 7 #[true, true, true, true, true, true, true, true] rfl rfl rfl (by rfl) 36 _ _ rfl _ _ rfl rfl 36 Z mZ (by rw [e4_size]; kernel_rfl) (hZ.trans (e4_size _).symm) (row_one _ _ _) ?_
          intro wW26 hw2
          have hkW26 := below_setRow (hkW25) _ (e4 a2) HA5.out
          rw [← hw2] at hkW26
          clear MA5
          have MQ := MA4.out.setRow_other _ (e4 a2) (show _ ≠ W2.drew.heap.size by omega); rw [← hw2] at MQ; clear MA4; have MA4 := Lib.hid MQ; clear MQ
          have MQ := mZ.setRow (e4 a2); rw [← hw2] at MQ; have MA5 := Lib.hid MQ; clear MQ mZ hZ hw2
          refine ⟨fun _ => hkW26, ?_⟩
          (try simp only [List.setIfInBounds_toArray, List.set_cons_succ, List.set_cons_zero])
          exact wpBut_done (by kernel_rfl) (NoPanic.normal (HQ.out (_, _) _ ⟨HA4.out, MA4.out, HA5.out, MA5.out, (hkW26)⟩))
    · rintro W2 ⟨B7, B8⟩ v2 hW2 ⟨hBq0, mBq0, hBq1, mBq1, hbw⟩
      simp only [Act.put, List.setIfInBounds_toArray, List.set_cons_succ, List.set_cons_zero] at  hBq0  mBq0 hBq1  mBq1 ⊢
      have kq := M2.out; rw [← hW2] at kq; clear M2; have M2 := Lib.hid kq; clear kq
      have kq := M3.out; rw [← hW2] at kq; clear M3; have M3 := Lib.hid kq; clear kq
      have kq := M5.out; rw [← hW2] at kq; clear M5; have M5 := Lib.hid kq; clear kq
      have kq := M6.out; rw [← hW2] at kq; clear M6; have M6 := Lib.hid kq; clear kq
      have kq := HB.out; rw [← hW2] at kq; clear HB; have HB := Lib.hid kq; clear kq
      clear hW2
      have hltM2_2 := M2.out.lt
      have hltM3_2 := M3.out.lt
      have hltM5_2 := M5.out.lt
      have hltM6_2 := M6.out.lt
      have kq := M2.out.call hbw; clear M2; have M2 := Lib.hid kq; clear kq
      have kq := M3.out.call hbw; clear M3; have M3 := Lib.hid kq; clear kq
      have kq := M5.out.call hbw; clear M5; have M5 := Lib.hid kq; clear kq
      have kq := M6.out.call hbw; clear M6; have M6 := Lib.hid kq; clear kq
      have hBq := held_next HB.out hbw; clear HB; have HB := Lib.hid hBq; clear hBq
      have M7 := Lib.hid mBq0; clear mBq0
      have M8 := Lib.hid mBq1; clear mBq1
      clear hbw
      repeat ((fail_if_success (with_reducible (show wpList _ _ _ _ _ _))); go_step)
      refine wp_region_noPanic ?_
      refine wp_region_go 99 29 #[false, false, false, false, false, false, false, false, false, false, false, false, false, false, false, false, false, false, false, false, false, false, false, false, false, false, false, false, false] (by kernel_rfl) rfl rfl ?_
      intro W3 hW3
      have kq := M2.out; rw [← hW3] at kq; clear M2; have M2 := Lib.hid kq; clear kq
      have kq := M3.out; rw [← hW3] at kq; clear M3; have M3 := Lib.hid kq; clear kq
      have kq := M5.out; rw [← hW3] at kq; clear M5; have M5 := Lib.hid kq; clear kq
      have kq := M6.out; rw [← hW3] at kq; clear M6; have M6 := Lib.hid kq; clear kq
      have kq := M7.out; rw [← hW3] at kq; clear M7; have M7 := Lib.hid kq; clear kq
      have kq := M8.out; rw [← hW3] at kq; clear M8; have M8 := Lib.hid kq; clear kq
      have kq := HB.out; rw [← hW3] at kq; clear HB; have HB := Lib.hid kq; clear kq
      clear hW3
      refine wpBut_r1 (i := 0) (by kernel_rfl) ?_
      refine go_call 0 17 #[true, false, false, false, false, false, false, false, false, false, false, false, false, false, false, false, false, false, false, false, false, false, false, false, false, false, false, false, false] rfl rfl rfl (by rfl) rfl rfl (by rfl) ent28 (by rfl) (Hal.out _) ?_
      rintro e wW31 ⟨rfl, hb⟩
      have hkW31 := held_next (show Below W3.heap.size W3 W3.drew from (Below.refl _ _).drew) hb
      refine ⟨_, rfl, fun _ => hkW31, ?_⟩
      clear hb
      (try simp only [List.setIfInBounds_toArray, List.set_cons_succ, List.set_cons_zero])
      refine go_take 1 18 #[true, true, false, false, false, false, false, false, false, false, false, false, false, false, false, false, false, false, false, false, false, false, false, false, false, false, false, false, false] (v := ?uv1) rfl rfl rfl (by kernel_rfl) (by kernel_rfl) (by kernel_rfl) (by kernel_rfl) (by kernel_rfl) (Or.inl ⟨by rfl, ?uy1⟩) (hkW31) ?urest1
      case uy1 => (intro _ _; go_simp; try with_reducible rfl)
      (try simp only [List.setIfInBounds_toArray, List.set_cons_succ, List.set_cons_zero])
      refine go_take 2 19 #[true, true, true, false, false, false, false, false, false, false, false, false, false, false, false, false, false, false, false, false, false, false, false, false, false, false, false, false, false] rfl rfl rfl (by kernel_rfl) (by kernel_rfl) (by kernel_rfl) (by kernel_rfl) (by kernel_rfl) (yieldsIf_load_row (by rfl) 36 _ rfl (B7) rfl 36 (e4 a1) (fun _ h => M7.out.below h M7.out.lt) Try.underlying36 rfl (by rw [e4_size]; kernel_rfl)) (hkW31) ?_
      (try simp only [List.setIfInBounds_toArray, List.set_cons_succ, List.set_cons_zero])
      refine go_take 3 20 #[true, true, true, true, false, false, false, false, false, false, false, false, false, false, false, false, false, false, false, false, false, false, false, false, false, false, false, false, false] rfl rfl rfl (by kernel_rfl) (by kernel_rfl) (by kernel_rfl) (by kernel_rfl) (by kernel_rfl) (yieldsIf_load_row (by rfl) 36 _ rfl (B8) rfl 36 (e4 a2) (fun _ h => M8.out.below h M8.out.lt) Try.underlying36 rfl (by rw [e4_size]; kernel_rfl)) (hkW31) ?_
      (try simp only [List.setIfInBounds_toArray, List.set_cons_succ, List.set_cons_zero])
      refine go_take 5 22 #[true, true, true, true, false, true, false, false, false, false, false, false, false, false, false, false, false, false, false, false, false, false, false, false, false, false, false, false, false] rfl rfl rfl (by kernel_rfl) (by kernel_rfl) (by kernel_rfl) (by kernel_rfl) (by kernel_rfl) (yieldsIf_load_row (by rfl) 40 _ rfl (B5) rfl 40 (r22 A1) (fun _ h => M5.out.below h M5.out.lt) Try.underlying40 rfl (by rw [r22_size]; kernel_rfl)) (hkW31) ?_
      (try simp only [List.setIfInBounds_toArray, List.set_cons_succ, List.set_cons_zero])
      refine go_take 6 23 #[true, true, true, true, false, true, true, false, false, false, false, false, false, false, false, false, false, false, false, false, false, false, false, false, false, false, false, false, false] rfl rfl rfl (by kernel_rfl) (by kernel_rfl) (by kernel_rfl) (by kernel_rfl) (by kernel_rfl) (yieldsIf_load_row (by rfl) 40 _ rfl (B6) rfl 40 (r22 A2) (fun _ h => M6.out.below h M6.out.lt) Try.underlying40 rfl (by rw [r22_size]; kernel_rfl)) (hkW31) ?_
      (try simp only [List.setIfInBounds_toArray, List.set_cons_succ, List.set_cons_zero])
      refine wpBut_r1 (i := 4) (by kernel_rfl) ?_
      refine go_call 4 21 #[true, true, true, true, true, true, true, false, false, false, false, false, false, false, false, false, false, false, false, false, false, false, false, false, false, false, false, false, false] rfl rfl rfl (by rfl) rfl rfl (by rfl) ent37 (by rfl) (Hp.out a1 a2 Hal1.out Hal2.out _) ?_
      rintro e wW32 ⟨m, hm, hmr, rfl, hb⟩
      have hkW32 := held_next hkW31 hb
      refine ⟨_, rfl, fun _ => hkW32, ?_⟩
      clear hb
      (try simp only [List.setIfInBounds_toArray, List.set_cons_succ, List.set_cons_zero])
      refine wpBut_r1 (i := 7) (by kernel_rfl) ?_
      refine go_call 7 24 #[true, true, true, true, true, true, true, true, false, false, false, false, false, false, false, false, false, false, false, false, false, false, false, false, false, false, false, false, false] rfl rfl rfl (by rfl) rfl rfl (by rfl) ent38 (by rfl) (Hrp.out A1 A2 HAl1.out HAl2.out _) ?_
      rintro e wW33 ⟨rfl, hb⟩
      have hkW33 := held_next hkW32 hb
      refine ⟨_, rfl, fun _ => hkW33, ?_⟩
      clear hb
      (try simp only [List.setIfInBounds_toArray, List.set_cons_succ, List.set_cons_zero])
      refine wpBut_r1 (i := 8) (by kernel_rfl) ?_
      refine go_call 8 25 #[true, true, true, true, true, true, true, true, true, false, false, false, false, false, false, false, false, false, false, false, false, false, false, false, false, false, false, false, false] rfl rfl rfl (by rfl) rfl rfl (by rfl) ent29 (by rfl) (His.out m ((A1 + A2) % PP) hm (Nat.mod_lt _ PP_pos) (plus_agree a1 a2 A1 A2 m HA1.out HA2.out hmr) _) ?_
      rintro e wW34 ⟨rfl, hb⟩
      have hkW34 := held_next hkW33 hb
      refine ⟨_, rfl, fun _ => hkW34, ?_⟩
      clear hb
      (try simp only [List.setIfInBounds_toArray, List.set_cons_succ, List.set_cons_zero])
      refine go_take 9 26 #[true, true, true, true, true, true, true, true, true, true, false, false, false, false, false, false, false, false, false, false, false, false, false, false, false, false, false, false, false] (v := ?uv2) rfl rfl rfl (by kernel_rfl) (by kernel_rfl) (by kernel_rfl) (by kernel_rfl) (by kernel_rfl) (Or.inl ⟨by rfl, ?uy2⟩) (hkW34) ?urest2
      case uy2 => (intro _ _; go_simp; try with_reducible rfl)
      (try simp only [List.setIfInBounds_toArray, List.set_cons_succ, List.set_cons_zero])
      refine go_take 10 27 #[true, true, true, true, true, true, true, true, true, true, true, false, false, false, false, false, false, false, false, false, false, false, false, false, false, false, false, false, false] (v := ?uv3) rfl rfl rfl (by kernel_rfl) (by kernel_rfl) (by kernel_rfl) (by kernel_rfl) (by kernel_rfl) (Or.inl ⟨by rfl, ?uy3⟩) (hkW34) ?urest3
      case uy3 => (intro _ _; go_simp; try with_reducible rfl)
      (try simp only [List.setIfInBounds_toArray, List.set_cons_succ, List.set_cons_zero])
      refine go_take 11 28 #[true, true, true, true, true, true, true, true, true, true, true, true, false, false, false, false, false, false, false, false, false, false, false, false, false, false, false, false, false] rfl rfl rfl (by kernel_rfl) (by kernel_rfl) (by kernel_rfl) (by kernel_rfl) (by kernel_rfl) (yieldsIf_load_row (by rfl) 36 _ rfl (B7) rfl 36 (e4 a1) (fun _ h => M7.out.below h M7.out.lt) Try.underlying36 rfl (by rw [e4_size]; kernel_rfl)) (hkW34) ?_
      (try simp only [List.setIfInBounds_toArray, List.set_cons_succ, List.set_cons_zero])
      refine go_take 12 29 #[true, true, true, true, true, true, true, true, true, true, true, true, true, false, false, false, false, false, false, false, false, false, false, false, false, false, false, false, false] rfl rfl rfl (by kernel_rfl) (by kernel_rfl) (by kernel_rfl) (by kernel_rfl) (by kernel_rfl) (yieldsIf_load_row (by rfl) 36 _ rfl (B8) rfl 36 (e4 a2) (fun _ h => M8.out.below h M8.out.lt) Try.underlying36 rfl (by rw [e4_size]; kernel_rfl)) (hkW34) ?_
      (try simp only [List.setIfInBounds_toArray, List.set_cons_succ, List.set_cons_zero])
      refine go_take 14 31 #[true, true, true, true, true, true, true, true, true, true, true, true, true, false, true, false, false, false, false, false, false, false, false, false, false, false, false, false, false] rfl rfl rfl (by kernel_rfl) (by kernel_rfl) (by kernel_rfl) (by kernel_rfl) (by kernel_rfl) (yieldsIf_load_row (by rfl) 40 _ rfl (B5) rfl 40 (r22 A1) (fun _ h => M5.out.below h M5.out.lt) Try.underlying40 rfl (by rw [r22_size]; kernel_rfl)) (hkW34) ?_
      (try simp only [List.setIfInBounds_toArray, List.set_cons_succ, List.set_cons_zero])
      refine go_take 15 32 #[true, true, true, true, true, true, true, true, true, true, true, true, true, false, true, true, false, false, false, false, false, false, false, false, false, false, false, false, false] rfl rfl rfl (by kernel_rfl) (by kernel_rfl) (by kernel_rfl) (by kernel_rfl) (by kernel_rfl) (yieldsIf_load_row (by rfl) 40 _ rfl (B6) rfl 40 (r22 A2) (fun _ h => M6.out.below h M6.out.lt) Try.underlying40 rfl (by rw [r22_size]; kernel_rfl)) (hkW34) ?_
      (try simp only [List.setIfInBounds_toArray, List.set_cons_succ, List.set_cons_zero])
      refine wpBut_r1 (i := 13) (by kernel_rfl) ?_
      refine go_call 13 30 #[true, true, true, true, true, true, true, true, true, true, true, true, true, true, true, true, false, false, false, false, false, false, false, false, false, false, false, false, false] rfl rfl rfl (by rfl) rfl rfl (by rfl) ent39 (by rfl) (Hmi.out a1 a2 Hal1.out Hal2.out _) ?_
      rintro e wW35 ⟨m2, hm2, hmr2, rfl, hb⟩
      have hkW35 := held_next hkW34 hb
      refine ⟨_, rfl, fun _ => hkW35, ?_⟩
      clear hb
      (try simp only [List.setIfInBounds_toArray, List.set_cons_succ, List.set_cons_zero])
      refine wpBut_r1 (i := 16) (by kernel_rfl) ?_
      refine go_call 16 33 #[true, true, true, true, true, true, true, true, true, true, true, true, true, true, true, true, true, false, false, false, false, false, false, false, false, false, false, false, false] rfl rfl rfl (by rfl) rfl rfl (by rfl) ent40 (by rfl) (Hrm.out A1 A2 HAl1.out HAl2.out _) ?_
      rintro e wW36 ⟨rfl, hb⟩
      have hkW36 := held_next hkW35 hb
      refine ⟨_, rfl, fun _ => hkW36, ?_⟩
      clear hb
      (try simp only [List.setIfInBounds_toArray, List.set_cons_succ, List.set_cons_zero])
      refine wpBut_r1 (i := 17) (by kernel_rfl) ?_
      refine go_call 17 34 #[true, true, true, true, true, true, true, true, true, true, true, true, true, true, true, true, true, true, false, false, false, false, false, false, false, false, false, false, false] rfl rfl rfl (by rfl) rfl rfl (by rfl) ent29 (by rfl) (His.out m2 ((A1 + (PP - A2)) % PP) hm2 (Nat.mod_lt _ PP_pos) (minus_agree a1 a2 A1 A2 m2 HA1.out HA2.out hmr2) _) ?_
      rintro e wW37 ⟨rfl, hb⟩
      have hkW37 := held_next hkW36 hb
      refine ⟨_, rfl, fun _ => hkW37, ?_⟩
      clear hb
      (try simp only [List.setIfInBounds_toArray, List.set_cons_succ, List.set_cons_zero])
      refine go_take 18 35 #[true, true, true, true, true, true, true, true, true, true, true, true, true, true, true, true, true, true, true, false, false, false, false, false, false, false, false, false, false] (v := ?uv4) rfl rfl rfl (by kernel_rfl) (by kernel_rfl) (by kernel_rfl) (by kernel_rfl) (by kernel_rfl) (Or.inl ⟨by rfl, ?uy4⟩) (hkW37) ?urest4
      case uy4 => (intro _ _; go_simp; try with_reducible rfl)
      (try simp only [List.setIfInBounds_toArray, List.set_cons_succ, List.set_cons_zero])
      refine go_take 19 36 #[true, true, true, true, true, true, true, true, true, true, true, true, true, true, true, true, true, true, true, true, false, false, false, false, false, false, false, false, false] (v := ?uv5) rfl rfl rfl (by kernel_rfl) (by kernel_rfl) (by kernel_rfl) (by kernel_rfl) (by kernel_rfl) (Or.inl ⟨by rfl, ?uy5⟩) (hkW37) ?urest5
      case uy5 => (intro _ _; go_simp; try with_reducible rfl)
      (try simp only [List.setIfInBounds_toArray, List.set_cons_succ, List.set_cons_zero])
      refine go_take 20 37 #[true, true, true, true, true, true, true, true, true, true, true, true, true, true, true, true, true, true, true, true, true, false, false, false, false, false, false, false, false] rfl rfl rfl (by kernel_rfl) (by kernel_rfl) (by kernel_rfl) (by kernel_rfl) (by kernel_rfl) (yieldsIf_load_row (by rfl) 36 _ rfl (B7) rfl 36 (e4 a1) (fun _ h => M7.out.below h M7.out.lt) Try.underlying36 rfl (by rw [e4_size]; kernel_rfl)) (hkW37) ?_
      (try simp only [List.setIfInBounds_toArray, List.set_cons_succ, List.set_cons_zero])
      refine go_take 21 38 #[true, true, true, true, true, true, true, true, true, true, true, true, true, true, true, true, true, true, true, true, true, true, false, false, false, false, false, false, false] rfl rfl rfl (by kernel_rfl) (by kernel_rfl) (by kernel_rfl) (by kernel_rfl) (by kernel_rfl) (yieldsIf_load_row (by rfl) 36 _ rfl (B8) rfl 36 (e4 a2) (fun _ h => M8.out.below h M8.out.lt) Try.underlying36 rfl (by rw [e4_size]; kernel_rfl)) (hkW37) ?_
      (try simp only [List.setIfInBounds_toArray, List.set_cons_succ, List.set_cons_zero])
      refine go_take 23 40 #[true, true, true, true, true, true, true, true, true, true, true, true, true, true, true, true, true, true, true, true, true, true, false, true, false, false, false, false, false] rfl rfl rfl (by kernel_rfl) (by kernel_rfl) (by kernel_rfl) (by kernel_rfl) (by kernel_rfl) (yieldsIf_load_row (by rfl) 40 _ rfl (B5) rfl 40 (r22 A1) (fun _ h => M5.out.below h M5.out.lt) Try.underlying40 rfl (by rw [r22_size]; kernel_rfl)) (hkW37) ?_
      (try simp only [List.setIfInBounds_toArray, List.set_cons_succ, List.set_cons_zero])
      refine go_take 24 41 #[true, true, true, true, true, true, true, true, true, true, true, true, true, true, true, true, true, true, true, true, true, true, false, true, true, false, false, false, false] rfl rfl rfl (by kernel_rfl) (by kernel_rfl) (by kernel_rfl) (by kernel_rfl) (by kernel_rfl) (yieldsIf_load_row (by rfl) 40 _ rfl (B6) rfl 40 (r22 A2) (fun _ h => M6.out.below h M6.out.lt) Try.underlying40 rfl (by rw [r22_size]; kernel_rfl)) (hkW37) ?_
      (try simp only [List.setIfInBounds_toArray, List.set_cons_succ, List.set_cons_zero])
      refine go_take 25 42 #[true, true, true, true, true, true, true, true, true, true, true, true, true, true, true, true, true, true, true, true, true, true, false, true, true, true, false, false, false] (v := ?uv6) rfl rfl rfl (by kernel_rfl) (by kernel_rfl) (by kernel_rfl) (by kernel_rfl) (by kernel_rfl) (Or.inl ⟨by rfl, ?uy6⟩) (hkW37) ?urest6
      case uy6 => (intro _ _; go_simp; try with_reducible rfl)
      (try simp only [List.setIfInBounds_toArray, List.set_cons_succ, List.set_cons_zero])
      refine wpBut_r1 (i := 22) (by kernel_rfl) ?_
      refine go_call 22 39 #[true, true, true, true, true, true, true, true, true, true, true, true, true, true, true, true, true, true, true, true, true, true, true, true, true, true, false, false, false] rfl rfl rfl (by rfl) rfl rfl (by rfl) ent41 (by rfl) (Hiq.out _) ?_
      rintro e wW38 ⟨rfl, hb⟩
      have hkW38 := held_next hkW37 hb
      refine ⟨_, rfl, fun _ => hkW38, ?_⟩
      clear hb
      (try simp only [List.setIfInBounds_toArray, List.set_cons_succ, List.set_cons_zero])
      refine go_take 26 43 #[true, true, true, true, true, true, true, true, true, true, true, true, true, true, true, true, true, true, true, true, true, true, true, true, true, true, true, false, false] (v := ?uv7) rfl rfl rfl (by kernel_rfl) (by kernel_rfl) (by kernel_rfl) (by kernel_rfl) (by kernel_rfl) (Or.inl ⟨by rfl, ?uy7⟩) (hkW38) ?urest7
      case uy7 => (intro _ _; go_simp; try with_reducible rfl)
      (try simp only [List.setIfInBounds_toArray, List.set_cons_succ, List.set_cons_zero])
      refine go_take 27 44 #[true, true, true, true, true, true, true, true, true, true, true, true, true, true, true, true, true, true, true, true, true, true, true, true, true, true, true, true, false] (v := ?uv8) rfl rfl rfl (by kernel_rfl) (by kernel_rfl) (by kernel_rfl) (by kernel_rfl) (by kernel_rfl) (Or.inl ⟨by rfl, ?uy8⟩) (hkW38) ?urest8
      case uy8 => (intro _ _; go_simp; try with_reducible rfl)
      (try simp only [List.setIfInBounds_toArray, List.set_cons_succ, List.set_cons_zero])
      refine go_take 28 4 #[true, true, true, true, true, true, true, true, true, true, true, true, true, true, true, true, true, true, true, true, true, true, true, true, true, true, true, true, true] (v := ?uv9) rfl rfl rfl (by kernel_rfl) (by kernel_rfl) (by kernel_rfl) (by kernel_rfl) (by kernel_rfl) (Or.inl ⟨by rfl, ?uy9⟩) (hkW38) ?urest9
      case uy9 => (intro _ _; go_simp; try with_reducible rfl)
      (try simp only [List.setIfInBounds_toArray, List.set_cons_succ, List.set_cons_zero])
      refine wpBut_done (by kernel_rfl) (NoPanic.normal ?_)
      have kq := M2.out.call hkW38; clear M2; have M2 := Lib.hid kq; clear kq
      have kq := M3.out.call hkW38; clear M3; have M3 := Lib.hid kq; clear kq
      have kq := M5.out.call hkW38; clear M5; have M5 := Lib.hid kq; clear kq
      have kq := M6.out.call hkW38; clear M6; have M6 := Lib.hid kq; clear kq
      have kq := M7.out.call hkW38; clear M7; have M7 := Lib.hid kq; clear kq
      have kq := M8.out.call hkW38; clear M8; have M8 := Lib.hid kq; clear kq
      have hBq := held_next HB.out hkW38; clear HB; have HB := Lib.hid hBq; clear hBq
      go_wp2_with fail
      go_ret
      exact ⟨by simp, HB.out⟩
end Go.Proofs.Ytjiagjonlcadiaa
