/- The laws of chapter 03: squares. -/
import Derived.Test.YtjiagjonlcadiaaLawG
namespace Go.Proofs.Ytjiagjonlcadiaa
open Go.RowKit Go.Lib

theorem sq_back (a A m q : Nat) (hA : A = a % PP) (h : rtok A = true) (hm : m % PP = rt3 A) (hq : q % PP = m * m % PP) : q % PP = a % PP := by
  rw [hq, Nat.mul_mod, hm, ← hA]; exact rt3_sq A h
theorem is_zero2 (q : Nat) (hq : q < 115792089237316195423570985008687907853269984665640564039457584007913129639936) (b : Bool) (h : b = decide (q % PP = 0 % PP)) (w : World) :
    Calls Try.prog 41 #[.agg (e4 q), .agg #[.int .u64 0, .int .u64 0, .int .u64 0, .int .u64 0]] w fun e w' => e = .returned (.bool b) ∧ Below w.heap.size w w' := by
  rw [e4_zero, h]; exact is_any q 0 hq (by decide) w
theorem root_both (q A B : Nat) (b : Bool) (hq : q < 115792089237316195423570985008687907853269984665640564039457584007913129639936) (h : q % PP = A * B % PP) (hb : b = rtok (A * B % PP)) (w : World) :
    Calls Try.prog 44 #[.agg (e4 q)] w fun e w' => ∃ m : Nat, m < 115792089237316195423570985008687907853269984665640564039457584007913129639936 ∧ m % PP = rt3 (A * B % PP) ∧ e = .returned (.tuple #[.agg (e4 m), .bool b]) ∧ Below w.heap.size w w' := by
  have := froot_any q hq w
  rw [h] at this
  rw [hb]
  exact this
theorem both_zero (A B : Nat) (b o1 o2 z1 z2 : Bool) (hA : A < PP) (hB : B < PP) (h1 : o1 = rtok A) (h2 : o2 = rtok B) (hz1 : z1 = decide (A = 0)) (hz2 : z2 = decide (B = 0)) (hb : b = rtok (A * B % PP)) :
    ((z1 || z2) && b || !(z1 || z2) && (b == (o1 == o2))) = true := by
  by_cases a0 : A = 0
  · rw [a0, Nat.zero_mul, Nat.zero_mod, rtok_zero 0 rfl] at hb
    rw [hz1, decide_eq_true a0, hb]; rfl
  · by_cases b0 : B = 0
    · rw [b0, Nat.mul_zero, Nat.zero_mod, rtok_zero 0 rfl] at hb
      rw [hz1, hz2, decide_eq_true b0, decide_eq_false a0, hb]; rfl
    · rw [squares_law A B hA hB a0 b0] at hb
      rw [hz1, hz2, decide_eq_false b0, decide_eq_false a0, hb, h1, h2]
      cases rtok A <;> cases rtok B <;> rfl
set_option maxRecDepth 100000 in
set_option linter.unusedSimpArgs false in
set_option maxHeartbeats 8000000 in
theorem law_squares (n1 n2 : Nat) (hn1 : n1 < 115792089237316195423570985008687907853269984665640564039457584007913129639936) (hn2 : n2 < 115792089237316195423570985008687907853269984665640564039457584007913129639936) (w : World) :
    Calls Try.prog 11 #[.agg (k32 n1), .agg (k32 n2)] w fun e w' => e = .returned (.bool true) ∧ Below w.heap.size w w' := by
  have hal := law3_alive
  have ht := times_any
  have hyes := is_yes
  obtain ⟨a1, ha1⟩ : ∃ a, a = n1 % 57896044618658097711785492504343953926634992332820282019728792003956564819968 := ⟨_, rfl⟩
  obtain ⟨A1, hA1⟩ : ∃ A, A = a1 % PP := ⟨_, rfl⟩
  have hf1 := fun w => fof_a n1 a1 hn1 ha1 w
  have hr1 := fun w => rof_a n1 a1 A1 ha1 hA1 w
  have hal1 : a1 < 115792089237316195423570985008687907853269984665640564039457584007913129639936 := by rw [ha1]; exact fof_lt _
  have hAl1 : A1 < PP := by rw [hA1]; exact Nat.mod_lt _ PP_pos
  have Hf1 := Lib.hid hf1; clear hf1
  have Hr1 := Lib.hid hr1; clear hr1
  have Hal1 := Lib.hid hal1; clear hal1
  have HAl1 := Lib.hid hAl1; clear hAl1
  have HA1 := Lib.hid hA1; clear hA1
  clear ha1 hn1
  obtain ⟨a2, ha2⟩ : ∃ a, a = n2 % 57896044618658097711785492504343953926634992332820282019728792003956564819968 := ⟨_, rfl⟩
  obtain ⟨A2, hA2⟩ : ∃ A, A = a2 % PP := ⟨_, rfl⟩
  have hf2 := fun w => fof_a n2 a2 hn2 ha2 w
  have hr2 := fun w => rof_a n2 a2 A2 ha2 hA2 w
  have hal2 : a2 < 115792089237316195423570985008687907853269984665640564039457584007913129639936 := by rw [ha2]; exact fof_lt _
  have hAl2 : A2 < PP := by rw [hA2]; exact Nat.mod_lt _ PP_pos
  have Hf2 := Lib.hid hf2; clear hf2
  have Hr2 := Lib.hid hr2; clear hr2
  have Hal2 := Lib.hid hal2; clear hal2
  have HAl2 := Lib.hid hAl2; clear hAl2
  have HA2 := Lib.hid hA2; clear hA2
  clear ha2 hn2
  have hr1 := fun w => root_un a1 A1 Hal1.out HA1.out (rtok A1) rfl w
  have hr2 := fun w => root_un a2 A2 Hal2.out HA2.out (rtok A2) rfl w
  obtain ⟨b, hb⟩ : ∃ b, b = rtok (A1 * A2 % PP) := ⟨_, rfl⟩
  have hrb := fun q hq h w => root_both q A1 A2 b hq h hb w
  have Hal := Lib.hid hal; clear hal
  have Ht := Lib.hid ht; clear ht
  have Hyes := Lib.hid hyes; clear hyes
  have Hrb := Lib.hid hrb; clear hrb
  have Hb := Lib.hid hb; clear hb
  have HR1 := Lib.hid hr1; clear hr1
  have HR2 := Lib.hid hr2; clear hr2
  go_enter Try.func11, Try.ntmps11
  repeat ((fail_if_success (with_reducible (show wpList _ _ _ _ _ _))); go_step)
  refine wpList_step (fun K hK => ?_)
  go_simp
  (try go_bits)
  refine hK _ _ ?_
  clear hK K
  refine wpList_step (fun K hK => ?_)
  go_simp
  (try go_bits)
  refine hK _ _ ?_
  clear hK K
  refine wpList_step (fun K hK => ?_)
  go_simp
  (try go_bits)
  refine hK _ _ ?_
  clear hK K
  refine wpList_nil ?_
  have M2 := Lib.hid ((Has.new w  (k32 n1) 24).alloc (.cells (k32 n2) 24))
  have M3 := Lib.hid (Has.new1 w (.cells (k32 n1) 24) (k32 n2) 24)
  have HB := Lib.hid (below_2 w (.cells (k32 n1) 24) (.cells (k32 n2) 24))
  repeat ((fail_if_success (with_reducible (show wpList _ _ _ _ _ _))); go_step)
  refine wp_region_meet (α := Nat × Nat) (fun W0 x w' => W0.heap.size ≤ x.1 ∧ Has w' x.1 (e4 a1) 36 ∧ W0.heap.size ≤ x.2 ∧ Has w' x.2 (e4 a2) 36 ∧ Below W0.heap.size W0 w') (fun ac x => ((((((ac.put (some 14) (.agg (k32 n1))).put (some 15) (.agg (e4 a1))).put (some 16) (.agg (k32 n2))).put (some 17) (.agg (e4 a2))).put (some 5) (.pointer (some ⟨x.1, 0, none⟩))).put (some 6) (.pointer (some ⟨x.2, 0, none⟩)))) ?_ ?_
  · intro Q' hQ'
    refine wp_region_noPanic ?_
    refine wp_region_go 99 8 #[false, false, false, false, false, false, false, false] (by kernel_rfl) rfl rfl ?_
    intro W1 hW1
    rw [← hW1] at hQ'
    simp only [Act.put, List.setIfInBounds_toArray, List.set_cons_succ, List.set_cons_zero] at hQ'
    have HQ := Lib.hid hQ'; clear hQ'
    have kq := M2.out; rw [← hW1] at kq; clear M2; have M2 := Lib.hid kq; clear kq
    have kq := M3.out; rw [← hW1] at kq; clear M3; have M3 := Lib.hid kq; clear kq
    have kq := HB.out; rw [← hW1] at kq; clear HB; have HB := Lib.hid kq; clear kq
    clear hW1
    refine go_take 0 14 #[true, false, false, false, false, false, false, false] rfl rfl rfl (by kernel_rfl) (by kernel_rfl) (by kernel_rfl) (by kernel_rfl) (by kernel_rfl) (yieldsIf_load_row (by rfl) 24 _ rfl (w.heap.size) rfl 24 (k32 n1) (fun _ h => M2.out.below h M2.out.lt) Try.underlying24 rfl (by rw [k32_size]; kernel_rfl)) ((show Below W1.heap.size W1 W1.drew from (Below.refl _ _).drew)) ?_
    (try simp only [List.setIfInBounds_toArray, List.set_cons_succ, List.set_cons_zero])
    refine go_take 2 16 #[true, false, true, false, false, false, false, false] rfl rfl rfl (by kernel_rfl) (by kernel_rfl) (by kernel_rfl) (by kernel_rfl) (by kernel_rfl) (yieldsIf_load_row (by rfl) 24 _ rfl (w.heap.size + 1) rfl 24 (k32 n2) (fun _ h => M3.out.below h M3.out.lt) Try.underlying24 rfl (by rw [k32_size]; kernel_rfl)) ((show Below W1.heap.size W1 W1.drew from (Below.refl _ _).drew)) ?_
    (try simp only [List.setIfInBounds_toArray, List.set_cons_succ, List.set_cons_zero])
    refine wpBut_r3 (i := 1) (j := 4) (l := 5) (by kernel_rfl) ?_ ?_ ?_
    · refine go_call 1 15 #[true, true, true, false, false, false, false, false] rfl rfl rfl (by rfl) rfl rfl (by rfl) ent30 (by rfl) (Hf1.out _) ?_
      rintro e wW11 ⟨rfl, hb⟩
      have hkW11 := held_next (show Below W1.heap.size W1 W1.drew from (Below.refl _ _).drew) hb
      refine ⟨_, rfl, fun _ => hkW11, ?_⟩
      clear hb
      (try simp only [List.setIfInBounds_toArray, List.set_cons_succ, List.set_cons_zero])
      refine wpBut_r3 (i := 3) (j := 4) (l := 5) (by kernel_rfl) ?_ ?_ ?_
      · refine go_call 3 17 #[true, true, true, true, false, false, false, false] rfl rfl rfl (by rfl) rfl rfl (by rfl) ent30 (by rfl) (Hf2.out _) ?_
        rintro e wW12 ⟨rfl, hb⟩
        have hkW12 := held_next hkW11 hb
        refine ⟨_, rfl, fun _ => hkW12, ?_⟩
        clear hb
        (try simp only [List.setIfInBounds_toArray, List.set_cons_succ, List.set_cons_zero])
        refine wpBut_r2 (i := 4) (j := 5) (by kernel_rfl) ?_ ?_
        · refine go_alloc 4 5 #[true, true, true, true, true, false, false, false] rfl rfl rfl (by rfl) 36 rfl _ al36 ?_
          intro wW13 hw2
          have hkW13 := (hkW12).alloc (hkW12).size (.cells (#[.int .u64 0, .int .u64 0, .int .u64 0, .int .u64 0] : Array Value) 36)
          rw [← hw2] at hkW13
          have MQ := HasN.new (wW12) (#[.int .u64 0, .int .u64 0, .int .u64 0, .int .u64 0] : Array Value) 36 4 rfl; rw [← hw2] at MQ; have MA4 := Lib.hid MQ; clear MQ
          have HA4 := Lib.hid (show W1.heap.size ≤ _ from (hkW12).size)
          clear hw2
          refine ⟨fun _ => hkW13, ?_⟩
          (try simp only [List.setIfInBounds_toArray, List.set_cons_succ, List.set_cons_zero])
          refine wpBut_r1 (i := 5) (by kernel_rfl) ?_
          refine go_alloc 5 6 #[true, true, true, true, true, true, false, false] rfl rfl rfl (by rfl) 36 rfl _ al36 ?_
          intro wW14 hw2
          have hkW14 := (hkW13).alloc (hkW13).size (.cells (#[.int .u64 0, .int .u64 0, .int .u64 0, .int .u64 0] : Array Value) 36)
          rw [← hw2] at hkW14
          have hne4_5 := MA4.out.lt
          have MQ := MA4.out.alloc (.cells (#[.int .u64 0, .int .u64 0, .int .u64 0, .int .u64 0] : Array Value) 36); rw [← hw2] at MQ; clear MA4; have MA4 := Lib.hid MQ; clear MQ
          have MQ := HasN.new (wW13) (#[.int .u64 0, .int .u64 0, .int .u64 0, .int .u64 0] : Array Value) 36 4 rfl; rw [← hw2] at MQ; have MA5 := Lib.hid MQ; clear MQ
          have HA5 := Lib.hid (show W1.heap.size ≤ _ from (hkW13).size)
          clear hw2
          refine ⟨fun _ => hkW14, ?_⟩
          (try simp only [List.setIfInBounds_toArray, List.set_cons_succ, List.set_cons_zero])
          refine wpBut_r1 (i := 6) (by kernel_rfl) ?_
          obtain ⟨Z, hZ, mZ⟩ := MA4.out
          refine go_store2 6 #[true, true, true, true, true, true, true, false] rfl rfl rfl (by rfl) 36 _ _ rfl _ _ rfl rfl 36 Z mZ (by rw [e4_size]; kernel_rfl) (hZ.trans (e4_size _).symm) (row_one _ _ _) ?_
          intro wW15 hw2
          have hkW15 := below_setRow (hkW14) _ (e4 a1) HA4.out
          rw [← hw2] at hkW15
          clear MA4
          have MQ := MA5.out.setRow_other _ (e4 a1) (show _ ≠ wW12.heap.size by omega); rw [← hw2] at MQ; clear MA5; have MA5 := Lib.hid MQ; clear MQ
          have MQ := mZ.setRow (e4 a1); rw [← hw2] at MQ; have MA4 := Lib.hid MQ; clear MQ mZ hZ hw2
          refine ⟨fun _ => hkW15, ?_⟩
          (try simp only [List.setIfInBounds_toArray, List.set_cons_succ, List.set_cons_zero])
          refine wpBut_r1 (i := 7) (by kernel_rfl) ?_
          obtain ⟨Z, hZ, mZ⟩ := MA5.out
          refine go_store2 7 #[true, true, true, true, true, true, true, true] rfl rfl rfl (by rfl) 36 _ _ rfl _ _ rfl rfl 36 Z mZ (by rw [e4_size]; kernel_rfl) (hZ.trans (e4_size _).symm) (row_one _ _ _) ?_
          intro wW16 hw2
          have hkW16 := below_setRow (hkW15) _ (e4 a2) HA5.out
          rw [← hw2] at hkW16
          clear MA5
          have MQ := MA4.out.setRow_other _ (e4 a2) (show _ ≠ wW13.heap.size by omega); rw [← hw2] at MQ; clear MA4; have MA4 := Lib.hid MQ; clear MQ
          have MQ := mZ.setRow (e4 a2); rw [← hw2] at MQ; have MA5 := Lib.hid MQ; clear MQ mZ hZ hw2
          refine ⟨fun _ => hkW16, ?_⟩
          (try simp only [List.setIfInBounds_toArray, List.set_cons_succ, List.set_cons_zero])
          exact wpBut_done (by kernel_rfl) (NoPanic.normal (HQ.out (_, _) _ ⟨HA4.out, MA4.out, HA5.out, MA5.out, (hkW16)⟩))
        · refine go_alloc 5 6 #[true, true, true, true, false, true, false, false] rfl rfl rfl (by rfl) 36 rfl _ al36 ?_
          intro wW13 hw2
          have hkW13 := (hkW12).alloc (hkW12).size (.cells (#[.int .u64 0, .int .u64 0, .int .u64 0, .int .u64 0] : Array Value) 36)
          rw [← hw2] at hkW13
          have MQ := HasN.new (wW12) (#[.int .u64 0, .int .u64 0, .int .u64 0, .int .u64 0] : Array Value) 36 4 rfl; rw [← hw2] at MQ; have MA5 := Lib.hid MQ; clear MQ
          have HA5 := Lib.hid (show W1.heap.size ≤ _ from (hkW12).size)
          clear hw2
          refine ⟨fun _ => hkW13, ?_⟩
          (try simp only [List.setIfInBounds_toArray, List.set_cons_succ, List.set_cons_zero])
          refine wpBut_r1 (i := 4) (by kernel_rfl) ?_
          refine go_alloc 4 5 #[true, true, true, true, true, true, false, false] rfl rfl rfl (by rfl) 36 rfl _ al36 ?_
          intro wW14 hw2
          have hkW14 := (hkW13).alloc (hkW13).size (.cells (#[.int .u64 0, .int .u64 0, .int .u64 0, .int .u64 0] : Array Value) 36)
          rw [← hw2] at hkW14
          have hne5_4 := MA5.out.lt
          have MQ := MA5.out.alloc (.cells (#[.int .u64 0, .int .u64 0, .int .u64 0, .int .u64 0] : Array Value) 36); rw [← hw2] at MQ; clear MA5; have MA5 := Lib.hid MQ; clear MQ
          have MQ := HasN.new (wW13) (#[.int .u64 0, .int .u64 0, .int .u64 0, .int .u64 0] : Array Value) 36 4 rfl; rw [← hw2] at MQ; have MA4 := Lib.hid MQ; clear MQ
          have HA4 := Lib.hid (show W1.heap.size ≤ _ from (hkW13).size)
          clear hw2
          refine ⟨fun _ => hkW14, ?_⟩
          (try simp only [List.setIfInBounds_toArray, List.set_cons_succ, List.set_cons_zero])
          refine wpBut_r1 (i := 6) (by kernel_rfl) ?_
          obtain ⟨Z, hZ, mZ⟩ := MA4.out
          refine go_store2 6 #[true, true, true, true, true, true, true, false] rfl rfl rfl (by rfl) 36 _ _ rfl _ _ rfl rfl 36 Z mZ (by rw [e4_size]; kernel_rfl) (hZ.trans (e4_size _).symm) (row_one _ _ _) ?_
          intro wW15 hw2
          have hkW15 := below_setRow (hkW14) _ (e4 a1) HA4.out
          rw [← hw2] at hkW15
          clear MA4
          have MQ := MA5.out.setRow_other _ (e4 a1) (show _ ≠ wW13.heap.size by omega); rw [← hw2] at MQ; clear MA5; have MA5 := Lib.hid MQ; clear MQ
          have MQ := mZ.setRow (e4 a1); rw [← hw2] at MQ; have MA4 := Lib.hid MQ; clear MQ mZ hZ hw2
          refine ⟨fun _ => hkW15, ?_⟩
          (try simp only [List.setIfInBounds_toArray, List.set_cons_succ, List.set_cons_zero])
          refine wpBut_r1 (i := 7) (by kernel_rfl) ?_
          obtain ⟨Z, hZ, mZ⟩ := MA5.out
          refine go_store2 7 #[true, true, true, true, true, true, true, true] rfl rfl rfl (by rfl) 36 _ _ rfl _ _ rfl rfl 36 Z mZ (by rw [e4_size]; kernel_rfl) (hZ.trans (e4_size _).symm) (row_one _ _ _) ?_
          intro wW16 hw2
          have hkW16 := below_setRow (hkW15) _ (e4 a2) HA5.out
          rw [← hw2] at hkW16
          clear MA5
          have MQ := MA4.out.setRow_other _ (e4 a2) (show _ ≠ wW12.heap.size by omega); rw [← hw2] at MQ; clear MA4; have MA4 := Lib.hid MQ; clear MQ
          have MQ := mZ.setRow (e4 a2); rw [← hw2] at MQ; have MA5 := Lib.hid MQ; clear MQ mZ hZ hw2
          refine ⟨fun _ => hkW16, ?_⟩
          (try simp only [List.setIfInBounds_toArray, List.set_cons_succ, List.set_cons_zero])
          exact wpBut_done (by kernel_rfl) (NoPanic.normal (HQ.out (_, _) _ ⟨HA4.out, MA4.out, HA5.out, MA5.out, (hkW16)⟩))
      · refine go_alloc 4 5 #[true, true, true, false, true, false, false, false] rfl rfl rfl (by rfl) 36 rfl _ al36 ?_
        intro wW12 hw2
        have hkW12 := (hkW11).alloc (hkW11).size (.cells (#[.int .u64 0, .int .u64 0, .int .u64 0, .int .u64 0] : Array Value) 36)
        rw [← hw2] at hkW12
        have MQ := HasN.new (wW11) (#[.int .u64 0, .int .u64 0, .int .u64 0, .int .u64 0] : Array Value) 36 4 rfl; rw [← hw2] at MQ; have MA4 := Lib.hid MQ; clear MQ
        have HA4 := Lib.hid (show W1.heap.size ≤ _ from (hkW11).size)
        clear hw2
        refine ⟨fun _ => hkW12, ?_⟩
        (try simp only [List.setIfInBounds_toArray, List.set_cons_succ, List.set_cons_zero])
        refine wpBut_r2 (i := 3) (j := 5) (by kernel_rfl) ?_ ?_
        · refine go_call 3 17 #[true, true, true, true, true, false, false, false] rfl rfl rfl (by rfl) rfl rfl (by rfl) ent30 (by rfl) (Hf2.out _) ?_
          rintro e wW13 ⟨rfl, hb⟩
          have hkW13 := held_next hkW12 hb
          have MQ4 := Lib.hid (MA4.out.call hb); clear MA4
          have MA4 := MQ4; clear MQ4
          refine ⟨_, rfl, fun _ => hkW13, ?_⟩
          clear hb
          (try simp only [List.setIfInBounds_toArray, List.set_cons_succ, List.set_cons_zero])
          refine wpBut_r1 (i := 5) (by kernel_rfl) ?_
          refine go_alloc 5 6 #[true, true, true, true, true, true, false, false] rfl rfl rfl (by rfl) 36 rfl _ al36 ?_
          intro wW14 hw2
          have hkW14 := (hkW13).alloc (hkW13).size (.cells (#[.int .u64 0, .int .u64 0, .int .u64 0, .int .u64 0] : Array Value) 36)
          rw [← hw2] at hkW14
          have hne4_5 := MA4.out.lt
          have MQ := MA4.out.alloc (.cells (#[.int .u64 0, .int .u64 0, .int .u64 0, .int .u64 0] : Array Value) 36); rw [← hw2] at MQ; clear MA4; have MA4 := Lib.hid MQ; clear MQ
          have MQ := HasN.new (wW13) (#[.int .u64 0, .int .u64 0, .int .u64 0, .int .u64 0] : Array Value) 36 4 rfl; rw [← hw2] at MQ; have MA5 := Lib.hid MQ; clear MQ
          have HA5 := Lib.hid (show W1.heap.size ≤ _ from (hkW13).size)
          clear hw2
          refine ⟨fun _ => hkW14, ?_⟩
          (try simp only [List.setIfInBounds_toArray, List.set_cons_succ, List.set_cons_zero])
          refine wpBut_r1 (i := 6) (by kernel_rfl) ?_
          obtain ⟨Z, hZ, mZ⟩ := MA4.out
          refine go_store2 6 #[true, true, true, true, true, true, true, false] rfl rfl rfl (by rfl) 36 _ _ rfl _ _ rfl rfl 36 Z mZ (by rw [e4_size]; kernel_rfl) (hZ.trans (e4_size _).symm) (row_one _ _ _) ?_
          intro wW15 hw2
          have hkW15 := below_setRow (hkW14) _ (e4 a1) HA4.out
          rw [← hw2] at hkW15
          clear MA4
          have MQ := MA5.out.setRow_other _ (e4 a1) (show _ ≠ wW11.heap.size by omega); rw [← hw2] at MQ; clear MA5; have MA5 := Lib.hid MQ; clear MQ
          have MQ := mZ.setRow (e4 a1); rw [← hw2] at MQ; have MA4 := Lib.hid MQ; clear MQ mZ hZ hw2
          refine ⟨fun _ => hkW15, ?_⟩
          (try simp only [List.setIfInBounds_toArray, List.set_cons_succ, List.set_cons_zero])
          refine wpBut_r1 (i := 7) (by kernel_rfl) ?_
          obtain ⟨Z, hZ, mZ⟩ := MA5.out
          refine go_store2 7 #[true, true, true, true, true, true, true, true] rfl rfl rfl (by rfl) 36 _ _ rfl _ _ rfl rfl 36 Z mZ (by rw [e4_size]; kernel_rfl) (hZ.trans (e4_size _).symm) (row_one _ _ _) ?_
          intro wW16 hw2
          have hkW16 := below_setRow (hkW15) _ (e4 a2) HA5.out
          rw [← hw2] at hkW16
          clear MA5
          have MQ := MA4.out.setRow_other _ (e4 a2) (show _ ≠ wW13.heap.size by omega); rw [← hw2] at MQ; clear MA4; have MA4 := Lib.hid MQ; clear MQ
          have MQ := mZ.setRow (e4 a2); rw [← hw2] at MQ; have MA5 := Lib.hid MQ; clear MQ mZ hZ hw2
          refine ⟨fun _ => hkW16, ?_⟩
          (try simp only [List.setIfInBounds_toArray, List.set_cons_succ, List.set_cons_zero])
          exact wpBut_done (by kernel_rfl) (NoPanic.normal (HQ.out (_, _) _ ⟨HA4.out, MA4.out, HA5.out, MA5.out, (hkW16)⟩))
        · refine go_alloc 5 6 #[true, true, true, false, true, true, false, false] rfl rfl rfl (by rfl) 36 rfl _ al36 ?_
          intro wW13 hw2
          have hkW13 := (hkW12).alloc (hkW12).size (.cells (#[.int .u64 0, .int .u64 0, .int .u64 0, .int .u64 0] : Array Value) 36)
          rw [← hw2] at hkW13
          have hne4_5 := MA4.out.lt
          have MQ := MA4.out.alloc (.cells (#[.int .u64 0, .int .u64 0, .int .u64 0, .int .u64 0] : Array Value) 36); rw [← hw2] at MQ; clear MA4; have MA4 := Lib.hid MQ; clear MQ
          have MQ := HasN.new (wW12) (#[.int .u64 0, .int .u64 0, .int .u64 0, .int .u64 0] : Array Value) 36 4 rfl; rw [← hw2] at MQ; have MA5 := Lib.hid MQ; clear MQ
          have HA5 := Lib.hid (show W1.heap.size ≤ _ from (hkW12).size)
          clear hw2
          refine ⟨fun _ => hkW13, ?_⟩
          (try simp only [List.setIfInBounds_toArray, List.set_cons_succ, List.set_cons_zero])
          refine wpBut_r1 (i := 3) (by kernel_rfl) ?_
          refine go_call 3 17 #[true, true, true, true, true, true, false, false] rfl rfl rfl (by rfl) rfl rfl (by rfl) ent30 (by rfl) (Hf2.out _) ?_
          rintro e wW14 ⟨rfl, hb⟩
          have hkW14 := held_next hkW13 hb
          have MQ4 := Lib.hid (MA4.out.call hb); clear MA4
          have MA4 := MQ4; clear MQ4
          have MQ5 := Lib.hid (MA5.out.call hb); clear MA5
          have MA5 := MQ5; clear MQ5
          refine ⟨_, rfl, fun _ => hkW14, ?_⟩
          clear hb
          (try simp only [List.setIfInBounds_toArray, List.set_cons_succ, List.set_cons_zero])
          refine wpBut_r1 (i := 6) (by kernel_rfl) ?_
          obtain ⟨Z, hZ, mZ⟩ := MA4.out
          refine go_store2 6 #[true, true, true, true, true, true, true, false] rfl rfl rfl (by rfl) 36 _ _ rfl _ _ rfl rfl 36 Z mZ (by rw [e4_size]; kernel_rfl) (hZ.trans (e4_size _).symm) (row_one _ _ _) ?_
          intro wW15 hw2
          have hkW15 := below_setRow (hkW14) _ (e4 a1) HA4.out
          rw [← hw2] at hkW15
          clear MA4
          have MQ := MA5.out.setRow_other _ (e4 a1) (show _ ≠ wW11.heap.size by omega); rw [← hw2] at MQ; clear MA5; have MA5 := Lib.hid MQ; clear MQ
          have MQ := mZ.setRow (e4 a1); rw [← hw2] at MQ; have MA4 := Lib.hid MQ; clear MQ mZ hZ hw2
          refine ⟨fun _ => hkW15, ?_⟩
          (try simp only [List.setIfInBounds_toArray, List.set_cons_succ, List.set_cons_zero])
          refine wpBut_r1 (i := 7) (by kernel_rfl) ?_
          obtain ⟨Z, hZ, mZ⟩ := MA5.out
          refine go_store2 7 #[true, true, true, true, true, true, true, true] rfl rfl rfl (by rfl) 36 _ _ rfl _ _ rfl rfl 36 Z mZ (by rw [e4_size]; kernel_rfl) (hZ.trans (e4_size _).symm) (row_one _ _ _) ?_
          intro wW16 hw2
          have hkW16 := below_setRow (hkW15) _ (e4 a2) HA5.out
          rw [← hw2] at hkW16
          clear MA5
          have MQ := MA4.out.setRow_other _ (e4 a2) (show _ ≠ wW12.heap.size by omega); rw [← hw2] at MQ; clear MA4; have MA4 := Lib.hid MQ; clear MQ
          have MQ := mZ.setRow (e4 a2); rw [← hw2] at MQ; have MA5 := Lib.hid MQ; clear MQ mZ hZ hw2
          refine ⟨fun _ => hkW16, ?_⟩
          (try simp only [List.setIfInBounds_toArray, List.set_cons_succ, List.set_cons_zero])
          exact wpBut_done (by kernel_rfl) (NoPanic.normal (HQ.out (_, _) _ ⟨HA4.out, MA4.out, HA5.out, MA5.out, (hkW16)⟩))
      · refine go_alloc 5 6 #[true, true, true, false, false, true, false, false] rfl rfl rfl (by rfl) 36 rfl _ al36 ?_
        intro wW12 hw2
        have hkW12 := (hkW11).alloc (hkW11).size (.cells (#[.int .u64 0, .int .u64 0, .int .u64 0, .int .u64 0] : Array Value) 36)
        rw [← hw2] at hkW12
        have MQ := HasN.new (wW11) (#[.int .u64 0, .int .u64 0, .int .u64 0, .int .u64 0] : Array Value) 36 4 rfl; rw [← hw2] at MQ; have MA5 := Lib.hid MQ; clear MQ
        have HA5 := Lib.hid (show W1.heap.size ≤ _ from (hkW11).size)
        clear hw2
        refine ⟨fun _ => hkW12, ?_⟩
        (try simp only [List.setIfInBounds_toArray, List.set_cons_succ, List.set_cons_zero])
        refine wpBut_r2 (i := 3) (j := 4) (by kernel_rfl) ?_ ?_
        · refine go_call 3 17 #[true, true, true, true, false, true, false, false] rfl rfl rfl (by rfl) rfl rfl (by rfl) ent30 (by rfl) (Hf2.out _) ?_
          rintro e wW13 ⟨rfl, hb⟩
          have hkW13 := held_next hkW12 hb
          have MQ5 := Lib.hid (MA5.out.call hb); clear MA5
          have MA5 := MQ5; clear MQ5
          refine ⟨_, rfl, fun _ => hkW13, ?_⟩
          clear hb
          (try simp only [List.setIfInBounds_toArray, List.set_cons_succ, List.set_cons_zero])
          refine wpBut_r1 (i := 4) (by kernel_rfl) ?_
          refine go_alloc 4 5 #[true, true, true, true, true, true, false, false] rfl rfl rfl (by rfl) 36 rfl _ al36 ?_
          intro wW14 hw2
          have hkW14 := (hkW13).alloc (hkW13).size (.cells (#[.int .u64 0, .int .u64 0, .int .u64 0, .int .u64 0] : Array Value) 36)
          rw [← hw2] at hkW14
          have hne5_4 := MA5.out.lt
          have MQ := MA5.out.alloc (.cells (#[.int .u64 0, .int .u64 0, .int .u64 0, .int .u64 0] : Array Value) 36); rw [← hw2] at MQ; clear MA5; have MA5 := Lib.hid MQ; clear MQ
          have MQ := HasN.new (wW13) (#[.int .u64 0, .int .u64 0, .int .u64 0, .int .u64 0] : Array Value) 36 4 rfl; rw [← hw2] at MQ; have MA4 := Lib.hid MQ; clear MQ
          have HA4 := Lib.hid (show W1.heap.size ≤ _ from (hkW13).size)
          clear hw2
          refine ⟨fun _ => hkW14, ?_⟩
          (try simp only [List.setIfInBounds_toArray, List.set_cons_succ, List.set_cons_zero])
          refine wpBut_r1 (i := 6) (by kernel_rfl) ?_
          obtain ⟨Z, hZ, mZ⟩ := MA4.out
          refine go_store2 6 #[true, true, true, true, true, true, true, false] rfl rfl rfl (by rfl) 36 _ _ rfl _ _ rfl rfl 36 Z mZ (by rw [e4_size]; kernel_rfl) (hZ.trans (e4_size _).symm) (row_one _ _ _) ?_
          intro wW15 hw2
          have hkW15 := below_setRow (hkW14) _ (e4 a1) HA4.out
          rw [← hw2] at hkW15
          clear MA4
          have MQ := MA5.out.setRow_other _ (e4 a1) (show _ ≠ wW13.heap.size by omega); rw [← hw2] at MQ; clear MA5; have MA5 := Lib.hid MQ; clear MQ
          have MQ := mZ.setRow (e4 a1); rw [← hw2] at MQ; have MA4 := Lib.hid MQ; clear MQ mZ hZ hw2
          refine ⟨fun _ => hkW15, ?_⟩
          (try simp only [List.setIfInBounds_toArray, List.set_cons_succ, List.set_cons_zero])
          refine wpBut_r1 (i := 7) (by kernel_rfl) ?_
          obtain ⟨Z, hZ, mZ⟩ := MA5.out
          refine go_store2 7 #[true, true, true, true, true, true, true, true] rfl rfl rfl (by rfl) 36 _ _ rfl _ _ rfl rfl 36 Z mZ (by rw [e4_size]; kernel_rfl) (hZ.trans (e4_size _).symm) (row_one _ _ _) ?_
          intro wW16 hw2
          have hkW16 := below_setRow (hkW15) _ (e4 a2) HA5.out
          rw [← hw2] at hkW16
          clear MA5
          have MQ := MA4.out.setRow_other _ (e4 a2) (show _ ≠ wW11.heap.size by omega); rw [← hw2] at MQ; clear MA4; have MA4 := Lib.hid MQ; clear MQ
          have MQ := mZ.setRow (e4 a2); rw [← hw2] at MQ; have MA5 := Lib.hid MQ; clear MQ mZ hZ hw2
          refine ⟨fun _ => hkW16, ?_⟩
          (try simp only [List.setIfInBounds_toArray, List.set_cons_succ, List.set_cons_zero])
          exact wpBut_done (by kernel_rfl) (NoPanic.normal (HQ.out (_, _) _ ⟨HA4.out, MA4.out, HA5.out, MA5.out, (hkW16)⟩))
        · refine go_alloc 4 5 #[true, true, true, false, true, true, false, false] rfl rfl rfl (by rfl) 36 rfl _ al36 ?_
          intro wW13 hw2
          have hkW13 := (hkW12).alloc (hkW12).size (.cells (#[.int .u64 0, .int .u64 0, .int .u64 0, .int .u64 0] : Array Value) 36)
          rw [← hw2] at hkW13
          have hne5_4 := MA5.out.lt
          have MQ := MA5.out.alloc (.cells (#[.int .u64 0, .int .u64 0, .int .u64 0, .int .u64 0] : Array Value) 36); rw [← hw2] at MQ; clear MA5; have MA5 := Lib.hid MQ; clear MQ
          have MQ := HasN.new (wW12) (#[.int .u64 0, .int .u64 0, .int .u64 0, .int .u64 0] : Array Value) 36 4 rfl; rw [← hw2] at MQ; have MA4 := Lib.hid MQ; clear MQ
          have HA4 := Lib.hid (show W1.heap.size ≤ _ from (hkW12).size)
          clear hw2
          refine ⟨fun _ => hkW13, ?_⟩
          (try simp only [List.setIfInBounds_toArray, List.set_cons_succ, List.set_cons_zero])
          refine wpBut_r1 (i := 3) (by kernel_rfl) ?_
          refine go_call 3 17 #[true, true, true, true, true, true, false, false] rfl rfl rfl (by rfl) rfl rfl (by rfl) ent30 (by rfl) (Hf2.out _) ?_
          rintro e wW14 ⟨rfl, hb⟩
          have hkW14 := held_next hkW13 hb
          have MQ5 := Lib.hid (MA5.out.call hb); clear MA5
          have MA5 := MQ5; clear MQ5
          have MQ4 := Lib.hid (MA4.out.call hb); clear MA4
          have MA4 := MQ4; clear MQ4
          refine ⟨_, rfl, fun _ => hkW14, ?_⟩
          clear hb
          (try simp only [List.setIfInBounds_toArray, List.set_cons_succ, List.set_cons_zero])
          refine wpBut_r1 (i := 6) (by kernel_rfl) ?_
          obtain ⟨Z, hZ, mZ⟩ := MA4.out
          refine go_store2 6 #[true, true, true, true, true, true, true, false] rfl rfl rfl (by rfl) 36 _ _ rfl _ _ rfl rfl 36 Z mZ (by rw [e4_size]; kernel_rfl) (hZ.trans (e4_size _).symm) (row_one _ _ _) ?_
          intro wW15 hw2
          have hkW15 := below_setRow (hkW14) _ (e4 a1) HA4.out
          rw [← hw2] at hkW15
          clear MA4
          have MQ := MA5.out.setRow_other _ (e4 a1) (show _ ≠ wW12.heap.size by omega); rw [← hw2] at MQ; clear MA5; have MA5 := Lib.hid MQ; clear MQ
          have MQ := mZ.setRow (e4 a1); rw [← hw2] at MQ; have MA4 := Lib.hid MQ; clear MQ mZ hZ hw2
          refine ⟨fun _ => hkW15, ?_⟩
          (try simp only [List.setIfInBounds_toArray, List.set_cons_succ, List.set_cons_zero])
          refine wpBut_r1 (i := 7) (by kernel_rfl) ?_
          obtain ⟨Z, hZ, mZ⟩ := MA5.out
          refine go_store2 7 #[true, true, true, true, true, true, true, true] rfl rfl rfl (by rfl) 36 _ _ rfl _ _ rfl rfl 36 Z mZ (by rw [e4_size]; kernel_rfl) (hZ.trans (e4_size _).symm) (row_one _ _ _) ?_
          intro wW16 hw2
          have hkW16 := below_setRow (hkW15) _ (e4 a2) HA5.out
          rw [← hw2] at hkW16
          clear MA5
          have MQ := MA4.out.setRow_other _ (e4 a2) (show _ ≠ wW11.heap.size by omega); rw [← hw2] at MQ; clear MA4; have MA4 := Lib.hid MQ; clear MQ
          have MQ := mZ.setRow (e4 a2); rw [← hw2] at MQ; have MA5 := Lib.hid MQ; clear MQ mZ hZ hw2
          refine ⟨fun _ => hkW16, ?_⟩
          (try simp only [List.setIfInBounds_toArray, List.set_cons_succ, List.set_cons_zero])
          exact wpBut_done (by kernel_rfl) (NoPanic.normal (HQ.out (_, _) _ ⟨HA4.out, MA4.out, HA5.out, MA5.out, (hkW16)⟩))
    · refine go_alloc 4 5 #[true, false, true, false, true, false, false, false] rfl rfl rfl (by rfl) 36 rfl _ al36 ?_
      intro wW11 hw2
      have hkW11 := ((show Below W1.heap.size W1 W1.drew from (Below.refl _ _).drew)).alloc ((show Below W1.heap.size W1 W1.drew from (Below.refl _ _).drew)).size (.cells (#[.int .u64 0, .int .u64 0, .int .u64 0, .int .u64 0] : Array Value) 36)
      rw [← hw2] at hkW11
      have MQ := HasN.new (W1.drew) (#[.int .u64 0, .int .u64 0, .int .u64 0, .int .u64 0] : Array Value) 36 4 rfl; rw [← hw2] at MQ; have MA4 := Lib.hid MQ; clear MQ
      have HA4 := Lib.hid (show W1.heap.size ≤ _ from ((show Below W1.heap.size W1 W1.drew from (Below.refl _ _).drew)).size)
      clear hw2
      refine ⟨fun _ => hkW11, ?_⟩
      (try simp only [List.setIfInBounds_toArray, List.set_cons_succ, List.set_cons_zero])
      refine wpBut_r2 (i := 1) (j := 5) (by kernel_rfl) ?_ ?_
      · refine go_call 1 15 #[true, true, true, false, true, false, false, false] rfl rfl rfl (by rfl) rfl rfl (by rfl) ent30 (by rfl) (Hf1.out _) ?_
        rintro e wW12 ⟨rfl, hb⟩
        have hkW12 := held_next hkW11 hb
        have MQ4 := Lib.hid (MA4.out.call hb); clear MA4
        have MA4 := MQ4; clear MQ4
        refine ⟨_, rfl, fun _ => hkW12, ?_⟩
        clear hb
        (try simp only [List.setIfInBounds_toArray, List.set_cons_succ, List.set_cons_zero])
        refine wpBut_r2 (i := 3) (j := 5) (by kernel_rfl) ?_ ?_
        · refine go_call 3 17 #[true, true, true, true, true, false, false, false] rfl rfl rfl (by rfl) rfl rfl (by rfl) ent30 (by rfl) (Hf2.out _) ?_
          rintro e wW13 ⟨rfl, hb⟩
          have hkW13 := held_next hkW12 hb
          have MQ4 := Lib.hid (MA4.out.call hb); clear MA4
          have MA4 := MQ4; clear MQ4
          refine ⟨_, rfl, fun _ => hkW13, ?_⟩
          clear hb
          (try simp only [List.setIfInBounds_toArray, List.set_cons_succ, List.set_cons_zero])
          refine wpBut_r1 (i := 5) (by kernel_rfl) ?_
          refine go_alloc 5 6 #[true, true, true, true, true, true, false, false] rfl rfl rfl (by rfl) 36 rfl _ al36 ?_
          intro wW14 hw2
          have hkW14 := (hkW13).alloc (hkW13).size (.cells (#[.int .u64 0, .int .u64 0, .int .u64 0, .int .u64 0] : Array Value) 36)
          rw [← hw2] at hkW14
          have hne4_5 := MA4.out.lt
          have MQ := MA4.out.alloc (.cells (#[.int .u64 0, .int .u64 0, .int .u64 0, .int .u64 0] : Array Value) 36); rw [← hw2] at MQ; clear MA4; have MA4 := Lib.hid MQ; clear MQ
          have MQ := HasN.new (wW13) (#[.int .u64 0, .int .u64 0, .int .u64 0, .int .u64 0] : Array Value) 36 4 rfl; rw [← hw2] at MQ; have MA5 := Lib.hid MQ; clear MQ
          have HA5 := Lib.hid (show W1.heap.size ≤ _ from (hkW13).size)
          clear hw2
          refine ⟨fun _ => hkW14, ?_⟩
          (try simp only [List.setIfInBounds_toArray, List.set_cons_succ, List.set_cons_zero])
          refine wpBut_r1 (i := 6) (by kernel_rfl) ?_
          obtain ⟨Z, hZ, mZ⟩ := MA4.out
          refine go_store2 6 #[true, true, true, true, true, true, true, false] rfl rfl rfl (by rfl) 36 _ _ rfl _ _ rfl rfl 36 Z mZ (by rw [e4_size]; kernel_rfl) (hZ.trans (e4_size _).symm) (row_one _ _ _) ?_
          intro wW15 hw2
          have hkW15 := below_setRow (hkW14) _ (e4 a1) HA4.out
          rw [← hw2] at hkW15
          clear MA4
          have MQ := MA5.out.setRow_other _ (e4 a1) (show _ ≠ W1.drew.heap.size by omega); rw [← hw2] at MQ; clear MA5; have MA5 := Lib.hid MQ; clear MQ
          have MQ := mZ.setRow (e4 a1); rw [← hw2] at MQ; have MA4 := Lib.hid MQ; clear MQ mZ hZ hw2
          refine ⟨fun _ => hkW15, ?_⟩
          (try simp only [List.setIfInBounds_toArray, List.set_cons_succ, List.set_cons_zero])
          refine wpBut_r1 (i := 7) (by kernel_rfl) ?_
          obtain ⟨Z, hZ, mZ⟩ := MA5.out
          refine go_store2 7 #[true, true, true, true, true, true, true, true] rfl rfl rfl (by rfl) 36 _ _ rfl _ _ rfl rfl 36 Z mZ (by rw [e4_size]; kernel_rfl) (hZ.trans (e4_size _).symm) (row_one _ _ _) ?_
          intro wW16 hw2
          have hkW16 := below_setRow (hkW15) _ (e4 a2) HA5.out
          rw [← hw2] at hkW16
          clear MA5
          have MQ := MA4.out.setRow_other _ (e4 a2) (show _ ≠ wW13.heap.size by omega); rw [← hw2] at MQ; clear MA4; have MA4 := Lib.hid MQ; clear MQ
          have MQ := mZ.setRow (e4 a2); rw [← hw2] at MQ; have MA5 := Lib.hid MQ; clear MQ mZ hZ hw2
          refine ⟨fun _ => hkW16, ?_⟩
          (try simp only [List.setIfInBounds_toArray, List.set_cons_succ, List.set_cons_zero])
          exact wpBut_done (by kernel_rfl) (NoPanic.normal (HQ.out (_, _) _ ⟨HA4.out, MA4.out, HA5.out, MA5.out, (hkW16)⟩))
        · refine go_alloc 5 6 #[true, true, true, false, true, true, false, false] rfl rfl rfl (by rfl) 36 rfl _ al36 ?_
          intro wW13 hw2
          have hkW13 := (hkW12).alloc (hkW12).size (.cells (#[.int .u64 0, .int .u64 0, .int .u64 0, .int .u64 0] : Array Value) 36)
          rw [← hw2] at hkW13
          have hne4_5 := MA4.out.lt
          have MQ := MA4.out.alloc (.cells (#[.int .u64 0, .int .u64 0, .int .u64 0, .int .u64 0] : Array Value) 36); rw [← hw2] at MQ; clear MA4; have MA4 := Lib.hid MQ; clear MQ
          have MQ := HasN.new (wW12) (#[.int .u64 0, .int .u64 0, .int .u64 0, .int .u64 0] : Array Value) 36 4 rfl; rw [← hw2] at MQ; have MA5 := Lib.hid MQ; clear MQ
          have HA5 := Lib.hid (show W1.heap.size ≤ _ from (hkW12).size)
          clear hw2
          refine ⟨fun _ => hkW13, ?_⟩
          (try simp only [List.setIfInBounds_toArray, List.set_cons_succ, List.set_cons_zero])
          refine wpBut_r1 (i := 3) (by kernel_rfl) ?_
          refine go_call 3 17 #[true, true, true, true, true, true, false, false] rfl rfl rfl (by rfl) rfl rfl (by rfl) ent30 (by rfl) (Hf2.out _) ?_
          rintro e wW14 ⟨rfl, hb⟩
          have hkW14 := held_next hkW13 hb
          have MQ4 := Lib.hid (MA4.out.call hb); clear MA4
          have MA4 := MQ4; clear MQ4
          have MQ5 := Lib.hid (MA5.out.call hb); clear MA5
          have MA5 := MQ5; clear MQ5
          refine ⟨_, rfl, fun _ => hkW14, ?_⟩
          clear hb
          (try simp only [List.setIfInBounds_toArray, List.set_cons_succ, List.set_cons_zero])
          refine wpBut_r1 (i := 6) (by kernel_rfl) ?_
          obtain ⟨Z, hZ, mZ⟩ := MA4.out
          refine go_store2 6 #[true, true, true, true, true, true, true, false] rfl rfl rfl (by rfl) 36 _ _ rfl _ _ rfl rfl 36 Z mZ (by rw [e4_size]; kernel_rfl) (hZ.trans (e4_size _).symm) (row_one _ _ _) ?_
          intro wW15 hw2
          have hkW15 := below_setRow (hkW14) _ (e4 a1) HA4.out
          rw [← hw2] at hkW15
          clear MA4
          have MQ := MA5.out.setRow_other _ (e4 a1) (show _ ≠ W1.drew.heap.size by omega); rw [← hw2] at MQ; clear MA5; have MA5 := Lib.hid MQ; clear MQ
          have MQ := mZ.setRow (e4 a1); rw [← hw2] at MQ; have MA4 := Lib.hid MQ; clear MQ mZ hZ hw2
          refine ⟨fun _ => hkW15, ?_⟩
          (try simp only [List.setIfInBounds_toArray, List.set_cons_succ, List.set_cons_zero])
          refine wpBut_r1 (i := 7) (by kernel_rfl) ?_
          obtain ⟨Z, hZ, mZ⟩ := MA5.out
          refine go_store2 7 #[true, true, true, true, true, true, true, true] rfl rfl rfl (by rfl) 36 _ _ rfl _ _ rfl rfl 36 Z mZ (by rw [e4_size]; kernel_rfl) (hZ.trans (e4_size _).symm) (row_one _ _ _) ?_
          intro wW16 hw2
          have hkW16 := below_setRow (hkW15) _ (e4 a2) HA5.out
          rw [← hw2] at hkW16
          clear MA5
          have MQ := MA4.out.setRow_other _ (e4 a2) (show _ ≠ wW12.heap.size by omega); rw [← hw2] at MQ; clear MA4; have MA4 := Lib.hid MQ; clear MQ
          have MQ := mZ.setRow (e4 a2); rw [← hw2] at MQ; have MA5 := Lib.hid MQ; clear MQ mZ hZ hw2
          refine ⟨fun _ => hkW16, ?_⟩
          (try simp only [List.setIfInBounds_toArray, List.set_cons_succ, List.set_cons_zero])
          exact wpBut_done (by kernel_rfl) (NoPanic.normal (HQ.out (_, _) _ ⟨HA4.out, MA4.out, HA5.out, MA5.out, (hkW16)⟩))
      · refine go_alloc 5 6 #[true, false, true, false, true, true, false, false] rfl rfl rfl (by rfl) 36 rfl _ al36 ?_
        intro wW12 hw2
        have hkW12 := (hkW11).alloc (hkW11).size (.cells (#[.int .u64 0, .int .u64 0, .int .u64 0, .int .u64 0] : Array Value) 36)
        rw [← hw2] at hkW12
        have hne4_5 := MA4.out.lt
        have MQ := MA4.out.alloc (.cells (#[.int .u64 0, .int .u64 0, .int .u64 0, .int .u64 0] : Array Value) 36); rw [← hw2] at MQ; clear MA4; have MA4 := Lib.hid MQ; clear MQ
        have MQ := HasN.new (wW11) (#[.int .u64 0, .int .u64 0, .int .u64 0, .int .u64 0] : Array Value) 36 4 rfl; rw [← hw2] at MQ; have MA5 := Lib.hid MQ; clear MQ
        have HA5 := Lib.hid (show W1.heap.size ≤ _ from (hkW11).size)
        clear hw2
        refine ⟨fun _ => hkW12, ?_⟩
        (try simp only [List.setIfInBounds_toArray, List.set_cons_succ, List.set_cons_zero])
        refine wpBut_r1 (i := 1) (by kernel_rfl) ?_
        refine go_call 1 15 #[true, true, true, false, true, true, false, false] rfl rfl rfl (by rfl) rfl rfl (by rfl) ent30 (by rfl) (Hf1.out _) ?_
        rintro e wW13 ⟨rfl, hb⟩
        have hkW13 := held_next hkW12 hb
        have MQ4 := Lib.hid (MA4.out.call hb); clear MA4
        have MA4 := MQ4; clear MQ4
        have MQ5 := Lib.hid (MA5.out.call hb); clear MA5
        have MA5 := MQ5; clear MQ5
        refine ⟨_, rfl, fun _ => hkW13, ?_⟩
        clear hb
        (try simp only [List.setIfInBounds_toArray, List.set_cons_succ, List.set_cons_zero])
        refine wpBut_r1 (i := 3) (by kernel_rfl) ?_
        refine go_call 3 17 #[true, true, true, true, true, true, false, false] rfl rfl rfl (by rfl) rfl rfl (by rfl) ent30 (by rfl) (Hf2.out _) ?_
        rintro e wW14 ⟨rfl, hb⟩
        have hkW14 := held_next hkW13 hb
        have MQ4 := Lib.hid (MA4.out.call hb); clear MA4
        have MA4 := MQ4; clear MQ4
        have MQ5 := Lib.hid (MA5.out.call hb); clear MA5
        have MA5 := MQ5; clear MQ5
        refine ⟨_, rfl, fun _ => hkW14, ?_⟩
        clear hb
        (try simp only [List.setIfInBounds_toArray, List.set_cons_succ, List.set_cons_zero])
        refine wpBut_r1 (i := 6) (by kernel_rfl) ?_
        obtain ⟨Z, hZ, mZ⟩ := MA4.out
        refine go_store2 6 #[true, true, true, true, true, true, true, false] rfl rfl rfl (by rfl) 36 _ _ rfl _ _ rfl rfl 36 Z mZ (by rw [e4_size]; kernel_rfl) (hZ.trans (e4_size _).symm) (row_one _ _ _) ?_
        intro wW15 hw2
        have hkW15 := below_setRow (hkW14) _ (e4 a1) HA4.out
        rw [← hw2] at hkW15
        clear MA4
        have MQ := MA5.out.setRow_other _ (e4 a1) (show _ ≠ W1.drew.heap.size by omega); rw [← hw2] at MQ; clear MA5; have MA5 := Lib.hid MQ; clear MQ
        have MQ := mZ.setRow (e4 a1); rw [← hw2] at MQ; have MA4 := Lib.hid MQ; clear MQ mZ hZ hw2
        refine ⟨fun _ => hkW15, ?_⟩
        (try simp only [List.setIfInBounds_toArray, List.set_cons_succ, List.set_cons_zero])
        refine wpBut_r1 (i := 7) (by kernel_rfl) ?_
        obtain ⟨Z, hZ, mZ⟩ := MA5.out
        refine go_store2 7 #[true, true, true, true, true, true, true, true] rfl rfl rfl (by rfl) 36 _ _ rfl _ _ rfl rfl 36 Z mZ (by rw [e4_size]; kernel_rfl) (hZ.trans (e4_size _).symm) (row_one _ _ _) ?_
        intro wW16 hw2
        have hkW16 := below_setRow (hkW15) _ (e4 a2) HA5.out
        rw [← hw2] at hkW16
        clear MA5
        have MQ := MA4.out.setRow_other _ (e4 a2) (show _ ≠ wW11.heap.size by omega); rw [← hw2] at MQ; clear MA4; have MA4 := Lib.hid MQ; clear MQ
        have MQ := mZ.setRow (e4 a2); rw [← hw2] at MQ; have MA5 := Lib.hid MQ; clear MQ mZ hZ hw2
        refine ⟨fun _ => hkW16, ?_⟩
        (try simp only [List.setIfInBounds_toArray, List.set_cons_succ, List.set_cons_zero])
        exact wpBut_done (by kernel_rfl) (NoPanic.normal (HQ.out (_, _) _ ⟨HA4.out, MA4.out, HA5.out, MA5.out, (hkW16)⟩))
    · refine go_alloc 5 6 #[true, false, true, false, false, true, false, false] rfl rfl rfl (by rfl) 36 rfl _ al36 ?_
      intro wW11 hw2
      have hkW11 := ((show Below W1.heap.size W1 W1.drew from (Below.refl _ _).drew)).alloc ((show Below W1.heap.size W1 W1.drew from (Below.refl _ _).drew)).size (.cells (#[.int .u64 0, .int .u64 0, .int .u64 0, .int .u64 0] : Array Value) 36)
      rw [← hw2] at hkW11
      have MQ := HasN.new (W1.drew) (#[.int .u64 0, .int .u64 0, .int .u64 0, .int .u64 0] : Array Value) 36 4 rfl; rw [← hw2] at MQ; have MA5 := Lib.hid MQ; clear MQ
      have HA5 := Lib.hid (show W1.heap.size ≤ _ from ((show Below W1.heap.size W1 W1.drew from (Below.refl _ _).drew)).size)
      clear hw2
      refine ⟨fun _ => hkW11, ?_⟩
      (try simp only [List.setIfInBounds_toArray, List.set_cons_succ, List.set_cons_zero])
      refine wpBut_r2 (i := 1) (j := 4) (by kernel_rfl) ?_ ?_
      · refine go_call 1 15 #[true, true, true, false, false, true, false, false] rfl rfl rfl (by rfl) rfl rfl (by rfl) ent30 (by rfl) (Hf1.out _) ?_
        rintro e wW12 ⟨rfl, hb⟩
        have hkW12 := held_next hkW11 hb
        have MQ5 := Lib.hid (MA5.out.call hb); clear MA5
        have MA5 := MQ5; clear MQ5
        refine ⟨_, rfl, fun _ => hkW12, ?_⟩
        clear hb
        (try simp only [List.setIfInBounds_toArray, List.set_cons_succ, List.set_cons_zero])
        refine wpBut_r2 (i := 3) (j := 4) (by kernel_rfl) ?_ ?_
        · refine go_call 3 17 #[true, true, true, true, false, true, false, false] rfl rfl rfl (by rfl) rfl rfl (by rfl) ent30 (by rfl) (Hf2.out _) ?_
          rintro e wW13 ⟨rfl, hb⟩
          have hkW13 := held_next hkW12 hb
          have MQ5 := Lib.hid (MA5.out.call hb); clear MA5
          have MA5 := MQ5; clear MQ5
          refine ⟨_, rfl, fun _ => hkW13, ?_⟩
          clear hb
          (try simp only [List.setIfInBounds_toArray, List.set_cons_succ, List.set_cons_zero])
          refine wpBut_r1 (i := 4) (by kernel_rfl) ?_
          refine go_alloc 4 5 #[true, true, true, true, true, true, false, false] rfl rfl rfl (by rfl) 36 rfl _ al36 ?_
          intro wW14 hw2
          have hkW14 := (hkW13).alloc (hkW13).size (.cells (#[.int .u64 0, .int .u64 0, .int .u64 0, .int .u64 0] : Array Value) 36)
          rw [← hw2] at hkW14
          have hne5_4 := MA5.out.lt
          have MQ := MA5.out.alloc (.cells (#[.int .u64 0, .int .u64 0, .int .u64 0, .int .u64 0] : Array Value) 36); rw [← hw2] at MQ; clear MA5; have MA5 := Lib.hid MQ; clear MQ
          have MQ := HasN.new (wW13) (#[.int .u64 0, .int .u64 0, .int .u64 0, .int .u64 0] : Array Value) 36 4 rfl; rw [← hw2] at MQ; have MA4 := Lib.hid MQ; clear MQ
          have HA4 := Lib.hid (show W1.heap.size ≤ _ from (hkW13).size)
          clear hw2
          refine ⟨fun _ => hkW14, ?_⟩
          (try simp only [List.setIfInBounds_toArray, List.set_cons_succ, List.set_cons_zero])
          refine wpBut_r1 (i := 6) (by kernel_rfl) ?_
          obtain ⟨Z, hZ, mZ⟩ := MA4.out
          refine go_store2 6 #[true, true, true, true, true, true, true, false] rfl rfl rfl (by rfl) 36 _ _ rfl _ _ rfl rfl 36 Z mZ (by rw [e4_size]; kernel_rfl) (hZ.trans (e4_size _).symm) (row_one _ _ _) ?_
          intro wW15 hw2
          have hkW15 := below_setRow (hkW14) _ (e4 a1) HA4.out
          rw [← hw2] at hkW15
          clear MA4
          have MQ := MA5.out.setRow_other _ (e4 a1) (show _ ≠ wW13.heap.size by omega); rw [← hw2] at MQ; clear MA5; have MA5 := Lib.hid MQ; clear MQ
          have MQ := mZ.setRow (e4 a1); rw [← hw2] at MQ; have MA4 := Lib.hid MQ; clear MQ mZ hZ hw2
          refine ⟨fun _ => hkW15, ?_⟩
          (try simp only [List.setIfInBounds_toArray, List.set_cons_succ, List.set_cons_zero])
          refine wpBut_r1 (i := 7) (by kernel_rfl) ?_
          obtain ⟨Z, hZ, mZ⟩ := MA5.out
          refine go_store2 7 #[true, true, true, true, true, true, true, true] rfl rfl rfl (by rfl) 36 _ _ rfl _ _ rfl rfl 36 Z mZ (by rw [e4_size]; kernel_rfl) (hZ.trans (e4_size _).symm) (row_one _ _ _) ?_
          intro wW16 hw2
          have hkW16 := below_setRow (hkW15) _ (e4 a2) HA5.out
          rw [← hw2] at hkW16
          clear MA5
          have MQ := MA4.out.setRow_other _ (e4 a2) (show _ ≠ W1.drew.heap.size by omega); rw [← hw2] at MQ; clear MA4; have MA4 := Lib.hid MQ; clear MQ
          have MQ := mZ.setRow (e4 a2); rw [← hw2] at MQ; have MA5 := Lib.hid MQ; clear MQ mZ hZ hw2
          refine ⟨fun _ => hkW16, ?_⟩
          (try simp only [List.setIfInBounds_toArray, List.set_cons_succ, List.set_cons_zero])
          exact wpBut_done (by kernel_rfl) (NoPanic.normal (HQ.out (_, _) _ ⟨HA4.out, MA4.out, HA5.out, MA5.out, (hkW16)⟩))
        · refine go_alloc 4 5 #[true, true, true, false, true, true, false, false] rfl rfl rfl (by rfl) 36 rfl _ al36 ?_
          intro wW13 hw2
          have hkW13 := (hkW12).alloc (hkW12).size (.cells (#[.int .u64 0, .int .u64 0, .int .u64 0, .int .u64 0] : Array Value) 36)
          rw [← hw2] at hkW13
          have hne5_4 := MA5.out.lt
          have MQ := MA5.out.alloc (.cells (#[.int .u64 0, .int .u64 0, .int .u64 0, .int .u64 0] : Array Value) 36); rw [← hw2] at MQ; clear MA5; have MA5 := Lib.hid MQ; clear MQ
          have MQ := HasN.new (wW12) (#[.int .u64 0, .int .u64 0, .int .u64 0, .int .u64 0] : Array Value) 36 4 rfl; rw [← hw2] at MQ; have MA4 := Lib.hid MQ; clear MQ
          have HA4 := Lib.hid (show W1.heap.size ≤ _ from (hkW12).size)
          clear hw2
          refine ⟨fun _ => hkW13, ?_⟩
          (try simp only [List.setIfInBounds_toArray, List.set_cons_succ, List.set_cons_zero])
          refine wpBut_r1 (i := 3) (by kernel_rfl) ?_
          refine go_call 3 17 #[true, true, true, true, true, true, false, false] rfl rfl rfl (by rfl) rfl rfl (by rfl) ent30 (by rfl) (Hf2.out _) ?_
          rintro e wW14 ⟨rfl, hb⟩
          have hkW14 := held_next hkW13 hb
          have MQ5 := Lib.hid (MA5.out.call hb); clear MA5
          have MA5 := MQ5; clear MQ5
          have MQ4 := Lib.hid (MA4.out.call hb); clear MA4
          have MA4 := MQ4; clear MQ4
          refine ⟨_, rfl, fun _ => hkW14, ?_⟩
          clear hb
          (try simp only [List.setIfInBounds_toArray, List.set_cons_succ, List.set_cons_zero])
          refine wpBut_r1 (i := 6) (by kernel_rfl) ?_
          obtain ⟨Z, hZ, mZ⟩ := MA4.out
          refine go_store2 6 #[true, true, true, true, true, true, true, false] rfl rfl rfl (by rfl) 36 _ _ rfl _ _ rfl rfl 36 Z mZ (by rw [e4_size]; kernel_rfl) (hZ.trans (e4_size _).symm) (row_one _ _ _) ?_
          intro wW15 hw2
          have hkW15 := below_setRow (hkW14) _ (e4 a1) HA4.out
          rw [← hw2] at hkW15
          clear MA4
          have MQ := MA5.out.setRow_other _ (e4 a1) (show _ ≠ wW12.heap.size by omega); rw [← hw2] at MQ; clear MA5; have MA5 := Lib.hid MQ; clear MQ
          have MQ := mZ.setRow (e4 a1); rw [← hw2] at MQ; have MA4 := Lib.hid MQ; clear MQ mZ hZ hw2
          refine ⟨fun _ => hkW15, ?_⟩
          (try simp only [List.setIfInBounds_toArray, List.set_cons_succ, List.set_cons_zero])
          refine wpBut_r1 (i := 7) (by kernel_rfl) ?_
          obtain ⟨Z, hZ, mZ⟩ := MA5.out
          refine go_store2 7 #[true, true, true, true, true, true, true, true] rfl rfl rfl (by rfl) 36 _ _ rfl _ _ rfl rfl 36 Z mZ (by rw [e4_size]; kernel_rfl) (hZ.trans (e4_size _).symm) (row_one _ _ _) ?_
          intro wW16 hw2
          have hkW16 := below_setRow (hkW15) _ (e4 a2) HA5.out
          rw [← hw2] at hkW16
          clear MA5
          have MQ := MA4.out.setRow_other _ (e4 a2) (show _ ≠ W1.drew.heap.size by omega); rw [← hw2] at MQ; clear MA4; have MA4 := Lib.hid MQ; clear MQ
          have MQ := mZ.setRow (e4 a2); rw [← hw2] at MQ; have MA5 := Lib.hid MQ; clear MQ mZ hZ hw2
          refine ⟨fun _ => hkW16, ?_⟩
          (try simp only [List.setIfInBounds_toArray, List.set_cons_succ, List.set_cons_zero])
          exact wpBut_done (by kernel_rfl) (NoPanic.normal (HQ.out (_, _) _ ⟨HA4.out, MA4.out, HA5.out, MA5.out, (hkW16)⟩))
      · refine go_alloc 4 5 #[true, false, true, false, true, true, false, false] rfl rfl rfl (by rfl) 36 rfl _ al36 ?_
        intro wW12 hw2
        have hkW12 := (hkW11).alloc (hkW11).size (.cells (#[.int .u64 0, .int .u64 0, .int .u64 0, .int .u64 0] : Array Value) 36)
        rw [← hw2] at hkW12
        have hne5_4 := MA5.out.lt
        have MQ := MA5.out.alloc (.cells (#[.int .u64 0, .int .u64 0, .int .u64 0, .int .u64 0] : Array Value) 36); rw [← hw2] at MQ; clear MA5; have MA5 := Lib.hid MQ; clear MQ
        have MQ := HasN.new (wW11) (#[.int .u64 0, .int .u64 0, .int .u64 0, .int .u64 0] : Array Value) 36 4 rfl; rw [← hw2] at MQ; have MA4 := Lib.hid MQ; clear MQ
        have HA4 := Lib.hid (show W1.heap.size ≤ _ from (hkW11).size)
        clear hw2
        refine ⟨fun _ => hkW12, ?_⟩
        (try simp only [List.setIfInBounds_toArray, List.set_cons_succ, List.set_cons_zero])
        refine wpBut_r1 (i := 1) (by kernel_rfl) ?_
        refine go_call 1 15 #[true, true, true, false, true, true, false, false] rfl rfl rfl (by rfl) rfl rfl (by rfl) ent30 (by rfl) (Hf1.out _) ?_
        rintro e wW13 ⟨rfl, hb⟩
        have hkW13 := held_next hkW12 hb
        have MQ5 := Lib.hid (MA5.out.call hb); clear MA5
        have MA5 := MQ5; clear MQ5
        have MQ4 := Lib.hid (MA4.out.call hb); clear MA4
        have MA4 := MQ4; clear MQ4
        refine ⟨_, rfl, fun _ => hkW13, ?_⟩
        clear hb
        (try simp only [List.setIfInBounds_toArray, List.set_cons_succ, List.set_cons_zero])
        refine wpBut_r1 (i := 3) (by kernel_rfl) ?_
        refine go_call 3 17 #[true, true, true, true, true, true, false, false] rfl rfl rfl (by rfl) rfl rfl (by rfl) ent30 (by rfl) (Hf2.out _) ?_
        rintro e wW14 ⟨rfl, hb⟩
        have hkW14 := held_next hkW13 hb
        have MQ5 := Lib.hid (MA5.out.call hb); clear MA5
        have MA5 := MQ5; clear MQ5
        have MQ4 := Lib.hid (MA4.out.call hb); clear MA4
        have MA4 := MQ4; clear MQ4
        refine ⟨_, rfl, fun _ => hkW14, ?_⟩
        clear hb
        (try simp only [List.setIfInBounds_toArray, List.set_cons_succ, List.set_cons_zero])
        refine wpBut_r1 (i := 6) (by kernel_rfl) ?_
        obtain ⟨Z, hZ, mZ⟩ := MA4.out
        refine go_store2 6 #[true, true, true, true, true, true, true, false] rfl rfl rfl (by rfl) 36 _ _ rfl _ _ rfl rfl 36 Z mZ (by rw [e4_size]; kernel_rfl) (hZ.trans (e4_size _).symm) (row_one _ _ _) ?_
        intro wW15 hw2
        have hkW15 := below_setRow (hkW14) _ (e4 a1) HA4.out
        rw [← hw2] at hkW15
        clear MA4
        have MQ := MA5.out.setRow_other _ (e4 a1) (show _ ≠ wW11.heap.size by omega); rw [← hw2] at MQ; clear MA5; have MA5 := Lib.hid MQ; clear MQ
        have MQ := mZ.setRow (e4 a1); rw [← hw2] at MQ; have MA4 := Lib.hid MQ; clear MQ mZ hZ hw2
        refine ⟨fun _ => hkW15, ?_⟩
        (try simp only [List.setIfInBounds_toArray, List.set_cons_succ, List.set_cons_zero])
        refine wpBut_r1 (i := 7) (by kernel_rfl) ?_
        obtain ⟨Z, hZ, mZ⟩ := MA5.out
        refine go_store2 7 #[true, true, true, true, true, true, true, true] rfl rfl rfl (by rfl) 36 _ _ rfl _ _ rfl rfl 36 Z mZ (by rw [e4_size]; kernel_rfl) (hZ.trans (e4_size _).symm) (row_one _ _ _) ?_
        intro wW16 hw2
        have hkW16 := below_setRow (hkW15) _ (e4 a2) HA5.out
        rw [← hw2] at hkW16
        clear MA5
        have MQ := MA4.out.setRow_other _ (e4 a2) (show _ ≠ W1.drew.heap.size by omega); rw [← hw2] at MQ; clear MA4; have MA4 := Lib.hid MQ; clear MQ
        have MQ := mZ.setRow (e4 a2); rw [← hw2] at MQ; have MA5 := Lib.hid MQ; clear MQ mZ hZ hw2
        refine ⟨fun _ => hkW16, ?_⟩
        (try simp only [List.setIfInBounds_toArray, List.set_cons_succ, List.set_cons_zero])
        exact wpBut_done (by kernel_rfl) (NoPanic.normal (HQ.out (_, _) _ ⟨HA4.out, MA4.out, HA5.out, MA5.out, (hkW16)⟩))
  · rintro W1 ⟨B5, B6⟩ v1 hW1 ⟨hBq0, mBq0, hBq1, mBq1, hbw⟩
    simp only [Act.put, List.setIfInBounds_toArray, List.set_cons_succ, List.set_cons_zero] at  hBq0  mBq0 hBq1  mBq1 ⊢
    have kq := M2.out; rw [← hW1] at kq; clear M2; have M2 := Lib.hid kq; clear kq
    have kq := M3.out; rw [← hW1] at kq; clear M3; have M3 := Lib.hid kq; clear kq
    have kq := HB.out; rw [← hW1] at kq; clear HB; have HB := Lib.hid kq; clear kq
    clear hW1
    have hltM2_1 := M2.out.lt
    have hltM3_1 := M3.out.lt
    have kq := M2.out.call hbw; clear M2; have M2 := Lib.hid kq; clear kq
    have kq := M3.out.call hbw; clear M3; have M3 := Lib.hid kq; clear kq
    have hBq := held_next HB.out hbw; clear HB; have HB := Lib.hid hBq; clear hBq
    have M5 := Lib.hid mBq0; clear mBq0
    have M6 := Lib.hid mBq1; clear mBq1
    clear hbw
    clear M2 M3
    clear Hf1 Hf2 Hr1 Hr2
    repeat ((fail_if_success (with_reducible (show wpList _ _ _ _ _ _))); go_step)
    refine wpList_load (by rfl) 36 _ rfl (B5) rfl 36 (e4 a1) M5.out Try.underlying36 rfl (by rw [e4_size]; kernel_rfl) 19 rfl ?_
    (try simp only [Act.put, List.setIfInBounds_toArray, List.set_cons_succ, List.set_cons_zero])
    refine wpList_call (by rfl) rfl rfl (by rfl) ent44 (by rfl) (HR1.out _) 20 rfl ?_
    rintro e u1 ⟨m1, hm1, hm1r, rfl, hb⟩
    have kq := M5.out.call hb; clear M5; have M5 := Lib.hid kq; clear kq
    have kq := M6.out.call hb; clear M6; have M6 := Lib.hid kq; clear kq
    have hBq := held_next HB.out hb; clear HB; have HB := Lib.hid hBq; clear hBq
    refine ⟨_, rfl, ?_⟩
    clear hb
    (try simp only [Act.put, List.setIfInBounds_toArray, List.set_cons_succ, List.set_cons_zero])
    refine wpList_step (fun K hK => ?_)
    go_simp
    (try go_bits)
    refine hK _ _ ?_
    clear hK K
    refine wpList_step (fun K hK => ?_)
    go_simp
    (try go_bits)
    refine hK _ _ ?_
    clear hK K
    refine wpList_step (fun K hK => ?_)
    go_simp
    (try go_bits)
    refine hK _ _ ?_
    clear hK K
    refine wpList_step (fun K hK => ?_)
    go_simp
    have hlt2 := M5.out.lt
    have hlt3 := M6.out.lt
    have kq := M5.out.alloc (.cells (#[.int .u64 0, .int .u64 0, .int .u64 0, .int .u64 0] : Array Value) 36); clear M5; have M5 := Lib.hid kq; clear kq
    have kq := M6.out.alloc (.cells (#[.int .u64 0, .int .u64 0, .int .u64 0, .int .u64 0] : Array Value) 36); clear M6; have M6 := Lib.hid kq; clear kq
    have M7 := Lib.hid (HasN.new u1 (#[.int .u64 0, .int .u64 0, .int .u64 0, .int .u64 0] : Array Value) 36 4 rfl)
    have hsz := HB.out.size
    have hBq := HB.out.alloc hsz (.cells (#[.int .u64 0, .int .u64 0, .int .u64 0, .int .u64 0] : Array Value) 36); clear HB; have HB := Lib.hid hBq; clear hBq
    refine hK _ _ ?_
    clear hK K
    first | (obtain ⟨Z, hZ, mZ⟩ := M7.out) | (obtain ⟨Z, hZ, mZ⟩ := M7.out.toN (e4_size _))
    clear M7
    have hZ' := Lib.hid hZ; clear hZ
    have mZ' := Lib.hid mZ; clear mZ
    refine wpList_store_row rfl 36 _ _ rfl (u1.heap.size) _ rfl rfl 36 Z mZ'.out (by rw [e4_size]; kernel_rfl) (hZ'.out.trans (e4_size _).symm) (row_one _ _ _) ?_
    (try simp only [Act.put, List.setIfInBounds_toArray, List.set_cons_succ, List.set_cons_zero])
    have kq := M5.out.setRow_other (u1.heap.size) (e4 m1) (by omega); clear M5; have M5 := Lib.hid kq; clear kq
    have kq := M6.out.setRow_other (u1.heap.size) (e4 m1) (by omega); clear M6; have M6 := Lib.hid kq; clear kq
    have M7 := Lib.hid (mZ'.out.setRow (e4 m1))
    clear mZ' hZ'
    have hBq := below_setRow HB.out (u1.heap.size) (e4 m1) (by omega); clear HB; have HB := Lib.hid hBq; clear hBq
    refine wpList_step (fun K hK => ?_)
    go_simp
    (try go_bits)
    refine hK _ _ ?_
    clear hK K
    refine wpList_nil ?_
    have Hm1r := Lib.hid hm1r; clear hm1r
    repeat ((fail_if_success (with_reducible (show wpList _ _ _ _ _ _))); go_step)
    refine wpList_load (by rfl) 36 _ rfl (B6) rfl 36 (e4 a2) M6.out Try.underlying36 rfl (by rw [e4_size]; kernel_rfl) 24 rfl ?_
    (try simp only [Act.put, List.setIfInBounds_toArray, List.set_cons_succ, List.set_cons_zero])
    refine wpList_call (by rfl) rfl rfl (by rfl) ent44 (by rfl) (HR2.out _) 25 rfl ?_
    rintro e u2 ⟨m2, hm2, hm2r, rfl, hb⟩
    have kq := M5.out.call hb; clear M5; have M5 := Lib.hid kq; clear kq
    have kq := M6.out.call hb; clear M6; have M6 := Lib.hid kq; clear kq
    have kq := M7.out.call hb; clear M7; have M7 := Lib.hid kq; clear kq
    have hBq := held_next HB.out hb; clear HB; have HB := Lib.hid hBq; clear hBq
    refine ⟨_, rfl, ?_⟩
    clear hb
    (try simp only [Act.put, List.setIfInBounds_toArray, List.set_cons_succ, List.set_cons_zero])
    refine wpList_step (fun K hK => ?_)
    go_simp
    (try go_bits)
    refine hK _ _ ?_
    clear hK K
    refine wpList_step (fun K hK => ?_)
    go_simp
    (try go_bits)
    refine hK _ _ ?_
    clear hK K
    refine wpList_step (fun K hK => ?_)
    go_simp
    (try go_bits)
    refine hK _ _ ?_
    clear hK K
    refine wpList_step (fun K hK => ?_)
    go_simp
    have hlt4 := M5.out.lt
    have hlt5 := M6.out.lt
    have hlt6 := M7.out.lt
    have kq := M5.out.alloc (.cells (#[.int .u64 0, .int .u64 0, .int .u64 0, .int .u64 0] : Array Value) 36); clear M5; have M5 := Lib.hid kq; clear kq
    have kq := M6.out.alloc (.cells (#[.int .u64 0, .int .u64 0, .int .u64 0, .int .u64 0] : Array Value) 36); clear M6; have M6 := Lib.hid kq; clear kq
    have kq := M7.out.alloc (.cells (#[.int .u64 0, .int .u64 0, .int .u64 0, .int .u64 0] : Array Value) 36); clear M7; have M7 := Lib.hid kq; clear kq
    have M9 := Lib.hid (HasN.new u2 (#[.int .u64 0, .int .u64 0, .int .u64 0, .int .u64 0] : Array Value) 36 4 rfl)
    have hsz := HB.out.size
    have hBq := HB.out.alloc hsz (.cells (#[.int .u64 0, .int .u64 0, .int .u64 0, .int .u64 0] : Array Value) 36); clear HB; have HB := Lib.hid hBq; clear hBq
    refine hK _ _ ?_
    clear hK K
    first | (obtain ⟨Z, hZ, mZ⟩ := M9.out) | (obtain ⟨Z, hZ, mZ⟩ := M9.out.toN (e4_size _))
    clear M9
    have hZ' := Lib.hid hZ; clear hZ
    have mZ' := Lib.hid mZ; clear mZ
    refine wpList_store_row rfl 36 _ _ rfl (u2.heap.size) _ rfl rfl 36 Z mZ'.out (by rw [e4_size]; kernel_rfl) (hZ'.out.trans (e4_size _).symm) (row_one _ _ _) ?_
    (try simp only [Act.put, List.setIfInBounds_toArray, List.set_cons_succ, List.set_cons_zero])
    have kq := M5.out.setRow_other (u2.heap.size) (e4 m2) (by omega); clear M5; have M5 := Lib.hid kq; clear kq
    have kq := M6.out.setRow_other (u2.heap.size) (e4 m2) (by omega); clear M6; have M6 := Lib.hid kq; clear kq
    have kq := M7.out.setRow_other (u2.heap.size) (e4 m2) (by omega); clear M7; have M7 := Lib.hid kq; clear kq
    have M9 := Lib.hid (mZ'.out.setRow (e4 m2))
    clear mZ' hZ'
    have hBq := below_setRow HB.out (u2.heap.size) (e4 m2) (by omega); clear HB; have HB := Lib.hid hBq; clear hBq
    refine wpList_step (fun K hK => ?_)
    go_simp
    (try go_bits)
    refine hK _ _ ?_
    clear hK K
    refine wpList_nil ?_
    have Hm2r := Lib.hid hm2r; clear hm2r
    clear HR1 HR2
    repeat ((fail_if_success (with_reducible (show wpList _ _ _ _ _ _))); go_step)
    obtain ⟨o1, ho1⟩ : ∃ o, rtok A1 = o := ⟨_, rfl⟩
    obtain ⟨o2, ho2⟩ : ∃ o, rtok A2 = o := ⟨_, rfl⟩
    rw [ho1, ho2]
    have O1 := Lib.hid ho1; clear ho1
    have O2 := Lib.hid ho2; clear ho2
    cases o1
    · cases o2
      · refine wp_region_noPanic ?_
        refine wp_region_go 99 24 #[false, false, false, false, false, false, false, false, false, false, false, false, false, false, false, false, false, false, false, false, false, false, false, false] (by kernel_rfl) rfl rfl ?_
        intro W7 hW7
        have kq := M5.out; rw [← hW7] at kq; clear M5; have M5 := Lib.hid kq; clear kq
        have kq := M6.out; rw [← hW7] at kq; clear M6; have M6 := Lib.hid kq; clear kq
        have kq := M7.out; rw [← hW7] at kq; clear M7; have M7 := Lib.hid kq; clear kq
        have kq := M9.out; rw [← hW7] at kq; clear M9; have M9 := Lib.hid kq; clear kq
        have kq := HB.out; rw [← hW7] at kq; clear HB; have HB := Lib.hid kq; clear kq
        clear hW7
        refine wpBut_r1 (i := 0) (by kernel_rfl) ?_
        refine go_call 0 28 #[true, false, false, false, false, false, false, false, false, false, false, false, false, false, false, false, false, false, false, false, false, false, false, false] rfl rfl rfl (by rfl) rfl rfl (by rfl) ent28 (by rfl) (Hal.out _) ?_
        rintro e wW71 ⟨rfl, hb⟩
        have hkW71 := held_next (show Below W7.heap.size W7 W7.drew from (Below.refl _ _).drew) hb
        refine ⟨_, rfl, fun _ => hkW71, ?_⟩
        clear hb
        (try simp only [List.setIfInBounds_toArray, List.set_cons_succ, List.set_cons_zero])
        refine go_take 1 29 #[true, true, false, false, false, false, false, false, false, false, false, false, false, false, false, false, false, false, false, false, false, false, false, false] (v := ?uv1) rfl rfl rfl (by kernel_rfl) (by kernel_rfl) (by kernel_rfl) (by kernel_rfl) (by kernel_rfl) (Or.inl ⟨by rfl, ?uy1⟩) (hkW71) ?urest1
        case uy1 => (intro _ _; go_simp; try with_reducible rfl)
        (try simp only [List.setIfInBounds_toArray, List.set_cons_succ, List.set_cons_zero])
        refine go_take 2 30 #[true, true, true, false, false, false, false, false, false, false, false, false, false, false, false, false, false, false, false, false, false, false, false, false] (v := ?uv2) rfl rfl rfl (by kernel_rfl) (by kernel_rfl) (by kernel_rfl) (by kernel_rfl) (by kernel_rfl) (Or.inl ⟨by rfl, ?uy2⟩) (hkW71) ?urest2
        case uy2 => (intro _ _; go_simp; try with_reducible rfl)
        (try simp only [List.setIfInBounds_toArray, List.set_cons_succ, List.set_cons_zero])
        refine go_take 3 31 #[true, true, true, true, false, false, false, false, false, false, false, false, false, false, false, false, false, false, false, false, false, false, false, false] (v := ?uv3) rfl rfl rfl (by kernel_rfl) (by kernel_rfl) (by kernel_rfl) (by kernel_rfl) (by kernel_rfl) (Or.inl ⟨by rfl, ?uy3⟩) (hkW71) ?urest3
        case uy3 => (intro _ _; go_simp; try with_reducible rfl)
        (try simp only [List.setIfInBounds_toArray, List.set_cons_succ, List.set_cons_zero])
        refine go_take 4 32 #[true, true, true, true, true, false, false, false, false, false, false, false, false, false, false, false, false, false, false, false, false, false, false, false] (v := ?uv4) rfl rfl rfl (by kernel_rfl) (by kernel_rfl) (by kernel_rfl) (by kernel_rfl) (by kernel_rfl) (Or.inl ⟨by rfl, ?uy4⟩) (hkW71) ?urest4
        case uy4 => (intro _ _; go_simp; try with_reducible rfl)
        (try simp only [List.setIfInBounds_toArray, List.set_cons_succ, List.set_cons_zero])
        refine go_take 5 33 #[true, true, true, true, true, true, false, false, false, false, false, false, false, false, false, false, false, false, false, false, false, false, false, false] (v := undef) rfl rfl rfl (by kernel_rfl) (by kernel_rfl) (by kernel_rfl) (by kernel_rfl) (by kernel_rfl) (Or.inr ⟨by rfl, rfl⟩) (hkW71) ?_
        (try simp only [List.setIfInBounds_toArray, List.set_cons_succ, List.set_cons_zero])
        refine go_take 6 34 #[true, true, true, true, true, true, true, false, false, false, false, false, false, false, false, false, false, false, false, false, false, false, false, false] (v := undef) rfl rfl rfl (by kernel_rfl) (by kernel_rfl) (by kernel_rfl) (by kernel_rfl) (by kernel_rfl) (Or.inr ⟨by rfl, rfl⟩) (hkW71) ?_
        (try simp only [List.setIfInBounds_toArray, List.set_cons_succ, List.set_cons_zero])
        refine go_take 7 35 #[true, true, true, true, true, true, true, true, false, false, false, false, false, false, false, false, false, false, false, false, false, false, false, false] (v := undef) rfl rfl rfl (by kernel_rfl) (by kernel_rfl) (by kernel_rfl) (by kernel_rfl) (by kernel_rfl) (Or.inr ⟨by rfl, rfl⟩) (hkW71) ?_
        (try simp only [List.setIfInBounds_toArray, List.set_cons_succ, List.set_cons_zero])
        refine go_take 8 36 #[true, true, true, true, true, true, true, true, true, false, false, false, false, false, false, false, false, false, false, false, false, false, false, false] (v := undef) rfl rfl rfl (by kernel_rfl) (by kernel_rfl) (by kernel_rfl) (by kernel_rfl) (by kernel_rfl) (Or.inr ⟨by rfl, rfl⟩) (hkW71) ?_
        (try simp only [List.setIfInBounds_toArray, List.set_cons_succ, List.set_cons_zero])
        refine go_take 9 37 #[true, true, true, true, true, true, true, true, true, true, false, false, false, false, false, false, false, false, false, false, false, false, false, false] (v := undef) rfl rfl rfl (by kernel_rfl) (by kernel_rfl) (by kernel_rfl) (by kernel_rfl) (by kernel_rfl) (Or.inr ⟨by rfl, rfl⟩) (hkW71) ?_
        (try simp only [List.setIfInBounds_toArray, List.set_cons_succ, List.set_cons_zero])
        refine go_take 10 38 #[true, true, true, true, true, true, true, true, true, true, true, false, false, false, false, false, false, false, false, false, false, false, false, false] (v := undef) rfl rfl rfl (by kernel_rfl) (by kernel_rfl) (by kernel_rfl) (by kernel_rfl) (by kernel_rfl) (Or.inr ⟨by rfl, rfl⟩) (hkW71) ?_
        (try simp only [List.setIfInBounds_toArray, List.set_cons_succ, List.set_cons_zero])
        refine go_take 11 39 #[true, true, true, true, true, true, true, true, true, true, true, true, false, false, false, false, false, false, false, false, false, false, false, false] (v := ?uv5) rfl rfl rfl (by kernel_rfl) (by kernel_rfl) (by kernel_rfl) (by kernel_rfl) (by kernel_rfl) (Or.inl ⟨by rfl, ?uy5⟩) (hkW71) ?urest5
        case uy5 => (intro _ _; go_simp; try with_reducible rfl)
        (try simp only [List.setIfInBounds_toArray, List.set_cons_succ, List.set_cons_zero])
        refine go_take 12 40 #[true, true, true, true, true, true, true, true, true, true, true, true, true, false, false, false, false, false, false, false, false, false, false, false] (v := ?uv6) rfl rfl rfl (by kernel_rfl) (by kernel_rfl) (by kernel_rfl) (by kernel_rfl) (by kernel_rfl) (Or.inl ⟨by rfl, ?uy6⟩) (hkW71) ?urest6
        case uy6 => (intro _ _; go_simp; try with_reducible rfl)
        (try simp only [List.setIfInBounds_toArray, List.set_cons_succ, List.set_cons_zero])
        refine go_take 13 41 #[true, true, true, true, true, true, true, true, true, true, true, true, true, true, false, false, false, false, false, false, false, false, false, false] (v := ?uv7) rfl rfl rfl (by kernel_rfl) (by kernel_rfl) (by kernel_rfl) (by kernel_rfl) (by kernel_rfl) (Or.inl ⟨by rfl, ?uy7⟩) (hkW71) ?urest7
        case uy7 => (intro _ _; go_simp; try with_reducible rfl)
        (try simp only [List.setIfInBounds_toArray, List.set_cons_succ, List.set_cons_zero])
        refine go_take 14 42 #[true, true, true, true, true, true, true, true, true, true, true, true, true, true, true, false, false, false, false, false, false, false, false, false] (v := ?uv8) rfl rfl rfl (by kernel_rfl) (by kernel_rfl) (by kernel_rfl) (by kernel_rfl) (by kernel_rfl) (Or.inl ⟨by rfl, ?uy8⟩) (hkW71) ?urest8
        case uy8 => (intro _ _; go_simp; try with_reducible rfl)
        (try simp only [List.setIfInBounds_toArray, List.set_cons_succ, List.set_cons_zero])
        refine go_take 15 43 #[true, true, true, true, true, true, true, true, true, true, true, true, true, true, true, true, false, false, false, false, false, false, false, false] (v := ?uv9) rfl rfl rfl (by kernel_rfl) (by kernel_rfl) (by kernel_rfl) (by kernel_rfl) (by kernel_rfl) (Or.inl ⟨by rfl, ?uy9⟩) (hkW71) ?urest9
        case uy9 => (intro _ _; go_simp; try with_reducible rfl)
        (try simp only [List.setIfInBounds_toArray, List.set_cons_succ, List.set_cons_zero])
        refine go_take 16 44 #[true, true, true, true, true, true, true, true, true, true, true, true, true, true, true, true, true, false, false, false, false, false, false, false] (v := undef) rfl rfl rfl (by kernel_rfl) (by kernel_rfl) (by kernel_rfl) (by kernel_rfl) (by kernel_rfl) (Or.inr ⟨by rfl, rfl⟩) (hkW71) ?_
        (try simp only [List.setIfInBounds_toArray, List.set_cons_succ, List.set_cons_zero])
        refine go_take 17 45 #[true, true, true, true, true, true, true, true, true, true, true, true, true, true, true, true, true, true, false, false, false, false, false, false] (v := undef) rfl rfl rfl (by kernel_rfl) (by kernel_rfl) (by kernel_rfl) (by kernel_rfl) (by kernel_rfl) (Or.inr ⟨by rfl, rfl⟩) (hkW71) ?_
        (try simp only [List.setIfInBounds_toArray, List.set_cons_succ, List.set_cons_zero])
        refine go_take 18 46 #[true, true, true, true, true, true, true, true, true, true, true, true, true, true, true, true, true, true, true, false, false, false, false, false] (v := undef) rfl rfl rfl (by kernel_rfl) (by kernel_rfl) (by kernel_rfl) (by kernel_rfl) (by kernel_rfl) (Or.inr ⟨by rfl, rfl⟩) (hkW71) ?_
        (try simp only [List.setIfInBounds_toArray, List.set_cons_succ, List.set_cons_zero])
        refine go_take 19 47 #[true, true, true, true, true, true, true, true, true, true, true, true, true, true, true, true, true, true, true, true, false, false, false, false] (v := undef) rfl rfl rfl (by kernel_rfl) (by kernel_rfl) (by kernel_rfl) (by kernel_rfl) (by kernel_rfl) (Or.inr ⟨by rfl, rfl⟩) (hkW71) ?_
        (try simp only [List.setIfInBounds_toArray, List.set_cons_succ, List.set_cons_zero])
        refine go_take 20 48 #[true, true, true, true, true, true, true, true, true, true, true, true, true, true, true, true, true, true, true, true, true, false, false, false] (v := undef) rfl rfl rfl (by kernel_rfl) (by kernel_rfl) (by kernel_rfl) (by kernel_rfl) (by kernel_rfl) (Or.inr ⟨by rfl, rfl⟩) (hkW71) ?_
        (try simp only [List.setIfInBounds_toArray, List.set_cons_succ, List.set_cons_zero])
        refine go_take 21 49 #[true, true, true, true, true, true, true, true, true, true, true, true, true, true, true, true, true, true, true, true, true, true, false, false] (v := undef) rfl rfl rfl (by kernel_rfl) (by kernel_rfl) (by kernel_rfl) (by kernel_rfl) (by kernel_rfl) (Or.inr ⟨by rfl, rfl⟩) (hkW71) ?_
        (try simp only [List.setIfInBounds_toArray, List.set_cons_succ, List.set_cons_zero])
        refine go_take 22 50 #[true, true, true, true, true, true, true, true, true, true, true, true, true, true, true, true, true, true, true, true, true, true, true, false] (v := ?uv10) rfl rfl rfl (by kernel_rfl) (by kernel_rfl) (by kernel_rfl) (by kernel_rfl) (by kernel_rfl) (Or.inl ⟨by rfl, ?uy10⟩) (hkW71) ?urest10
        case uy10 => (intro _ _; go_simp; try with_reducible rfl)
        (try simp only [List.setIfInBounds_toArray, List.set_cons_succ, List.set_cons_zero])
        refine go_take 23 51 #[true, true, true, true, true, true, true, true, true, true, true, true, true, true, true, true, true, true, true, true, true, true, true, true] (v := ?uv11) rfl rfl rfl (by kernel_rfl) (by kernel_rfl) (by kernel_rfl) (by kernel_rfl) (by kernel_rfl) (Or.inl ⟨by rfl, ?uy11⟩) (hkW71) ?urest11
        case uy11 => (intro _ _; go_simp; try with_reducible rfl)
        (try simp only [List.setIfInBounds_toArray, List.set_cons_succ, List.set_cons_zero])
        refine wpBut_done (by kernel_rfl) (NoPanic.normal ?_)
        have kq := M5.out.call hkW71; clear M5; have M5 := Lib.hid kq; clear kq
        have kq := M6.out.call hkW71; clear M6; have M6 := Lib.hid kq; clear kq
        have kq := M7.out.call hkW71; clear M7; have M7 := Lib.hid kq; clear kq
        have kq := M9.out.call hkW71; clear M9; have M9 := Lib.hid kq; clear kq
        have hBq := held_next HB.out hkW71; clear HB; have HB := Lib.hid hBq; clear hBq
        repeat ((fail_if_success (with_reducible (show wpList _ _ _ _ _ _))); go_step)
        refine wpList_load (by rfl) 36 _ rfl (B5) rfl 36 (e4 a1) M5.out Try.underlying36 rfl (by rw [e4_size]; kernel_rfl) 53 rfl ?_
        (try simp only [Act.put, List.setIfInBounds_toArray, List.set_cons_succ, List.set_cons_zero])
        refine wpList_load (by rfl) 36 _ rfl (B6) rfl 36 (e4 a2) M6.out Try.underlying36 rfl (by rw [e4_size]; kernel_rfl) 54 rfl ?_
        (try simp only [Act.put, List.setIfInBounds_toArray, List.set_cons_succ, List.set_cons_zero])
        refine wpList_call (by rfl) rfl rfl (by rfl) ent31 (by rfl) (Ht.out a1 a2 Hal1.out Hal2.out _) 55 rfl ?_
        rintro e u3 ⟨q3, hq3, hq3r, rfl, hb⟩
        have kq := M5.out.call hb; clear M5; have M5 := Lib.hid kq; clear kq
        have kq := M6.out.call hb; clear M6; have M6 := Lib.hid kq; clear kq
        have kq := M7.out.call hb; clear M7; have M7 := Lib.hid kq; clear kq
        have kq := M9.out.call hb; clear M9; have M9 := Lib.hid kq; clear kq
        have hBq := held_next HB.out hb; clear HB; have HB := Lib.hid hBq; clear hBq
        refine ⟨_, rfl, ?_⟩
        clear hb
        (try simp only [Act.put, List.setIfInBounds_toArray, List.set_cons_succ, List.set_cons_zero])
        refine wpList_call (by rfl) rfl rfl (by rfl) ent44 (by rfl) (Hrb.out q3 hq3 (by rw [hq3r, HA1.out, HA2.out, ← Nat.mul_mod]) _) 56 rfl ?_
        rintro e u4 ⟨m3, hm3, hm3r, rfl, hb⟩
        have kq := M5.out.call hb; clear M5; have M5 := Lib.hid kq; clear kq
        have kq := M6.out.call hb; clear M6; have M6 := Lib.hid kq; clear kq
        have kq := M7.out.call hb; clear M7; have M7 := Lib.hid kq; clear kq
        have kq := M9.out.call hb; clear M9; have M9 := Lib.hid kq; clear kq
        have hBq := held_next HB.out hb; clear HB; have HB := Lib.hid hBq; clear hBq
        refine ⟨_, rfl, ?_⟩
        clear hb
        (try simp only [Act.put, List.setIfInBounds_toArray, List.set_cons_succ, List.set_cons_zero])
        refine wpList_step (fun K hK => ?_)
        go_simp
        (try go_bits)
        refine hK _ _ ?_
        clear hK K
        refine wpList_step (fun K hK => ?_)
        go_simp
        (try go_bits)
        refine hK _ _ ?_
        clear hK K
        refine wpList_step (fun K hK => ?_)
        go_simp
        (try go_bits)
        refine hK _ _ ?_
        clear hK K
        refine wpList_step (fun K hK => ?_)
        go_simp
        have hlt8 := M5.out.lt
        have hlt9 := M6.out.lt
        have hlt10 := M7.out.lt
        have hlt11 := M9.out.lt
        have kq := M5.out.alloc (.cells (#[.int .u64 0, .int .u64 0, .int .u64 0, .int .u64 0] : Array Value) 36); clear M5; have M5 := Lib.hid kq; clear kq
        have kq := M6.out.alloc (.cells (#[.int .u64 0, .int .u64 0, .int .u64 0, .int .u64 0] : Array Value) 36); clear M6; have M6 := Lib.hid kq; clear kq
        have kq := M7.out.alloc (.cells (#[.int .u64 0, .int .u64 0, .int .u64 0, .int .u64 0] : Array Value) 36); clear M7; have M7 := Lib.hid kq; clear kq
        have kq := M9.out.alloc (.cells (#[.int .u64 0, .int .u64 0, .int .u64 0, .int .u64 0] : Array Value) 36); clear M9; have M9 := Lib.hid kq; clear kq
        have M11 := Lib.hid (HasN.new u4 (#[.int .u64 0, .int .u64 0, .int .u64 0, .int .u64 0] : Array Value) 36 4 rfl)
        have hsz := HB.out.size
        have hBq := HB.out.alloc hsz (.cells (#[.int .u64 0, .int .u64 0, .int .u64 0, .int .u64 0] : Array Value) 36); clear HB; have HB := Lib.hid hBq; clear hBq
        refine hK _ _ ?_
        clear hK K
        first | (obtain ⟨Z, hZ, mZ⟩ := M11.out) | (obtain ⟨Z, hZ, mZ⟩ := M11.out.toN (e4_size _))
        clear M11
        have hZ' := Lib.hid hZ; clear hZ
        have mZ' := Lib.hid mZ; clear mZ
        refine wpList_store_row rfl 36 _ _ rfl (u4.heap.size) _ rfl rfl 36 Z mZ'.out (by rw [e4_size]; kernel_rfl) (hZ'.out.trans (e4_size _).symm) (row_one _ _ _) ?_
        (try simp only [Act.put, List.setIfInBounds_toArray, List.set_cons_succ, List.set_cons_zero])
        have kq := M5.out.setRow_other (u4.heap.size) (e4 m3) (by omega); clear M5; have M5 := Lib.hid kq; clear kq
        have kq := M6.out.setRow_other (u4.heap.size) (e4 m3) (by omega); clear M6; have M6 := Lib.hid kq; clear kq
        have kq := M7.out.setRow_other (u4.heap.size) (e4 m3) (by omega); clear M7; have M7 := Lib.hid kq; clear kq
        have kq := M9.out.setRow_other (u4.heap.size) (e4 m3) (by omega); clear M9; have M9 := Lib.hid kq; clear kq
        have M11 := Lib.hid (mZ'.out.setRow (e4 m3))
        clear mZ' hZ'
        have hBq := below_setRow HB.out (u4.heap.size) (e4 m3) (by omega); clear HB; have HB := Lib.hid hBq; clear hBq
        refine wpList_step (fun K hK => ?_)
        go_simp
        (try go_bits)
        refine hK _ _ ?_
        clear hK K
        refine wpList_nil ?_
        clear hq3r hm3r
        repeat ((fail_if_success (with_reducible (show wpList _ _ _ _ _ _))); go_step)
        obtain ⟨z1, hz1⟩ : ∃ z, z = decide (A1 = 0) := ⟨_, rfl⟩
        obtain ⟨z2, hz2⟩ : ∃ z, z = decide (A2 = 0) := ⟨_, rfl⟩
        have Z1 := Lib.hid hz1; clear hz1
        have Z2 := Lib.hid hz2; clear hz2
        cases z1
        · have hF := both_zero A1 A2 b false false false z2 HAl1.out HAl2.out O1.out.symm O2.out.symm Z1.out Z2.out Hb.out
          have hIz := fun w => is_zero2 a1 Hal1.out false (by rw [← HA1.out, Nat.zero_mod]; exact Z1.out) w
          have hIy := fun w => is_zero2 a2 Hal2.out z2 (by rw [← HA2.out, Nat.zero_mod]; exact Z2.out) w
          have HF := Lib.hid hF; clear hF
          have HIz := Lib.hid hIz; clear hIz
          have HIy := Lib.hid hIy; clear hIy
          refine wpList_load (by rfl) 36 _ rfl (B5) rfl 36 (e4 a1) M5.out Try.underlying36 rfl (by rw [e4_size]; kernel_rfl) 59 rfl ?_
          (try simp only [Act.put, List.setIfInBounds_toArray, List.set_cons_succ, List.set_cons_zero])
          refine wpList_step (fun K hK => ?_)
          go_simp
          (try go_bits)
          refine hK _ _ ?_
          clear hK K
          refine wpList_call (by rfl) rfl rfl (by rfl) ent41 (by rfl) (HIz.out _) 61 rfl ?_
          rintro e u5 ⟨rfl, hb⟩
          have kq := M5.out.call hb; clear M5; have M5 := Lib.hid kq; clear kq
          have kq := M6.out.call hb; clear M6; have M6 := Lib.hid kq; clear kq
          have kq := M7.out.call hb; clear M7; have M7 := Lib.hid kq; clear kq
          have kq := M9.out.call hb; clear M9; have M9 := Lib.hid kq; clear kq
          have kq := M11.out.call hb; clear M11; have M11 := Lib.hid kq; clear kq
          have hBq := held_next HB.out hb; clear HB; have HB := Lib.hid hBq; clear hBq
          refine ⟨_, rfl, ?_⟩
          clear hb
          (try simp only [Act.put, List.setIfInBounds_toArray, List.set_cons_succ, List.set_cons_zero])
          refine wpList_step (fun K hK => ?_)
          go_simp
          (try go_bits)
          refine hK _ _ ?_
          clear hK K
          refine wpList_load (by rfl) 36 _ rfl (B6) rfl 36 (e4 a2) M6.out Try.underlying36 rfl (by rw [e4_size]; kernel_rfl) 63 rfl ?_
          (try simp only [Act.put, List.setIfInBounds_toArray, List.set_cons_succ, List.set_cons_zero])
          refine wpList_step (fun K hK => ?_)
          go_simp
          (try go_bits)
          refine hK _ _ ?_
          clear hK K
          refine wpList_call (by rfl) rfl rfl (by rfl) ent41 (by rfl) (HIy.out _) 65 rfl ?_
          rintro e u6 ⟨rfl, hb⟩
          have kq := M5.out.call hb; clear M5; have M5 := Lib.hid kq; clear kq
          have kq := M6.out.call hb; clear M6; have M6 := Lib.hid kq; clear kq
          have kq := M7.out.call hb; clear M7; have M7 := Lib.hid kq; clear kq
          have kq := M9.out.call hb; clear M9; have M9 := Lib.hid kq; clear kq
          have kq := M11.out.call hb; clear M11; have M11 := Lib.hid kq; clear kq
          have hBq := held_next HB.out hb; clear HB; have HB := Lib.hid hBq; clear hBq
          refine ⟨_, rfl, ?_⟩
          clear hb
          (try simp only [Act.put, List.setIfInBounds_toArray, List.set_cons_succ, List.set_cons_zero])
          refine wpList_step (fun K hK => ?_)
          go_simp
          (try go_bits)
          refine hK _ _ ?_
          clear hK K
          refine wpList_step (fun K hK => ?_)
          go_simp
          (try go_bits)
          refine hK _ _ ?_
          clear hK K
          refine wpList_nil ?_
          cases z2
          · cases b
            · go_wp2_with fail
              go_ret
              exact ⟨by first | rfl | (have := HF.out; simp at this), HB.out⟩
            · go_wp2_with fail
              go_ret
              exact ⟨by first | rfl | (have := HF.out; simp at this), HB.out⟩
          · cases b
            · go_wp2_with fail
              go_ret
              exact ⟨by first | rfl | (have := HF.out; simp at this), HB.out⟩
            · go_wp2_with fail
              go_ret
              exact ⟨by first | rfl | (have := HF.out; simp at this), HB.out⟩
        · have hF := both_zero A1 A2 b false false true z2 HAl1.out HAl2.out O1.out.symm O2.out.symm Z1.out Z2.out Hb.out
          have hIz := fun w => is_zero2 a1 Hal1.out true (by rw [← HA1.out, Nat.zero_mod]; exact Z1.out) w
          have HF := Lib.hid hF; clear hF
          have HIz := Lib.hid hIz; clear hIz
          refine wpList_load (by rfl) 36 _ rfl (B5) rfl 36 (e4 a1) M5.out Try.underlying36 rfl (by rw [e4_size]; kernel_rfl) 59 rfl ?_
          (try simp only [Act.put, List.setIfInBounds_toArray, List.set_cons_succ, List.set_cons_zero])
          refine wpList_step (fun K hK => ?_)
          go_simp
          (try go_bits)
          refine hK _ _ ?_
          clear hK K
          refine wpList_call (by rfl) rfl rfl (by rfl) ent41 (by rfl) (HIz.out _) 61 rfl ?_
          rintro e u5 ⟨rfl, hb⟩
          have kq := M5.out.call hb; clear M5; have M5 := Lib.hid kq; clear kq
          have kq := M6.out.call hb; clear M6; have M6 := Lib.hid kq; clear kq
          have kq := M7.out.call hb; clear M7; have M7 := Lib.hid kq; clear kq
          have kq := M9.out.call hb; clear M9; have M9 := Lib.hid kq; clear kq
          have kq := M11.out.call hb; clear M11; have M11 := Lib.hid kq; clear kq
          have hBq := held_next HB.out hb; clear HB; have HB := Lib.hid hBq; clear hBq
          refine ⟨_, rfl, ?_⟩
          clear hb
          (try simp only [Act.put, List.setIfInBounds_toArray, List.set_cons_succ, List.set_cons_zero])
          refine wpList_step (fun K hK => ?_)
          go_simp
          (try go_bits)
          refine hK _ _ ?_
          clear hK K
          refine wpList_step (fun K hK => ?_)
          go_simp
          (try go_bits)
          refine hK _ _ ?_
          clear hK K
          refine wpList_step (fun K hK => ?_)
          go_simp
          (try go_bits)
          refine hK _ _ ?_
          clear hK K
          refine wpList_step (fun K hK => ?_)
          go_simp
          (try go_bits)
          refine hK _ _ ?_
          clear hK K
          refine wpList_step (fun K hK => ?_)
          go_simp
          (try go_bits)
          refine hK _ _ ?_
          clear hK K
          refine wpList_step (fun K hK => ?_)
          go_simp
          (try go_bits)
          refine hK _ _ ?_
          clear hK K
          refine wpList_nil ?_
          cases b
          · go_wp2_with fail
            go_ret
            exact ⟨by first | rfl | (have := HF.out; simp at this), HB.out⟩
          · go_wp2_with fail
            go_ret
            exact ⟨by first | rfl | (have := HF.out; simp at this), HB.out⟩
      · refine wp_region_noPanic ?_
        refine wp_region_go 99 24 #[false, false, false, false, false, false, false, false, false, false, false, false, false, false, false, false, false, false, false, false, false, false, false, false] (by kernel_rfl) rfl rfl ?_
        intro W7 hW7
        have kq := M5.out; rw [← hW7] at kq; clear M5; have M5 := Lib.hid kq; clear kq
        have kq := M6.out; rw [← hW7] at kq; clear M6; have M6 := Lib.hid kq; clear kq
        have kq := M7.out; rw [← hW7] at kq; clear M7; have M7 := Lib.hid kq; clear kq
        have kq := M9.out; rw [← hW7] at kq; clear M9; have M9 := Lib.hid kq; clear kq
        have kq := HB.out; rw [← hW7] at kq; clear HB; have HB := Lib.hid kq; clear kq
        clear hW7
        refine wpBut_r1 (i := 0) (by kernel_rfl) ?_
        refine go_call 0 28 #[true, false, false, false, false, false, false, false, false, false, false, false, false, false, false, false, false, false, false, false, false, false, false, false] rfl rfl rfl (by rfl) rfl rfl (by rfl) ent28 (by rfl) (Hal.out _) ?_
        rintro e wW71 ⟨rfl, hb⟩
        have hkW71 := held_next (show Below W7.heap.size W7 W7.drew from (Below.refl _ _).drew) hb
        refine ⟨_, rfl, fun _ => hkW71, ?_⟩
        clear hb
        (try simp only [List.setIfInBounds_toArray, List.set_cons_succ, List.set_cons_zero])
        refine go_take 1 29 #[true, true, false, false, false, false, false, false, false, false, false, false, false, false, false, false, false, false, false, false, false, false, false, false] (v := ?uv12) rfl rfl rfl (by kernel_rfl) (by kernel_rfl) (by kernel_rfl) (by kernel_rfl) (by kernel_rfl) (Or.inl ⟨by rfl, ?uy12⟩) (hkW71) ?urest12
        case uy12 => (intro _ _; go_simp; try with_reducible rfl)
        (try simp only [List.setIfInBounds_toArray, List.set_cons_succ, List.set_cons_zero])
        refine go_take 2 30 #[true, true, true, false, false, false, false, false, false, false, false, false, false, false, false, false, false, false, false, false, false, false, false, false] (v := ?uv13) rfl rfl rfl (by kernel_rfl) (by kernel_rfl) (by kernel_rfl) (by kernel_rfl) (by kernel_rfl) (Or.inl ⟨by rfl, ?uy13⟩) (hkW71) ?urest13
        case uy13 => (intro _ _; go_simp; try with_reducible rfl)
        (try simp only [List.setIfInBounds_toArray, List.set_cons_succ, List.set_cons_zero])
        refine go_take 3 31 #[true, true, true, true, false, false, false, false, false, false, false, false, false, false, false, false, false, false, false, false, false, false, false, false] (v := ?uv14) rfl rfl rfl (by kernel_rfl) (by kernel_rfl) (by kernel_rfl) (by kernel_rfl) (by kernel_rfl) (Or.inl ⟨by rfl, ?uy14⟩) (hkW71) ?urest14
        case uy14 => (intro _ _; go_simp; try with_reducible rfl)
        (try simp only [List.setIfInBounds_toArray, List.set_cons_succ, List.set_cons_zero])
        refine go_take 4 32 #[true, true, true, true, true, false, false, false, false, false, false, false, false, false, false, false, false, false, false, false, false, false, false, false] (v := ?uv15) rfl rfl rfl (by kernel_rfl) (by kernel_rfl) (by kernel_rfl) (by kernel_rfl) (by kernel_rfl) (Or.inl ⟨by rfl, ?uy15⟩) (hkW71) ?urest15
        case uy15 => (intro _ _; go_simp; try with_reducible rfl)
        (try simp only [List.setIfInBounds_toArray, List.set_cons_succ, List.set_cons_zero])
        refine go_take 5 33 #[true, true, true, true, true, true, false, false, false, false, false, false, false, false, false, false, false, false, false, false, false, false, false, false] (v := undef) rfl rfl rfl (by kernel_rfl) (by kernel_rfl) (by kernel_rfl) (by kernel_rfl) (by kernel_rfl) (Or.inr ⟨by rfl, rfl⟩) (hkW71) ?_
        (try simp only [List.setIfInBounds_toArray, List.set_cons_succ, List.set_cons_zero])
        refine go_take 6 34 #[true, true, true, true, true, true, true, false, false, false, false, false, false, false, false, false, false, false, false, false, false, false, false, false] (v := undef) rfl rfl rfl (by kernel_rfl) (by kernel_rfl) (by kernel_rfl) (by kernel_rfl) (by kernel_rfl) (Or.inr ⟨by rfl, rfl⟩) (hkW71) ?_
        (try simp only [List.setIfInBounds_toArray, List.set_cons_succ, List.set_cons_zero])
        refine go_take 7 35 #[true, true, true, true, true, true, true, true, false, false, false, false, false, false, false, false, false, false, false, false, false, false, false, false] (v := undef) rfl rfl rfl (by kernel_rfl) (by kernel_rfl) (by kernel_rfl) (by kernel_rfl) (by kernel_rfl) (Or.inr ⟨by rfl, rfl⟩) (hkW71) ?_
        (try simp only [List.setIfInBounds_toArray, List.set_cons_succ, List.set_cons_zero])
        refine go_take 8 36 #[true, true, true, true, true, true, true, true, true, false, false, false, false, false, false, false, false, false, false, false, false, false, false, false] (v := undef) rfl rfl rfl (by kernel_rfl) (by kernel_rfl) (by kernel_rfl) (by kernel_rfl) (by kernel_rfl) (Or.inr ⟨by rfl, rfl⟩) (hkW71) ?_
        (try simp only [List.setIfInBounds_toArray, List.set_cons_succ, List.set_cons_zero])
        refine go_take 9 37 #[true, true, true, true, true, true, true, true, true, true, false, false, false, false, false, false, false, false, false, false, false, false, false, false] (v := undef) rfl rfl rfl (by kernel_rfl) (by kernel_rfl) (by kernel_rfl) (by kernel_rfl) (by kernel_rfl) (Or.inr ⟨by rfl, rfl⟩) (hkW71) ?_
        (try simp only [List.setIfInBounds_toArray, List.set_cons_succ, List.set_cons_zero])
        refine go_take 10 38 #[true, true, true, true, true, true, true, true, true, true, true, false, false, false, false, false, false, false, false, false, false, false, false, false] (v := undef) rfl rfl rfl (by kernel_rfl) (by kernel_rfl) (by kernel_rfl) (by kernel_rfl) (by kernel_rfl) (Or.inr ⟨by rfl, rfl⟩) (hkW71) ?_
        (try simp only [List.setIfInBounds_toArray, List.set_cons_succ, List.set_cons_zero])
        refine go_take 11 39 #[true, true, true, true, true, true, true, true, true, true, true, true, false, false, false, false, false, false, false, false, false, false, false, false] (v := ?uv16) rfl rfl rfl (by kernel_rfl) (by kernel_rfl) (by kernel_rfl) (by kernel_rfl) (by kernel_rfl) (Or.inl ⟨by rfl, ?uy16⟩) (hkW71) ?urest16
        case uy16 => (intro _ _; go_simp; try with_reducible rfl)
        (try simp only [List.setIfInBounds_toArray, List.set_cons_succ, List.set_cons_zero])
        refine go_take 12 40 #[true, true, true, true, true, true, true, true, true, true, true, true, true, false, false, false, false, false, false, false, false, false, false, false] (v := ?uv17) rfl rfl rfl (by kernel_rfl) (by kernel_rfl) (by kernel_rfl) (by kernel_rfl) (by kernel_rfl) (Or.inl ⟨by rfl, ?uy17⟩) (hkW71) ?urest17
        case uy17 => (intro _ _; go_simp; try with_reducible rfl)
        (try simp only [List.setIfInBounds_toArray, List.set_cons_succ, List.set_cons_zero])
        refine go_take 13 41 #[true, true, true, true, true, true, true, true, true, true, true, true, true, true, false, false, false, false, false, false, false, false, false, false] (v := ?uv18) rfl rfl rfl (by kernel_rfl) (by kernel_rfl) (by kernel_rfl) (by kernel_rfl) (by kernel_rfl) (Or.inl ⟨by rfl, ?uy18⟩) (hkW71) ?urest18
        case uy18 => (intro _ _; go_simp; try with_reducible rfl)
        (try simp only [List.setIfInBounds_toArray, List.set_cons_succ, List.set_cons_zero])
        refine go_take 14 42 #[true, true, true, true, true, true, true, true, true, true, true, true, true, true, true, false, false, false, false, false, false, false, false, false] (v := ?uv19) rfl rfl rfl (by kernel_rfl) (by kernel_rfl) (by kernel_rfl) (by kernel_rfl) (by kernel_rfl) (Or.inl ⟨by rfl, ?uy19⟩) (hkW71) ?urest19
        case uy19 => (intro _ _; go_simp; try with_reducible rfl)
        (try simp only [List.setIfInBounds_toArray, List.set_cons_succ, List.set_cons_zero])
        refine go_take 15 43 #[true, true, true, true, true, true, true, true, true, true, true, true, true, true, true, true, false, false, false, false, false, false, false, false] (v := ?uv20) rfl rfl rfl (by kernel_rfl) (by kernel_rfl) (by kernel_rfl) (by kernel_rfl) (by kernel_rfl) (Or.inl ⟨by rfl, ?uy20⟩) (hkW71) ?urest20
        case uy20 => (intro _ _; go_simp; try with_reducible rfl)
        (try simp only [List.setIfInBounds_toArray, List.set_cons_succ, List.set_cons_zero])
        refine go_take 16 44 #[true, true, true, true, true, true, true, true, true, true, true, true, true, true, true, true, true, false, false, false, false, false, false, false] rfl rfl rfl (by kernel_rfl) (by kernel_rfl) (by kernel_rfl) (by kernel_rfl) (by kernel_rfl) (yieldsIf_load_row (by rfl) 36 _ rfl (u2.heap.size) rfl 36 (e4 m2) (fun _ h => M9.out.below h M9.out.lt) Try.underlying36 rfl (by rw [e4_size]; kernel_rfl)) (hkW71) ?_
        (try simp only [List.setIfInBounds_toArray, List.set_cons_succ, List.set_cons_zero])
        refine go_take 17 45 #[true, true, true, true, true, true, true, true, true, true, true, true, true, true, true, true, true, true, false, false, false, false, false, false] rfl rfl rfl (by kernel_rfl) (by kernel_rfl) (by kernel_rfl) (by kernel_rfl) (by kernel_rfl) (yieldsIf_load_row (by rfl) 36 _ rfl (u2.heap.size) rfl 36 (e4 m2) (fun _ h => M9.out.below h M9.out.lt) Try.underlying36 rfl (by rw [e4_size]; kernel_rfl)) (hkW71) ?_
        (try simp only [List.setIfInBounds_toArray, List.set_cons_succ, List.set_cons_zero])
        refine go_take 19 47 #[true, true, true, true, true, true, true, true, true, true, true, true, true, true, true, true, true, true, false, true, false, false, false, false] rfl rfl rfl (by kernel_rfl) (by kernel_rfl) (by kernel_rfl) (by kernel_rfl) (by kernel_rfl) (yieldsIf_load_row (by rfl) 36 _ rfl (B6) rfl 36 (e4 a2) (fun _ h => M6.out.below h M6.out.lt) Try.underlying36 rfl (by rw [e4_size]; kernel_rfl)) (hkW71) ?_
        (try simp only [List.setIfInBounds_toArray, List.set_cons_succ, List.set_cons_zero])
        refine wpBut_r1 (i := 18) (by kernel_rfl) ?_
        refine go_call 18 46 #[true, true, true, true, true, true, true, true, true, true, true, true, true, true, true, true, true, true, true, true, false, false, false, false] rfl rfl rfl (by rfl) rfl rfl (by rfl) ent31 (by rfl) (Ht.out m2 m2 hm2 hm2 _) ?_
        rintro e wW72 ⟨q2, hq2, hq2r, rfl, hb⟩
        have hkW72 := held_next hkW71 hb
        refine ⟨_, rfl, fun _ => hkW72, ?_⟩
        clear hb
        (try simp only [List.setIfInBounds_toArray, List.set_cons_succ, List.set_cons_zero])
        refine wpBut_r1 (i := 20) (by kernel_rfl) ?_
        refine go_call 20 48 #[true, true, true, true, true, true, true, true, true, true, true, true, true, true, true, true, true, true, true, true, true, false, false, false] rfl rfl rfl (by rfl) rfl rfl (by rfl) ent41 (by rfl) (Hyes.out q2 a2 hq2 Hal2.out (sq_back a2 A2 m2 q2 HA2.out O2.out Hm2r.out hq2r) _) ?_
        rintro e wW73 ⟨rfl, hb⟩
        have hkW73 := held_next hkW72 hb
        refine ⟨_, rfl, fun _ => hkW73, ?_⟩
        clear hb
        (try simp only [List.setIfInBounds_toArray, List.set_cons_succ, List.set_cons_zero])
        refine go_take 21 49 #[true, true, true, true, true, true, true, true, true, true, true, true, true, true, true, true, true, true, true, true, true, true, false, false] (v := ?uv21) rfl rfl rfl (by kernel_rfl) (by kernel_rfl) (by kernel_rfl) (by kernel_rfl) (by kernel_rfl) (Or.inl ⟨by rfl, ?uy21⟩) (hkW73) ?urest21
        case uy21 => (intro _ _; go_simp; try with_reducible rfl)
        (try simp only [List.setIfInBounds_toArray, List.set_cons_succ, List.set_cons_zero])
        refine go_take 22 50 #[true, true, true, true, true, true, true, true, true, true, true, true, true, true, true, true, true, true, true, true, true, true, true, false] (v := ?uv22) rfl rfl rfl (by kernel_rfl) (by kernel_rfl) (by kernel_rfl) (by kernel_rfl) (by kernel_rfl) (Or.inl ⟨by rfl, ?uy22⟩) (hkW73) ?urest22
        case uy22 => (intro _ _; go_simp; try with_reducible rfl)
        (try simp only [List.setIfInBounds_toArray, List.set_cons_succ, List.set_cons_zero])
        refine go_take 23 51 #[true, true, true, true, true, true, true, true, true, true, true, true, true, true, true, true, true, true, true, true, true, true, true, true] (v := ?uv23) rfl rfl rfl (by kernel_rfl) (by kernel_rfl) (by kernel_rfl) (by kernel_rfl) (by kernel_rfl) (Or.inl ⟨by rfl, ?uy23⟩) (hkW73) ?urest23
        case uy23 => (intro _ _; go_simp; try with_reducible rfl)
        (try simp only [List.setIfInBounds_toArray, List.set_cons_succ, List.set_cons_zero])
        refine wpBut_done (by kernel_rfl) (NoPanic.normal ?_)
        have kq := M5.out.call hkW73; clear M5; have M5 := Lib.hid kq; clear kq
        have kq := M6.out.call hkW73; clear M6; have M6 := Lib.hid kq; clear kq
        have kq := M7.out.call hkW73; clear M7; have M7 := Lib.hid kq; clear kq
        have kq := M9.out.call hkW73; clear M9; have M9 := Lib.hid kq; clear kq
        have hBq := held_next HB.out hkW73; clear HB; have HB := Lib.hid hBq; clear hBq
        repeat ((fail_if_success (with_reducible (show wpList _ _ _ _ _ _))); go_step)
        refine wpList_load (by rfl) 36 _ rfl (B5) rfl 36 (e4 a1) M5.out Try.underlying36 rfl (by rw [e4_size]; kernel_rfl) 53 rfl ?_
        (try simp only [Act.put, List.setIfInBounds_toArray, List.set_cons_succ, List.set_cons_zero])
        refine wpList_load (by rfl) 36 _ rfl (B6) rfl 36 (e4 a2) M6.out Try.underlying36 rfl (by rw [e4_size]; kernel_rfl) 54 rfl ?_
        (try simp only [Act.put, List.setIfInBounds_toArray, List.set_cons_succ, List.set_cons_zero])
        refine wpList_call (by rfl) rfl rfl (by rfl) ent31 (by rfl) (Ht.out a1 a2 Hal1.out Hal2.out _) 55 rfl ?_
        rintro e u3 ⟨q3, hq3, hq3r, rfl, hb⟩
        have kq := M5.out.call hb; clear M5; have M5 := Lib.hid kq; clear kq
        have kq := M6.out.call hb; clear M6; have M6 := Lib.hid kq; clear kq
        have kq := M7.out.call hb; clear M7; have M7 := Lib.hid kq; clear kq
        have kq := M9.out.call hb; clear M9; have M9 := Lib.hid kq; clear kq
        have hBq := held_next HB.out hb; clear HB; have HB := Lib.hid hBq; clear hBq
        refine ⟨_, rfl, ?_⟩
        clear hb
        (try simp only [Act.put, List.setIfInBounds_toArray, List.set_cons_succ, List.set_cons_zero])
        refine wpList_call (by rfl) rfl rfl (by rfl) ent44 (by rfl) (Hrb.out q3 hq3 (by rw [hq3r, HA1.out, HA2.out, ← Nat.mul_mod]) _) 56 rfl ?_
        rintro e u4 ⟨m3, hm3, hm3r, rfl, hb⟩
        have kq := M5.out.call hb; clear M5; have M5 := Lib.hid kq; clear kq
        have kq := M6.out.call hb; clear M6; have M6 := Lib.hid kq; clear kq
        have kq := M7.out.call hb; clear M7; have M7 := Lib.hid kq; clear kq
        have kq := M9.out.call hb; clear M9; have M9 := Lib.hid kq; clear kq
        have hBq := held_next HB.out hb; clear HB; have HB := Lib.hid hBq; clear hBq
        refine ⟨_, rfl, ?_⟩
        clear hb
        (try simp only [Act.put, List.setIfInBounds_toArray, List.set_cons_succ, List.set_cons_zero])
        refine wpList_step (fun K hK => ?_)
        go_simp
        (try go_bits)
        refine hK _ _ ?_
        clear hK K
        refine wpList_step (fun K hK => ?_)
        go_simp
        (try go_bits)
        refine hK _ _ ?_
        clear hK K
        refine wpList_step (fun K hK => ?_)
        go_simp
        (try go_bits)
        refine hK _ _ ?_
        clear hK K
        refine wpList_step (fun K hK => ?_)
        go_simp
        have hlt8 := M5.out.lt
        have hlt9 := M6.out.lt
        have hlt10 := M7.out.lt
        have hlt11 := M9.out.lt
        have kq := M5.out.alloc (.cells (#[.int .u64 0, .int .u64 0, .int .u64 0, .int .u64 0] : Array Value) 36); clear M5; have M5 := Lib.hid kq; clear kq
        have kq := M6.out.alloc (.cells (#[.int .u64 0, .int .u64 0, .int .u64 0, .int .u64 0] : Array Value) 36); clear M6; have M6 := Lib.hid kq; clear kq
        have kq := M7.out.alloc (.cells (#[.int .u64 0, .int .u64 0, .int .u64 0, .int .u64 0] : Array Value) 36); clear M7; have M7 := Lib.hid kq; clear kq
        have kq := M9.out.alloc (.cells (#[.int .u64 0, .int .u64 0, .int .u64 0, .int .u64 0] : Array Value) 36); clear M9; have M9 := Lib.hid kq; clear kq
        have M11 := Lib.hid (HasN.new u4 (#[.int .u64 0, .int .u64 0, .int .u64 0, .int .u64 0] : Array Value) 36 4 rfl)
        have hsz := HB.out.size
        have hBq := HB.out.alloc hsz (.cells (#[.int .u64 0, .int .u64 0, .int .u64 0, .int .u64 0] : Array Value) 36); clear HB; have HB := Lib.hid hBq; clear hBq
        refine hK _ _ ?_
        clear hK K
        first | (obtain ⟨Z, hZ, mZ⟩ := M11.out) | (obtain ⟨Z, hZ, mZ⟩ := M11.out.toN (e4_size _))
        clear M11
        have hZ' := Lib.hid hZ; clear hZ
        have mZ' := Lib.hid mZ; clear mZ
        refine wpList_store_row rfl 36 _ _ rfl (u4.heap.size) _ rfl rfl 36 Z mZ'.out (by rw [e4_size]; kernel_rfl) (hZ'.out.trans (e4_size _).symm) (row_one _ _ _) ?_
        (try simp only [Act.put, List.setIfInBounds_toArray, List.set_cons_succ, List.set_cons_zero])
        have kq := M5.out.setRow_other (u4.heap.size) (e4 m3) (by omega); clear M5; have M5 := Lib.hid kq; clear kq
        have kq := M6.out.setRow_other (u4.heap.size) (e4 m3) (by omega); clear M6; have M6 := Lib.hid kq; clear kq
        have kq := M7.out.setRow_other (u4.heap.size) (e4 m3) (by omega); clear M7; have M7 := Lib.hid kq; clear kq
        have kq := M9.out.setRow_other (u4.heap.size) (e4 m3) (by omega); clear M9; have M9 := Lib.hid kq; clear kq
        have M11 := Lib.hid (mZ'.out.setRow (e4 m3))
        clear mZ' hZ'
        have hBq := below_setRow HB.out (u4.heap.size) (e4 m3) (by omega); clear HB; have HB := Lib.hid hBq; clear hBq
        refine wpList_step (fun K hK => ?_)
        go_simp
        (try go_bits)
        refine hK _ _ ?_
        clear hK K
        refine wpList_nil ?_
        clear hq3r hm3r
        repeat ((fail_if_success (with_reducible (show wpList _ _ _ _ _ _))); go_step)
        obtain ⟨z1, hz1⟩ : ∃ z, z = decide (A1 = 0) := ⟨_, rfl⟩
        obtain ⟨z2, hz2⟩ : ∃ z, z = decide (A2 = 0) := ⟨_, rfl⟩
        have Z1 := Lib.hid hz1; clear hz1
        have Z2 := Lib.hid hz2; clear hz2
        cases z1
        · have hF := both_zero A1 A2 b false true false z2 HAl1.out HAl2.out O1.out.symm O2.out.symm Z1.out Z2.out Hb.out
          have hIz := fun w => is_zero2 a1 Hal1.out false (by rw [← HA1.out, Nat.zero_mod]; exact Z1.out) w
          have hIy := fun w => is_zero2 a2 Hal2.out z2 (by rw [← HA2.out, Nat.zero_mod]; exact Z2.out) w
          have HF := Lib.hid hF; clear hF
          have HIz := Lib.hid hIz; clear hIz
          have HIy := Lib.hid hIy; clear hIy
          refine wpList_load (by rfl) 36 _ rfl (B5) rfl 36 (e4 a1) M5.out Try.underlying36 rfl (by rw [e4_size]; kernel_rfl) 59 rfl ?_
          (try simp only [Act.put, List.setIfInBounds_toArray, List.set_cons_succ, List.set_cons_zero])
          refine wpList_step (fun K hK => ?_)
          go_simp
          (try go_bits)
          refine hK _ _ ?_
          clear hK K
          refine wpList_call (by rfl) rfl rfl (by rfl) ent41 (by rfl) (HIz.out _) 61 rfl ?_
          rintro e u5 ⟨rfl, hb⟩
          have kq := M5.out.call hb; clear M5; have M5 := Lib.hid kq; clear kq
          have kq := M6.out.call hb; clear M6; have M6 := Lib.hid kq; clear kq
          have kq := M7.out.call hb; clear M7; have M7 := Lib.hid kq; clear kq
          have kq := M9.out.call hb; clear M9; have M9 := Lib.hid kq; clear kq
          have kq := M11.out.call hb; clear M11; have M11 := Lib.hid kq; clear kq
          have hBq := held_next HB.out hb; clear HB; have HB := Lib.hid hBq; clear hBq
          refine ⟨_, rfl, ?_⟩
          clear hb
          (try simp only [Act.put, List.setIfInBounds_toArray, List.set_cons_succ, List.set_cons_zero])
          refine wpList_step (fun K hK => ?_)
          go_simp
          (try go_bits)
          refine hK _ _ ?_
          clear hK K
          refine wpList_load (by rfl) 36 _ rfl (B6) rfl 36 (e4 a2) M6.out Try.underlying36 rfl (by rw [e4_size]; kernel_rfl) 63 rfl ?_
          (try simp only [Act.put, List.setIfInBounds_toArray, List.set_cons_succ, List.set_cons_zero])
          refine wpList_step (fun K hK => ?_)
          go_simp
          (try go_bits)
          refine hK _ _ ?_
          clear hK K
          refine wpList_call (by rfl) rfl rfl (by rfl) ent41 (by rfl) (HIy.out _) 65 rfl ?_
          rintro e u6 ⟨rfl, hb⟩
          have kq := M5.out.call hb; clear M5; have M5 := Lib.hid kq; clear kq
          have kq := M6.out.call hb; clear M6; have M6 := Lib.hid kq; clear kq
          have kq := M7.out.call hb; clear M7; have M7 := Lib.hid kq; clear kq
          have kq := M9.out.call hb; clear M9; have M9 := Lib.hid kq; clear kq
          have kq := M11.out.call hb; clear M11; have M11 := Lib.hid kq; clear kq
          have hBq := held_next HB.out hb; clear HB; have HB := Lib.hid hBq; clear hBq
          refine ⟨_, rfl, ?_⟩
          clear hb
          (try simp only [Act.put, List.setIfInBounds_toArray, List.set_cons_succ, List.set_cons_zero])
          refine wpList_step (fun K hK => ?_)
          go_simp
          (try go_bits)
          refine hK _ _ ?_
          clear hK K
          refine wpList_step (fun K hK => ?_)
          go_simp
          (try go_bits)
          refine hK _ _ ?_
          clear hK K
          refine wpList_nil ?_
          cases z2
          · cases b
            · go_wp2_with fail
              go_ret
              exact ⟨by first | rfl | (have := HF.out; simp at this), HB.out⟩
            · go_wp2_with fail
              go_ret
              exact ⟨by first | rfl | (have := HF.out; simp at this), HB.out⟩
          · cases b
            · go_wp2_with fail
              go_ret
              exact ⟨by first | rfl | (have := HF.out; simp at this), HB.out⟩
            · go_wp2_with fail
              go_ret
              exact ⟨by first | rfl | (have := HF.out; simp at this), HB.out⟩
        · have hF := both_zero A1 A2 b false true true z2 HAl1.out HAl2.out O1.out.symm O2.out.symm Z1.out Z2.out Hb.out
          have hIz := fun w => is_zero2 a1 Hal1.out true (by rw [← HA1.out, Nat.zero_mod]; exact Z1.out) w
          have HF := Lib.hid hF; clear hF
          have HIz := Lib.hid hIz; clear hIz
          refine wpList_load (by rfl) 36 _ rfl (B5) rfl 36 (e4 a1) M5.out Try.underlying36 rfl (by rw [e4_size]; kernel_rfl) 59 rfl ?_
          (try simp only [Act.put, List.setIfInBounds_toArray, List.set_cons_succ, List.set_cons_zero])
          refine wpList_step (fun K hK => ?_)
          go_simp
          (try go_bits)
          refine hK _ _ ?_
          clear hK K
          refine wpList_call (by rfl) rfl rfl (by rfl) ent41 (by rfl) (HIz.out _) 61 rfl ?_
          rintro e u5 ⟨rfl, hb⟩
          have kq := M5.out.call hb; clear M5; have M5 := Lib.hid kq; clear kq
          have kq := M6.out.call hb; clear M6; have M6 := Lib.hid kq; clear kq
          have kq := M7.out.call hb; clear M7; have M7 := Lib.hid kq; clear kq
          have kq := M9.out.call hb; clear M9; have M9 := Lib.hid kq; clear kq
          have kq := M11.out.call hb; clear M11; have M11 := Lib.hid kq; clear kq
          have hBq := held_next HB.out hb; clear HB; have HB := Lib.hid hBq; clear hBq
          refine ⟨_, rfl, ?_⟩
          clear hb
          (try simp only [Act.put, List.setIfInBounds_toArray, List.set_cons_succ, List.set_cons_zero])
          refine wpList_step (fun K hK => ?_)
          go_simp
          (try go_bits)
          refine hK _ _ ?_
          clear hK K
          refine wpList_step (fun K hK => ?_)
          go_simp
          (try go_bits)
          refine hK _ _ ?_
          clear hK K
          refine wpList_step (fun K hK => ?_)
          go_simp
          (try go_bits)
          refine hK _ _ ?_
          clear hK K
          refine wpList_step (fun K hK => ?_)
          go_simp
          (try go_bits)
          refine hK _ _ ?_
          clear hK K
          refine wpList_step (fun K hK => ?_)
          go_simp
          (try go_bits)
          refine hK _ _ ?_
          clear hK K
          refine wpList_step (fun K hK => ?_)
          go_simp
          (try go_bits)
          refine hK _ _ ?_
          clear hK K
          refine wpList_nil ?_
          cases b
          · go_wp2_with fail
            go_ret
            exact ⟨by first | rfl | (have := HF.out; simp at this), HB.out⟩
          · go_wp2_with fail
            go_ret
            exact ⟨by first | rfl | (have := HF.out; simp at this), HB.out⟩
    · cases o2
      · refine wp_region_noPanic ?_
        refine wp_region_go 99 24 #[false, false, false, false, false, false, false, false, false, false, false, false, false, false, false, false, false, false, false, false, false, false, false, false] (by kernel_rfl) rfl rfl ?_
        intro W7 hW7
        have kq := M5.out; rw [← hW7] at kq; clear M5; have M5 := Lib.hid kq; clear kq
        have kq := M6.out; rw [← hW7] at kq; clear M6; have M6 := Lib.hid kq; clear kq
        have kq := M7.out; rw [← hW7] at kq; clear M7; have M7 := Lib.hid kq; clear kq
        have kq := M9.out; rw [← hW7] at kq; clear M9; have M9 := Lib.hid kq; clear kq
        have kq := HB.out; rw [← hW7] at kq; clear HB; have HB := Lib.hid kq; clear kq
        clear hW7
        refine wpBut_r1 (i := 0) (by kernel_rfl) ?_
        refine go_call 0 28 #[true, false, false, false, false, false, false, false, false, false, false, false, false, false, false, false, false, false, false, false, false, false, false, false] rfl rfl rfl (by rfl) rfl rfl (by rfl) ent28 (by rfl) (Hal.out _) ?_
        rintro e wW71 ⟨rfl, hb⟩
        have hkW71 := held_next (show Below W7.heap.size W7 W7.drew from (Below.refl _ _).drew) hb
        refine ⟨_, rfl, fun _ => hkW71, ?_⟩
        clear hb
        (try simp only [List.setIfInBounds_toArray, List.set_cons_succ, List.set_cons_zero])
        refine go_take 1 29 #[true, true, false, false, false, false, false, false, false, false, false, false, false, false, false, false, false, false, false, false, false, false, false, false] (v := ?uv24) rfl rfl rfl (by kernel_rfl) (by kernel_rfl) (by kernel_rfl) (by kernel_rfl) (by kernel_rfl) (Or.inl ⟨by rfl, ?uy24⟩) (hkW71) ?urest24
        case uy24 => (intro _ _; go_simp; try with_reducible rfl)
        (try simp only [List.setIfInBounds_toArray, List.set_cons_succ, List.set_cons_zero])
        refine go_take 2 30 #[true, true, true, false, false, false, false, false, false, false, false, false, false, false, false, false, false, false, false, false, false, false, false, false] (v := ?uv25) rfl rfl rfl (by kernel_rfl) (by kernel_rfl) (by kernel_rfl) (by kernel_rfl) (by kernel_rfl) (Or.inl ⟨by rfl, ?uy25⟩) (hkW71) ?urest25
        case uy25 => (intro _ _; go_simp; try with_reducible rfl)
        (try simp only [List.setIfInBounds_toArray, List.set_cons_succ, List.set_cons_zero])
        refine go_take 3 31 #[true, true, true, true, false, false, false, false, false, false, false, false, false, false, false, false, false, false, false, false, false, false, false, false] (v := ?uv26) rfl rfl rfl (by kernel_rfl) (by kernel_rfl) (by kernel_rfl) (by kernel_rfl) (by kernel_rfl) (Or.inl ⟨by rfl, ?uy26⟩) (hkW71) ?urest26
        case uy26 => (intro _ _; go_simp; try with_reducible rfl)
        (try simp only [List.setIfInBounds_toArray, List.set_cons_succ, List.set_cons_zero])
        refine go_take 4 32 #[true, true, true, true, true, false, false, false, false, false, false, false, false, false, false, false, false, false, false, false, false, false, false, false] (v := ?uv27) rfl rfl rfl (by kernel_rfl) (by kernel_rfl) (by kernel_rfl) (by kernel_rfl) (by kernel_rfl) (Or.inl ⟨by rfl, ?uy27⟩) (hkW71) ?urest27
        case uy27 => (intro _ _; go_simp; try with_reducible rfl)
        (try simp only [List.setIfInBounds_toArray, List.set_cons_succ, List.set_cons_zero])
        refine go_take 5 33 #[true, true, true, true, true, true, false, false, false, false, false, false, false, false, false, false, false, false, false, false, false, false, false, false] rfl rfl rfl (by kernel_rfl) (by kernel_rfl) (by kernel_rfl) (by kernel_rfl) (by kernel_rfl) (yieldsIf_load_row (by rfl) 36 _ rfl (u1.heap.size) rfl 36 (e4 m1) (fun _ h => M7.out.below h M7.out.lt) Try.underlying36 rfl (by rw [e4_size]; kernel_rfl)) (hkW71) ?_
        (try simp only [List.setIfInBounds_toArray, List.set_cons_succ, List.set_cons_zero])
        refine go_take 6 34 #[true, true, true, true, true, true, true, false, false, false, false, false, false, false, false, false, false, false, false, false, false, false, false, false] rfl rfl rfl (by kernel_rfl) (by kernel_rfl) (by kernel_rfl) (by kernel_rfl) (by kernel_rfl) (yieldsIf_load_row (by rfl) 36 _ rfl (u1.heap.size) rfl 36 (e4 m1) (fun _ h => M7.out.below h M7.out.lt) Try.underlying36 rfl (by rw [e4_size]; kernel_rfl)) (hkW71) ?_
        (try simp only [List.setIfInBounds_toArray, List.set_cons_succ, List.set_cons_zero])
        refine go_take 8 36 #[true, true, true, true, true, true, true, false, true, false, false, false, false, false, false, false, false, false, false, false, false, false, false, false] rfl rfl rfl (by kernel_rfl) (by kernel_rfl) (by kernel_rfl) (by kernel_rfl) (by kernel_rfl) (yieldsIf_load_row (by rfl) 36 _ rfl (B5) rfl 36 (e4 a1) (fun _ h => M5.out.below h M5.out.lt) Try.underlying36 rfl (by rw [e4_size]; kernel_rfl)) (hkW71) ?_
        (try simp only [List.setIfInBounds_toArray, List.set_cons_succ, List.set_cons_zero])
        refine wpBut_r1 (i := 7) (by kernel_rfl) ?_
        refine go_call 7 35 #[true, true, true, true, true, true, true, true, true, false, false, false, false, false, false, false, false, false, false, false, false, false, false, false] rfl rfl rfl (by rfl) rfl rfl (by rfl) ent31 (by rfl) (Ht.out m1 m1 hm1 hm1 _) ?_
        rintro e wW72 ⟨q1, hq1, hq1r, rfl, hb⟩
        have hkW72 := held_next hkW71 hb
        refine ⟨_, rfl, fun _ => hkW72, ?_⟩
        clear hb
        (try simp only [List.setIfInBounds_toArray, List.set_cons_succ, List.set_cons_zero])
        refine wpBut_r1 (i := 9) (by kernel_rfl) ?_
        refine go_call 9 37 #[true, true, true, true, true, true, true, true, true, true, false, false, false, false, false, false, false, false, false, false, false, false, false, false] rfl rfl rfl (by rfl) rfl rfl (by rfl) ent41 (by rfl) (Hyes.out q1 a1 hq1 Hal1.out (sq_back a1 A1 m1 q1 HA1.out O1.out Hm1r.out hq1r) _) ?_
        rintro e wW73 ⟨rfl, hb⟩
        have hkW73 := held_next hkW72 hb
        refine ⟨_, rfl, fun _ => hkW73, ?_⟩
        clear hb
        (try simp only [List.setIfInBounds_toArray, List.set_cons_succ, List.set_cons_zero])
        refine go_take 10 38 #[true, true, true, true, true, true, true, true, true, true, true, false, false, false, false, false, false, false, false, false, false, false, false, false] (v := ?uv28) rfl rfl rfl (by kernel_rfl) (by kernel_rfl) (by kernel_rfl) (by kernel_rfl) (by kernel_rfl) (Or.inl ⟨by rfl, ?uy28⟩) (hkW73) ?urest28
        case uy28 => (intro _ _; go_simp; try with_reducible rfl)
        (try simp only [List.setIfInBounds_toArray, List.set_cons_succ, List.set_cons_zero])
        refine go_take 11 39 #[true, true, true, true, true, true, true, true, true, true, true, true, false, false, false, false, false, false, false, false, false, false, false, false] (v := ?uv29) rfl rfl rfl (by kernel_rfl) (by kernel_rfl) (by kernel_rfl) (by kernel_rfl) (by kernel_rfl) (Or.inl ⟨by rfl, ?uy29⟩) (hkW73) ?urest29
        case uy29 => (intro _ _; go_simp; try with_reducible rfl)
        (try simp only [List.setIfInBounds_toArray, List.set_cons_succ, List.set_cons_zero])
        refine go_take 12 40 #[true, true, true, true, true, true, true, true, true, true, true, true, true, false, false, false, false, false, false, false, false, false, false, false] (v := ?uv30) rfl rfl rfl (by kernel_rfl) (by kernel_rfl) (by kernel_rfl) (by kernel_rfl) (by kernel_rfl) (Or.inl ⟨by rfl, ?uy30⟩) (hkW73) ?urest30
        case uy30 => (intro _ _; go_simp; try with_reducible rfl)
        (try simp only [List.setIfInBounds_toArray, List.set_cons_succ, List.set_cons_zero])
        refine go_take 13 41 #[true, true, true, true, true, true, true, true, true, true, true, true, true, true, false, false, false, false, false, false, false, false, false, false] (v := ?uv31) rfl rfl rfl (by kernel_rfl) (by kernel_rfl) (by kernel_rfl) (by kernel_rfl) (by kernel_rfl) (Or.inl ⟨by rfl, ?uy31⟩) (hkW73) ?urest31
        case uy31 => (intro _ _; go_simp; try with_reducible rfl)
        (try simp only [List.setIfInBounds_toArray, List.set_cons_succ, List.set_cons_zero])
        refine go_take 14 42 #[true, true, true, true, true, true, true, true, true, true, true, true, true, true, true, false, false, false, false, false, false, false, false, false] (v := ?uv32) rfl rfl rfl (by kernel_rfl) (by kernel_rfl) (by kernel_rfl) (by kernel_rfl) (by kernel_rfl) (Or.inl ⟨by rfl, ?uy32⟩) (hkW73) ?urest32
        case uy32 => (intro _ _; go_simp; try with_reducible rfl)
        (try simp only [List.setIfInBounds_toArray, List.set_cons_succ, List.set_cons_zero])
        refine go_take 15 43 #[true, true, true, true, true, true, true, true, true, true, true, true, true, true, true, true, false, false, false, false, false, false, false, false] (v := ?uv33) rfl rfl rfl (by kernel_rfl) (by kernel_rfl) (by kernel_rfl) (by kernel_rfl) (by kernel_rfl) (Or.inl ⟨by rfl, ?uy33⟩) (hkW73) ?urest33
        case uy33 => (intro _ _; go_simp; try with_reducible rfl)
        (try simp only [List.setIfInBounds_toArray, List.set_cons_succ, List.set_cons_zero])
        refine go_take 16 44 #[true, true, true, true, true, true, true, true, true, true, true, true, true, true, true, true, true, false, false, false, false, false, false, false] (v := undef) rfl rfl rfl (by kernel_rfl) (by kernel_rfl) (by kernel_rfl) (by kernel_rfl) (by kernel_rfl) (Or.inr ⟨by rfl, rfl⟩) (hkW73) ?_
        (try simp only [List.setIfInBounds_toArray, List.set_cons_succ, List.set_cons_zero])
        refine go_take 17 45 #[true, true, true, true, true, true, true, true, true, true, true, true, true, true, true, true, true, true, false, false, false, false, false, false] (v := undef) rfl rfl rfl (by kernel_rfl) (by kernel_rfl) (by kernel_rfl) (by kernel_rfl) (by kernel_rfl) (Or.inr ⟨by rfl, rfl⟩) (hkW73) ?_
        (try simp only [List.setIfInBounds_toArray, List.set_cons_succ, List.set_cons_zero])
        refine go_take 18 46 #[true, true, true, true, true, true, true, true, true, true, true, true, true, true, true, true, true, true, true, false, false, false, false, false] (v := undef) rfl rfl rfl (by kernel_rfl) (by kernel_rfl) (by kernel_rfl) (by kernel_rfl) (by kernel_rfl) (Or.inr ⟨by rfl, rfl⟩) (hkW73) ?_
        (try simp only [List.setIfInBounds_toArray, List.set_cons_succ, List.set_cons_zero])
        refine go_take 19 47 #[true, true, true, true, true, true, true, true, true, true, true, true, true, true, true, true, true, true, true, true, false, false, false, false] (v := undef) rfl rfl rfl (by kernel_rfl) (by kernel_rfl) (by kernel_rfl) (by kernel_rfl) (by kernel_rfl) (Or.inr ⟨by rfl, rfl⟩) (hkW73) ?_
        (try simp only [List.setIfInBounds_toArray, List.set_cons_succ, List.set_cons_zero])
        refine go_take 20 48 #[true, true, true, true, true, true, true, true, true, true, true, true, true, true, true, true, true, true, true, true, true, false, false, false] (v := undef) rfl rfl rfl (by kernel_rfl) (by kernel_rfl) (by kernel_rfl) (by kernel_rfl) (by kernel_rfl) (Or.inr ⟨by rfl, rfl⟩) (hkW73) ?_
        (try simp only [List.setIfInBounds_toArray, List.set_cons_succ, List.set_cons_zero])
        refine go_take 21 49 #[true, true, true, true, true, true, true, true, true, true, true, true, true, true, true, true, true, true, true, true, true, true, false, false] (v := undef) rfl rfl rfl (by kernel_rfl) (by kernel_rfl) (by kernel_rfl) (by kernel_rfl) (by kernel_rfl) (Or.inr ⟨by rfl, rfl⟩) (hkW73) ?_
        (try simp only [List.setIfInBounds_toArray, List.set_cons_succ, List.set_cons_zero])
        refine go_take 22 50 #[true, true, true, true, true, true, true, true, true, true, true, true, true, true, true, true, true, true, true, true, true, true, true, false] (v := ?uv34) rfl rfl rfl (by kernel_rfl) (by kernel_rfl) (by kernel_rfl) (by kernel_rfl) (by kernel_rfl) (Or.inl ⟨by rfl, ?uy34⟩) (hkW73) ?urest34
        case uy34 => (intro _ _; go_simp; try with_reducible rfl)
        (try simp only [List.setIfInBounds_toArray, List.set_cons_succ, List.set_cons_zero])
        refine go_take 23 51 #[true, true, true, true, true, true, true, true, true, true, true, true, true, true, true, true, true, true, true, true, true, true, true, true] (v := ?uv35) rfl rfl rfl (by kernel_rfl) (by kernel_rfl) (by kernel_rfl) (by kernel_rfl) (by kernel_rfl) (Or.inl ⟨by rfl, ?uy35⟩) (hkW73) ?urest35
        case uy35 => (intro _ _; go_simp; try with_reducible rfl)
        (try simp only [List.setIfInBounds_toArray, List.set_cons_succ, List.set_cons_zero])
        refine wpBut_done (by kernel_rfl) (NoPanic.normal ?_)
        have kq := M5.out.call hkW73; clear M5; have M5 := Lib.hid kq; clear kq
        have kq := M6.out.call hkW73; clear M6; have M6 := Lib.hid kq; clear kq
        have kq := M7.out.call hkW73; clear M7; have M7 := Lib.hid kq; clear kq
        have kq := M9.out.call hkW73; clear M9; have M9 := Lib.hid kq; clear kq
        have hBq := held_next HB.out hkW73; clear HB; have HB := Lib.hid hBq; clear hBq
        repeat ((fail_if_success (with_reducible (show wpList _ _ _ _ _ _))); go_step)
        refine wpList_load (by rfl) 36 _ rfl (B5) rfl 36 (e4 a1) M5.out Try.underlying36 rfl (by rw [e4_size]; kernel_rfl) 53 rfl ?_
        (try simp only [Act.put, List.setIfInBounds_toArray, List.set_cons_succ, List.set_cons_zero])
        refine wpList_load (by rfl) 36 _ rfl (B6) rfl 36 (e4 a2) M6.out Try.underlying36 rfl (by rw [e4_size]; kernel_rfl) 54 rfl ?_
        (try simp only [Act.put, List.setIfInBounds_toArray, List.set_cons_succ, List.set_cons_zero])
        refine wpList_call (by rfl) rfl rfl (by rfl) ent31 (by rfl) (Ht.out a1 a2 Hal1.out Hal2.out _) 55 rfl ?_
        rintro e u3 ⟨q3, hq3, hq3r, rfl, hb⟩
        have kq := M5.out.call hb; clear M5; have M5 := Lib.hid kq; clear kq
        have kq := M6.out.call hb; clear M6; have M6 := Lib.hid kq; clear kq
        have kq := M7.out.call hb; clear M7; have M7 := Lib.hid kq; clear kq
        have kq := M9.out.call hb; clear M9; have M9 := Lib.hid kq; clear kq
        have hBq := held_next HB.out hb; clear HB; have HB := Lib.hid hBq; clear hBq
        refine ⟨_, rfl, ?_⟩
        clear hb
        (try simp only [Act.put, List.setIfInBounds_toArray, List.set_cons_succ, List.set_cons_zero])
        refine wpList_call (by rfl) rfl rfl (by rfl) ent44 (by rfl) (Hrb.out q3 hq3 (by rw [hq3r, HA1.out, HA2.out, ← Nat.mul_mod]) _) 56 rfl ?_
        rintro e u4 ⟨m3, hm3, hm3r, rfl, hb⟩
        have kq := M5.out.call hb; clear M5; have M5 := Lib.hid kq; clear kq
        have kq := M6.out.call hb; clear M6; have M6 := Lib.hid kq; clear kq
        have kq := M7.out.call hb; clear M7; have M7 := Lib.hid kq; clear kq
        have kq := M9.out.call hb; clear M9; have M9 := Lib.hid kq; clear kq
        have hBq := held_next HB.out hb; clear HB; have HB := Lib.hid hBq; clear hBq
        refine ⟨_, rfl, ?_⟩
        clear hb
        (try simp only [Act.put, List.setIfInBounds_toArray, List.set_cons_succ, List.set_cons_zero])
        refine wpList_step (fun K hK => ?_)
        go_simp
        (try go_bits)
        refine hK _ _ ?_
        clear hK K
        refine wpList_step (fun K hK => ?_)
        go_simp
        (try go_bits)
        refine hK _ _ ?_
        clear hK K
        refine wpList_step (fun K hK => ?_)
        go_simp
        (try go_bits)
        refine hK _ _ ?_
        clear hK K
        refine wpList_step (fun K hK => ?_)
        go_simp
        have hlt8 := M5.out.lt
        have hlt9 := M6.out.lt
        have hlt10 := M7.out.lt
        have hlt11 := M9.out.lt
        have kq := M5.out.alloc (.cells (#[.int .u64 0, .int .u64 0, .int .u64 0, .int .u64 0] : Array Value) 36); clear M5; have M5 := Lib.hid kq; clear kq
        have kq := M6.out.alloc (.cells (#[.int .u64 0, .int .u64 0, .int .u64 0, .int .u64 0] : Array Value) 36); clear M6; have M6 := Lib.hid kq; clear kq
        have kq := M7.out.alloc (.cells (#[.int .u64 0, .int .u64 0, .int .u64 0, .int .u64 0] : Array Value) 36); clear M7; have M7 := Lib.hid kq; clear kq
        have kq := M9.out.alloc (.cells (#[.int .u64 0, .int .u64 0, .int .u64 0, .int .u64 0] : Array Value) 36); clear M9; have M9 := Lib.hid kq; clear kq
        have M11 := Lib.hid (HasN.new u4 (#[.int .u64 0, .int .u64 0, .int .u64 0, .int .u64 0] : Array Value) 36 4 rfl)
        have hsz := HB.out.size
        have hBq := HB.out.alloc hsz (.cells (#[.int .u64 0, .int .u64 0, .int .u64 0, .int .u64 0] : Array Value) 36); clear HB; have HB := Lib.hid hBq; clear hBq
        refine hK _ _ ?_
        clear hK K
        first | (obtain ⟨Z, hZ, mZ⟩ := M11.out) | (obtain ⟨Z, hZ, mZ⟩ := M11.out.toN (e4_size _))
        clear M11
        have hZ' := Lib.hid hZ; clear hZ
        have mZ' := Lib.hid mZ; clear mZ
        refine wpList_store_row rfl 36 _ _ rfl (u4.heap.size) _ rfl rfl 36 Z mZ'.out (by rw [e4_size]; kernel_rfl) (hZ'.out.trans (e4_size _).symm) (row_one _ _ _) ?_
        (try simp only [Act.put, List.setIfInBounds_toArray, List.set_cons_succ, List.set_cons_zero])
        have kq := M5.out.setRow_other (u4.heap.size) (e4 m3) (by omega); clear M5; have M5 := Lib.hid kq; clear kq
        have kq := M6.out.setRow_other (u4.heap.size) (e4 m3) (by omega); clear M6; have M6 := Lib.hid kq; clear kq
        have kq := M7.out.setRow_other (u4.heap.size) (e4 m3) (by omega); clear M7; have M7 := Lib.hid kq; clear kq
        have kq := M9.out.setRow_other (u4.heap.size) (e4 m3) (by omega); clear M9; have M9 := Lib.hid kq; clear kq
        have M11 := Lib.hid (mZ'.out.setRow (e4 m3))
        clear mZ' hZ'
        have hBq := below_setRow HB.out (u4.heap.size) (e4 m3) (by omega); clear HB; have HB := Lib.hid hBq; clear hBq
        refine wpList_step (fun K hK => ?_)
        go_simp
        (try go_bits)
        refine hK _ _ ?_
        clear hK K
        refine wpList_nil ?_
        clear hq3r hm3r
        repeat ((fail_if_success (with_reducible (show wpList _ _ _ _ _ _))); go_step)
        obtain ⟨z1, hz1⟩ : ∃ z, z = decide (A1 = 0) := ⟨_, rfl⟩
        obtain ⟨z2, hz2⟩ : ∃ z, z = decide (A2 = 0) := ⟨_, rfl⟩
        have Z1 := Lib.hid hz1; clear hz1
        have Z2 := Lib.hid hz2; clear hz2
        cases z1
        · have hF := both_zero A1 A2 b true false false z2 HAl1.out HAl2.out O1.out.symm O2.out.symm Z1.out Z2.out Hb.out
          have hIz := fun w => is_zero2 a1 Hal1.out false (by rw [← HA1.out, Nat.zero_mod]; exact Z1.out) w
          have hIy := fun w => is_zero2 a2 Hal2.out z2 (by rw [← HA2.out, Nat.zero_mod]; exact Z2.out) w
          have HF := Lib.hid hF; clear hF
          have HIz := Lib.hid hIz; clear hIz
          have HIy := Lib.hid hIy; clear hIy
          refine wpList_load (by rfl) 36 _ rfl (B5) rfl 36 (e4 a1) M5.out Try.underlying36 rfl (by rw [e4_size]; kernel_rfl) 59 rfl ?_
          (try simp only [Act.put, List.setIfInBounds_toArray, List.set_cons_succ, List.set_cons_zero])
          refine wpList_step (fun K hK => ?_)
          go_simp
          (try go_bits)
          refine hK _ _ ?_
          clear hK K
          refine wpList_call (by rfl) rfl rfl (by rfl) ent41 (by rfl) (HIz.out _) 61 rfl ?_
          rintro e u5 ⟨rfl, hb⟩
          have kq := M5.out.call hb; clear M5; have M5 := Lib.hid kq; clear kq
          have kq := M6.out.call hb; clear M6; have M6 := Lib.hid kq; clear kq
          have kq := M7.out.call hb; clear M7; have M7 := Lib.hid kq; clear kq
          have kq := M9.out.call hb; clear M9; have M9 := Lib.hid kq; clear kq
          have kq := M11.out.call hb; clear M11; have M11 := Lib.hid kq; clear kq
          have hBq := held_next HB.out hb; clear HB; have HB := Lib.hid hBq; clear hBq
          refine ⟨_, rfl, ?_⟩
          clear hb
          (try simp only [Act.put, List.setIfInBounds_toArray, List.set_cons_succ, List.set_cons_zero])
          refine wpList_step (fun K hK => ?_)
          go_simp
          (try go_bits)
          refine hK _ _ ?_
          clear hK K
          refine wpList_load (by rfl) 36 _ rfl (B6) rfl 36 (e4 a2) M6.out Try.underlying36 rfl (by rw [e4_size]; kernel_rfl) 63 rfl ?_
          (try simp only [Act.put, List.setIfInBounds_toArray, List.set_cons_succ, List.set_cons_zero])
          refine wpList_step (fun K hK => ?_)
          go_simp
          (try go_bits)
          refine hK _ _ ?_
          clear hK K
          refine wpList_call (by rfl) rfl rfl (by rfl) ent41 (by rfl) (HIy.out _) 65 rfl ?_
          rintro e u6 ⟨rfl, hb⟩
          have kq := M5.out.call hb; clear M5; have M5 := Lib.hid kq; clear kq
          have kq := M6.out.call hb; clear M6; have M6 := Lib.hid kq; clear kq
          have kq := M7.out.call hb; clear M7; have M7 := Lib.hid kq; clear kq
          have kq := M9.out.call hb; clear M9; have M9 := Lib.hid kq; clear kq
          have kq := M11.out.call hb; clear M11; have M11 := Lib.hid kq; clear kq
          have hBq := held_next HB.out hb; clear HB; have HB := Lib.hid hBq; clear hBq
          refine ⟨_, rfl, ?_⟩
          clear hb
          (try simp only [Act.put, List.setIfInBounds_toArray, List.set_cons_succ, List.set_cons_zero])
          refine wpList_step (fun K hK => ?_)
          go_simp
          (try go_bits)
          refine hK _ _ ?_
          clear hK K
          refine wpList_step (fun K hK => ?_)
          go_simp
          (try go_bits)
          refine hK _ _ ?_
          clear hK K
          refine wpList_nil ?_
          cases z2
          · cases b
            · go_wp2_with fail
              go_ret
              exact ⟨by first | rfl | (have := HF.out; simp at this), HB.out⟩
            · go_wp2_with fail
              go_ret
              exact ⟨by first | rfl | (have := HF.out; simp at this), HB.out⟩
          · cases b
            · go_wp2_with fail
              go_ret
              exact ⟨by first | rfl | (have := HF.out; simp at this), HB.out⟩
            · go_wp2_with fail
              go_ret
              exact ⟨by first | rfl | (have := HF.out; simp at this), HB.out⟩
        · have hF := both_zero A1 A2 b true false true z2 HAl1.out HAl2.out O1.out.symm O2.out.symm Z1.out Z2.out Hb.out
          have hIz := fun w => is_zero2 a1 Hal1.out true (by rw [← HA1.out, Nat.zero_mod]; exact Z1.out) w
          have HF := Lib.hid hF; clear hF
          have HIz := Lib.hid hIz; clear hIz
          refine wpList_load (by rfl) 36 _ rfl (B5) rfl 36 (e4 a1) M5.out Try.underlying36 rfl (by rw [e4_size]; kernel_rfl) 59 rfl ?_
          (try simp only [Act.put, List.setIfInBounds_toArray, List.set_cons_succ, List.set_cons_zero])
          refine wpList_step (fun K hK => ?_)
          go_simp
          (try go_bits)
          refine hK _ _ ?_
          clear hK K
          refine wpList_call (by rfl) rfl rfl (by rfl) ent41 (by rfl) (HIz.out _) 61 rfl ?_
          rintro e u5 ⟨rfl, hb⟩
          have kq := M5.out.call hb; clear M5; have M5 := Lib.hid kq; clear kq
          have kq := M6.out.call hb; clear M6; have M6 := Lib.hid kq; clear kq
          have kq := M7.out.call hb; clear M7; have M7 := Lib.hid kq; clear kq
          have kq := M9.out.call hb; clear M9; have M9 := Lib.hid kq; clear kq
          have kq := M11.out.call hb; clear M11; have M11 := Lib.hid kq; clear kq
          have hBq := held_next HB.out hb; clear HB; have HB := Lib.hid hBq; clear hBq
          refine ⟨_, rfl, ?_⟩
          clear hb
          (try simp only [Act.put, List.setIfInBounds_toArray, List.set_cons_succ, List.set_cons_zero])
          refine wpList_step (fun K hK => ?_)
          go_simp
          (try go_bits)
          refine hK _ _ ?_
          clear hK K
          refine wpList_step (fun K hK => ?_)
          go_simp
          (try go_bits)
          refine hK _ _ ?_
          clear hK K
          refine wpList_step (fun K hK => ?_)
          go_simp
          (try go_bits)
          refine hK _ _ ?_
          clear hK K
          refine wpList_step (fun K hK => ?_)
          go_simp
          (try go_bits)
          refine hK _ _ ?_
          clear hK K
          refine wpList_step (fun K hK => ?_)
          go_simp
          (try go_bits)
          refine hK _ _ ?_
          clear hK K
          refine wpList_step (fun K hK => ?_)
          go_simp
          (try go_bits)
          refine hK _ _ ?_
          clear hK K
          refine wpList_nil ?_
          cases b
          · go_wp2_with fail
            go_ret
            exact ⟨by first | rfl | (have := HF.out; simp at this), HB.out⟩
          · go_wp2_with fail
            go_ret
            exact ⟨by first | rfl | (have := HF.out; simp at this), HB.out⟩
      · refine wp_region_noPanic ?_
        refine wp_region_go 99 24 #[false, false, false, false, false, false, false, false, false, false, false, false, false, false, false, false, false, false, false, false, false, false, false, false] (by kernel_rfl) rfl rfl ?_
        intro W7 hW7
        have kq := M5.out; rw [← hW7] at kq; clear M5; have M5 := Lib.hid kq; clear kq
        have kq := M6.out; rw [← hW7] at kq; clear M6; have M6 := Lib.hid kq; clear kq
        have kq := M7.out; rw [← hW7] at kq; clear M7; have M7 := Lib.hid kq; clear kq
        have kq := M9.out; rw [← hW7] at kq; clear M9; have M9 := Lib.hid kq; clear kq
        have kq := HB.out; rw [← hW7] at kq; clear HB; have HB := Lib.hid kq; clear kq
        clear hW7
        refine wpBut_r1 (i := 0) (by kernel_rfl) ?_
        refine go_call 0 28 #[true, false, false, false, false, false, false, false, false, false, false, false, false, false, false, false, false, false, false, false, false, false, false, false] rfl rfl rfl (by rfl) rfl rfl (by rfl) ent28 (by rfl) (Hal.out _) ?_
        rintro e wW71 ⟨rfl, hb⟩
        have hkW71 := held_next (show Below W7.heap.size W7 W7.drew from (Below.refl _ _).drew) hb
        refine ⟨_, rfl, fun _ => hkW71, ?_⟩
        clear hb
        (try simp only [List.setIfInBounds_toArray, List.set_cons_succ, List.set_cons_zero])
        refine go_take 1 29 #[true, true, false, false, false, false, false, false, false, false, false, false, false, false, false, false, false, false, false, false, false, false, false, false] (v := ?uv36) rfl rfl rfl (by kernel_rfl) (by kernel_rfl) (by kernel_rfl) (by kernel_rfl) (by kernel_rfl) (Or.inl ⟨by rfl, ?uy36⟩) (hkW71) ?urest36
        case uy36 => (intro _ _; go_simp; try with_reducible rfl)
        (try simp only [List.setIfInBounds_toArray, List.set_cons_succ, List.set_cons_zero])
        refine go_take 2 30 #[true, true, true, false, false, false, false, false, false, false, false, false, false, false, false, false, false, false, false, false, false, false, false, false] (v := ?uv37) rfl rfl rfl (by kernel_rfl) (by kernel_rfl) (by kernel_rfl) (by kernel_rfl) (by kernel_rfl) (Or.inl ⟨by rfl, ?uy37⟩) (hkW71) ?urest37
        case uy37 => (intro _ _; go_simp; try with_reducible rfl)
        (try simp only [List.setIfInBounds_toArray, List.set_cons_succ, List.set_cons_zero])
        refine go_take 3 31 #[true, true, true, true, false, false, false, false, false, false, false, false, false, false, false, false, false, false, false, false, false, false, false, false] (v := ?uv38) rfl rfl rfl (by kernel_rfl) (by kernel_rfl) (by kernel_rfl) (by kernel_rfl) (by kernel_rfl) (Or.inl ⟨by rfl, ?uy38⟩) (hkW71) ?urest38
        case uy38 => (intro _ _; go_simp; try with_reducible rfl)
        (try simp only [List.setIfInBounds_toArray, List.set_cons_succ, List.set_cons_zero])
        refine go_take 4 32 #[true, true, true, true, true, false, false, false, false, false, false, false, false, false, false, false, false, false, false, false, false, false, false, false] (v := ?uv39) rfl rfl rfl (by kernel_rfl) (by kernel_rfl) (by kernel_rfl) (by kernel_rfl) (by kernel_rfl) (Or.inl ⟨by rfl, ?uy39⟩) (hkW71) ?urest39
        case uy39 => (intro _ _; go_simp; try with_reducible rfl)
        (try simp only [List.setIfInBounds_toArray, List.set_cons_succ, List.set_cons_zero])
        refine go_take 5 33 #[true, true, true, true, true, true, false, false, false, false, false, false, false, false, false, false, false, false, false, false, false, false, false, false] rfl rfl rfl (by kernel_rfl) (by kernel_rfl) (by kernel_rfl) (by kernel_rfl) (by kernel_rfl) (yieldsIf_load_row (by rfl) 36 _ rfl (u1.heap.size) rfl 36 (e4 m1) (fun _ h => M7.out.below h M7.out.lt) Try.underlying36 rfl (by rw [e4_size]; kernel_rfl)) (hkW71) ?_
        (try simp only [List.setIfInBounds_toArray, List.set_cons_succ, List.set_cons_zero])
        refine go_take 6 34 #[true, true, true, true, true, true, true, false, false, false, false, false, false, false, false, false, false, false, false, false, false, false, false, false] rfl rfl rfl (by kernel_rfl) (by kernel_rfl) (by kernel_rfl) (by kernel_rfl) (by kernel_rfl) (yieldsIf_load_row (by rfl) 36 _ rfl (u1.heap.size) rfl 36 (e4 m1) (fun _ h => M7.out.below h M7.out.lt) Try.underlying36 rfl (by rw [e4_size]; kernel_rfl)) (hkW71) ?_
        (try simp only [List.setIfInBounds_toArray, List.set_cons_succ, List.set_cons_zero])
        refine go_take 8 36 #[true, true, true, true, true, true, true, false, true, false, false, false, false, false, false, false, false, false, false, false, false, false, false, false] rfl rfl rfl (by kernel_rfl) (by kernel_rfl) (by kernel_rfl) (by kernel_rfl) (by kernel_rfl) (yieldsIf_load_row (by rfl) 36 _ rfl (B5) rfl 36 (e4 a1) (fun _ h => M5.out.below h M5.out.lt) Try.underlying36 rfl (by rw [e4_size]; kernel_rfl)) (hkW71) ?_
        (try simp only [List.setIfInBounds_toArray, List.set_cons_succ, List.set_cons_zero])
        refine wpBut_r1 (i := 7) (by kernel_rfl) ?_
        refine go_call 7 35 #[true, true, true, true, true, true, true, true, true, false, false, false, false, false, false, false, false, false, false, false, false, false, false, false] rfl rfl rfl (by rfl) rfl rfl (by rfl) ent31 (by rfl) (Ht.out m1 m1 hm1 hm1 _) ?_
        rintro e wW72 ⟨q1, hq1, hq1r, rfl, hb⟩
        have hkW72 := held_next hkW71 hb
        refine ⟨_, rfl, fun _ => hkW72, ?_⟩
        clear hb
        (try simp only [List.setIfInBounds_toArray, List.set_cons_succ, List.set_cons_zero])
        refine wpBut_r1 (i := 9) (by kernel_rfl) ?_
        refine go_call 9 37 #[true, true, true, true, true, true, true, true, true, true, false, false, false, false, false, false, false, false, false, false, false, false, false, false] rfl rfl rfl (by rfl) rfl rfl (by rfl) ent41 (by rfl) (Hyes.out q1 a1 hq1 Hal1.out (sq_back a1 A1 m1 q1 HA1.out O1.out Hm1r.out hq1r) _) ?_
        rintro e wW73 ⟨rfl, hb⟩
        have hkW73 := held_next hkW72 hb
        refine ⟨_, rfl, fun _ => hkW73, ?_⟩
        clear hb
        (try simp only [List.setIfInBounds_toArray, List.set_cons_succ, List.set_cons_zero])
        refine go_take 10 38 #[true, true, true, true, true, true, true, true, true, true, true, false, false, false, false, false, false, false, false, false, false, false, false, false] (v := ?uv40) rfl rfl rfl (by kernel_rfl) (by kernel_rfl) (by kernel_rfl) (by kernel_rfl) (by kernel_rfl) (Or.inl ⟨by rfl, ?uy40⟩) (hkW73) ?urest40
        case uy40 => (intro _ _; go_simp; try with_reducible rfl)
        (try simp only [List.setIfInBounds_toArray, List.set_cons_succ, List.set_cons_zero])
        refine go_take 11 39 #[true, true, true, true, true, true, true, true, true, true, true, true, false, false, false, false, false, false, false, false, false, false, false, false] (v := ?uv41) rfl rfl rfl (by kernel_rfl) (by kernel_rfl) (by kernel_rfl) (by kernel_rfl) (by kernel_rfl) (Or.inl ⟨by rfl, ?uy41⟩) (hkW73) ?urest41
        case uy41 => (intro _ _; go_simp; try with_reducible rfl)
        (try simp only [List.setIfInBounds_toArray, List.set_cons_succ, List.set_cons_zero])
        refine go_take 12 40 #[true, true, true, true, true, true, true, true, true, true, true, true, true, false, false, false, false, false, false, false, false, false, false, false] (v := ?uv42) rfl rfl rfl (by kernel_rfl) (by kernel_rfl) (by kernel_rfl) (by kernel_rfl) (by kernel_rfl) (Or.inl ⟨by rfl, ?uy42⟩) (hkW73) ?urest42
        case uy42 => (intro _ _; go_simp; try with_reducible rfl)
        (try simp only [List.setIfInBounds_toArray, List.set_cons_succ, List.set_cons_zero])
        refine go_take 13 41 #[true, true, true, true, true, true, true, true, true, true, true, true, true, true, false, false, false, false, false, false, false, false, false, false] (v := ?uv43) rfl rfl rfl (by kernel_rfl) (by kernel_rfl) (by kernel_rfl) (by kernel_rfl) (by kernel_rfl) (Or.inl ⟨by rfl, ?uy43⟩) (hkW73) ?urest43
        case uy43 => (intro _ _; go_simp; try with_reducible rfl)
        (try simp only [List.setIfInBounds_toArray, List.set_cons_succ, List.set_cons_zero])
        refine go_take 14 42 #[true, true, true, true, true, true, true, true, true, true, true, true, true, true, true, false, false, false, false, false, false, false, false, false] (v := ?uv44) rfl rfl rfl (by kernel_rfl) (by kernel_rfl) (by kernel_rfl) (by kernel_rfl) (by kernel_rfl) (Or.inl ⟨by rfl, ?uy44⟩) (hkW73) ?urest44
        case uy44 => (intro _ _; go_simp; try with_reducible rfl)
        (try simp only [List.setIfInBounds_toArray, List.set_cons_succ, List.set_cons_zero])
        refine go_take 15 43 #[true, true, true, true, true, true, true, true, true, true, true, true, true, true, true, true, false, false, false, false, false, false, false, false] (v := ?uv45) rfl rfl rfl (by kernel_rfl) (by kernel_rfl) (by kernel_rfl) (by kernel_rfl) (by kernel_rfl) (Or.inl ⟨by rfl, ?uy45⟩) (hkW73) ?urest45
        case uy45 => (intro _ _; go_simp; try with_reducible rfl)
        (try simp only [List.setIfInBounds_toArray, List.set_cons_succ, List.set_cons_zero])
        refine go_take 16 44 #[true, true, true, true, true, true, true, true, true, true, true, true, true, true, true, true, true, false, false, false, false, false, false, false] rfl rfl rfl (by kernel_rfl) (by kernel_rfl) (by kernel_rfl) (by kernel_rfl) (by kernel_rfl) (yieldsIf_load_row (by rfl) 36 _ rfl (u2.heap.size) rfl 36 (e4 m2) (fun _ h => M9.out.below h M9.out.lt) Try.underlying36 rfl (by rw [e4_size]; kernel_rfl)) (hkW73) ?_
        (try simp only [List.setIfInBounds_toArray, List.set_cons_succ, List.set_cons_zero])
        refine go_take 17 45 #[true, true, true, true, true, true, true, true, true, true, true, true, true, true, true, true, true, true, false, false, false, false, false, false] rfl rfl rfl (by kernel_rfl) (by kernel_rfl) (by kernel_rfl) (by kernel_rfl) (by kernel_rfl) (yieldsIf_load_row (by rfl) 36 _ rfl (u2.heap.size) rfl 36 (e4 m2) (fun _ h => M9.out.below h M9.out.lt) Try.underlying36 rfl (by rw [e4_size]; kernel_rfl)) (hkW73) ?_
        (try simp only [List.setIfInBounds_toArray, List.set_cons_succ, List.set_cons_zero])
        refine go_take 19 47 #[true, true, true, true, true, true, true, true, true, true, true, true, true, true, true, true, true, true, false, true, false, false, false, false] rfl rfl rfl (by kernel_rfl) (by kernel_rfl) (by kernel_rfl) (by kernel_rfl) (by kernel_rfl) (yieldsIf_load_row (by rfl) 36 _ rfl (B6) rfl 36 (e4 a2) (fun _ h => M6.out.below h M6.out.lt) Try.underlying36 rfl (by rw [e4_size]; kernel_rfl)) (hkW73) ?_
        (try simp only [List.setIfInBounds_toArray, List.set_cons_succ, List.set_cons_zero])
        refine wpBut_r1 (i := 18) (by kernel_rfl) ?_
        refine go_call 18 46 #[true, true, true, true, true, true, true, true, true, true, true, true, true, true, true, true, true, true, true, true, false, false, false, false] rfl rfl rfl (by rfl) rfl rfl (by rfl) ent31 (by rfl) (Ht.out m2 m2 hm2 hm2 _) ?_
        rintro e wW74 ⟨q2, hq2, hq2r, rfl, hb⟩
        have hkW74 := held_next hkW73 hb
        refine ⟨_, rfl, fun _ => hkW74, ?_⟩
        clear hb
        (try simp only [List.setIfInBounds_toArray, List.set_cons_succ, List.set_cons_zero])
        refine wpBut_r1 (i := 20) (by kernel_rfl) ?_
        refine go_call 20 48 #[true, true, true, true, true, true, true, true, true, true, true, true, true, true, true, true, true, true, true, true, true, false, false, false] rfl rfl rfl (by rfl) rfl rfl (by rfl) ent41 (by rfl) (Hyes.out q2 a2 hq2 Hal2.out (sq_back a2 A2 m2 q2 HA2.out O2.out Hm2r.out hq2r) _) ?_
        rintro e wW75 ⟨rfl, hb⟩
        have hkW75 := held_next hkW74 hb
        refine ⟨_, rfl, fun _ => hkW75, ?_⟩
        clear hb
        (try simp only [List.setIfInBounds_toArray, List.set_cons_succ, List.set_cons_zero])
        refine go_take 21 49 #[true, true, true, true, true, true, true, true, true, true, true, true, true, true, true, true, true, true, true, true, true, true, false, false] (v := ?uv46) rfl rfl rfl (by kernel_rfl) (by kernel_rfl) (by kernel_rfl) (by kernel_rfl) (by kernel_rfl) (Or.inl ⟨by rfl, ?uy46⟩) (hkW75) ?urest46
        case uy46 => (intro _ _; go_simp; try with_reducible rfl)
        (try simp only [List.setIfInBounds_toArray, List.set_cons_succ, List.set_cons_zero])
        refine go_take 22 50 #[true, true, true, true, true, true, true, true, true, true, true, true, true, true, true, true, true, true, true, true, true, true, true, false] (v := ?uv47) rfl rfl rfl (by kernel_rfl) (by kernel_rfl) (by kernel_rfl) (by kernel_rfl) (by kernel_rfl) (Or.inl ⟨by rfl, ?uy47⟩) (hkW75) ?urest47
        case uy47 => (intro _ _; go_simp; try with_reducible rfl)
        (try simp only [List.setIfInBounds_toArray, List.set_cons_succ, List.set_cons_zero])
        refine go_take 23 51 #[true, true, true, true, true, true, true, true, true, true, true, true, true, true, true, true, true, true, true, true, true, true, true, true] (v := ?uv48) rfl rfl rfl (by kernel_rfl) (by kernel_rfl) (by kernel_rfl) (by kernel_rfl) (by kernel_rfl) (Or.inl ⟨by rfl, ?uy48⟩) (hkW75) ?urest48
        case uy48 => (intro _ _; go_simp; try with_reducible rfl)
        (try simp only [List.setIfInBounds_toArray, List.set_cons_succ, List.set_cons_zero])
        refine wpBut_done (by kernel_rfl) (NoPanic.normal ?_)
        have kq := M5.out.call hkW75; clear M5; have M5 := Lib.hid kq; clear kq
        have kq := M6.out.call hkW75; clear M6; have M6 := Lib.hid kq; clear kq
        have kq := M7.out.call hkW75; clear M7; have M7 := Lib.hid kq; clear kq
        have kq := M9.out.call hkW75; clear M9; have M9 := Lib.hid kq; clear kq
        have hBq := held_next HB.out hkW75; clear HB; have HB := Lib.hid hBq; clear hBq
        repeat ((fail_if_success (with_reducible (show wpList _ _ _ _ _ _))); go_step)
        refine wpList_load (by rfl) 36 _ rfl (B5) rfl 36 (e4 a1) M5.out Try.underlying36 rfl (by rw [e4_size]; kernel_rfl) 53 rfl ?_
        (try simp only [Act.put, List.setIfInBounds_toArray, List.set_cons_succ, List.set_cons_zero])
        refine wpList_load (by rfl) 36 _ rfl (B6) rfl 36 (e4 a2) M6.out Try.underlying36 rfl (by rw [e4_size]; kernel_rfl) 54 rfl ?_
        (try simp only [Act.put, List.setIfInBounds_toArray, List.set_cons_succ, List.set_cons_zero])
        refine wpList_call (by rfl) rfl rfl (by rfl) ent31 (by rfl) (Ht.out a1 a2 Hal1.out Hal2.out _) 55 rfl ?_
        rintro e u3 ⟨q3, hq3, hq3r, rfl, hb⟩
        have kq := M5.out.call hb; clear M5; have M5 := Lib.hid kq; clear kq
        have kq := M6.out.call hb; clear M6; have M6 := Lib.hid kq; clear kq
        have kq := M7.out.call hb; clear M7; have M7 := Lib.hid kq; clear kq
        have kq := M9.out.call hb; clear M9; have M9 := Lib.hid kq; clear kq
        have hBq := held_next HB.out hb; clear HB; have HB := Lib.hid hBq; clear hBq
        refine ⟨_, rfl, ?_⟩
        clear hb
        (try simp only [Act.put, List.setIfInBounds_toArray, List.set_cons_succ, List.set_cons_zero])
        refine wpList_call (by rfl) rfl rfl (by rfl) ent44 (by rfl) (Hrb.out q3 hq3 (by rw [hq3r, HA1.out, HA2.out, ← Nat.mul_mod]) _) 56 rfl ?_
        rintro e u4 ⟨m3, hm3, hm3r, rfl, hb⟩
        have kq := M5.out.call hb; clear M5; have M5 := Lib.hid kq; clear kq
        have kq := M6.out.call hb; clear M6; have M6 := Lib.hid kq; clear kq
        have kq := M7.out.call hb; clear M7; have M7 := Lib.hid kq; clear kq
        have kq := M9.out.call hb; clear M9; have M9 := Lib.hid kq; clear kq
        have hBq := held_next HB.out hb; clear HB; have HB := Lib.hid hBq; clear hBq
        refine ⟨_, rfl, ?_⟩
        clear hb
        (try simp only [Act.put, List.setIfInBounds_toArray, List.set_cons_succ, List.set_cons_zero])
        refine wpList_step (fun K hK => ?_)
        go_simp
        (try go_bits)
        refine hK _ _ ?_
        clear hK K
        refine wpList_step (fun K hK => ?_)
        go_simp
        (try go_bits)
        refine hK _ _ ?_
        clear hK K
        refine wpList_step (fun K hK => ?_)
        go_simp
        (try go_bits)
        refine hK _ _ ?_
        clear hK K
        refine wpList_step (fun K hK => ?_)
        go_simp
        have hlt8 := M5.out.lt
        have hlt9 := M6.out.lt
        have hlt10 := M7.out.lt
        have hlt11 := M9.out.lt
        have kq := M5.out.alloc (.cells (#[.int .u64 0, .int .u64 0, .int .u64 0, .int .u64 0] : Array Value) 36); clear M5; have M5 := Lib.hid kq; clear kq
        have kq := M6.out.alloc (.cells (#[.int .u64 0, .int .u64 0, .int .u64 0, .int .u64 0] : Array Value) 36); clear M6; have M6 := Lib.hid kq; clear kq
        have kq := M7.out.alloc (.cells (#[.int .u64 0, .int .u64 0, .int .u64 0, .int .u64 0] : Array Value) 36); clear M7; have M7 := Lib.hid kq; clear kq
        have kq := M9.out.alloc (.cells (#[.int .u64 0, .int .u64 0, .int .u64 0, .int .u64 0] : Array Value) 36); clear M9; have M9 := Lib.hid kq; clear kq
        have M11 := Lib.hid (HasN.new u4 (#[.int .u64 0, .int .u64 0, .int .u64 0, .int .u64 0] : Array Value) 36 4 rfl)
        have hsz := HB.out.size
        have hBq := HB.out.alloc hsz (.cells (#[.int .u64 0, .int .u64 0, .int .u64 0, .int .u64 0] : Array Value) 36); clear HB; have HB := Lib.hid hBq; clear hBq
        refine hK _ _ ?_
        clear hK K
        first | (obtain ⟨Z, hZ, mZ⟩ := M11.out) | (obtain ⟨Z, hZ, mZ⟩ := M11.out.toN (e4_size _))
        clear M11
        have hZ' := Lib.hid hZ; clear hZ
        have mZ' := Lib.hid mZ; clear mZ
        refine wpList_store_row rfl 36 _ _ rfl (u4.heap.size) _ rfl rfl 36 Z mZ'.out (by rw [e4_size]; kernel_rfl) (hZ'.out.trans (e4_size _).symm) (row_one _ _ _) ?_
        (try simp only [Act.put, List.setIfInBounds_toArray, List.set_cons_succ, List.set_cons_zero])
        have kq := M5.out.setRow_other (u4.heap.size) (e4 m3) (by omega); clear M5; have M5 := Lib.hid kq; clear kq
        have kq := M6.out.setRow_other (u4.heap.size) (e4 m3) (by omega); clear M6; have M6 := Lib.hid kq; clear kq
        have kq := M7.out.setRow_other (u4.heap.size) (e4 m3) (by omega); clear M7; have M7 := Lib.hid kq; clear kq
        have kq := M9.out.setRow_other (u4.heap.size) (e4 m3) (by omega); clear M9; have M9 := Lib.hid kq; clear kq
        have M11 := Lib.hid (mZ'.out.setRow (e4 m3))
        clear mZ' hZ'
        have hBq := below_setRow HB.out (u4.heap.size) (e4 m3) (by omega); clear HB; have HB := Lib.hid hBq; clear hBq
        refine wpList_step (fun K hK => ?_)
        go_simp
        (try go_bits)
        refine hK _ _ ?_
        clear hK K
        refine wpList_nil ?_
        clear hq3r hm3r
        repeat ((fail_if_success (with_reducible (show wpList _ _ _ _ _ _))); go_step)
        obtain ⟨z1, hz1⟩ : ∃ z, z = decide (A1 = 0) := ⟨_, rfl⟩
        obtain ⟨z2, hz2⟩ : ∃ z, z = decide (A2 = 0) := ⟨_, rfl⟩
        have Z1 := Lib.hid hz1; clear hz1
        have Z2 := Lib.hid hz2; clear hz2
        cases z1
        · have hF := both_zero A1 A2 b true true false z2 HAl1.out HAl2.out O1.out.symm O2.out.symm Z1.out Z2.out Hb.out
          have hIz := fun w => is_zero2 a1 Hal1.out false (by rw [← HA1.out, Nat.zero_mod]; exact Z1.out) w
          have hIy := fun w => is_zero2 a2 Hal2.out z2 (by rw [← HA2.out, Nat.zero_mod]; exact Z2.out) w
          have HF := Lib.hid hF; clear hF
          have HIz := Lib.hid hIz; clear hIz
          have HIy := Lib.hid hIy; clear hIy
          refine wpList_load (by rfl) 36 _ rfl (B5) rfl 36 (e4 a1) M5.out Try.underlying36 rfl (by rw [e4_size]; kernel_rfl) 59 rfl ?_
          (try simp only [Act.put, List.setIfInBounds_toArray, List.set_cons_succ, List.set_cons_zero])
          refine wpList_step (fun K hK => ?_)
          go_simp
          (try go_bits)
          refine hK _ _ ?_
          clear hK K
          refine wpList_call (by rfl) rfl rfl (by rfl) ent41 (by rfl) (HIz.out _) 61 rfl ?_
          rintro e u5 ⟨rfl, hb⟩
          have kq := M5.out.call hb; clear M5; have M5 := Lib.hid kq; clear kq
          have kq := M6.out.call hb; clear M6; have M6 := Lib.hid kq; clear kq
          have kq := M7.out.call hb; clear M7; have M7 := Lib.hid kq; clear kq
          have kq := M9.out.call hb; clear M9; have M9 := Lib.hid kq; clear kq
          have kq := M11.out.call hb; clear M11; have M11 := Lib.hid kq; clear kq
          have hBq := held_next HB.out hb; clear HB; have HB := Lib.hid hBq; clear hBq
          refine ⟨_, rfl, ?_⟩
          clear hb
          (try simp only [Act.put, List.setIfInBounds_toArray, List.set_cons_succ, List.set_cons_zero])
          refine wpList_step (fun K hK => ?_)
          go_simp
          (try go_bits)
          refine hK _ _ ?_
          clear hK K
          refine wpList_load (by rfl) 36 _ rfl (B6) rfl 36 (e4 a2) M6.out Try.underlying36 rfl (by rw [e4_size]; kernel_rfl) 63 rfl ?_
          (try simp only [Act.put, List.setIfInBounds_toArray, List.set_cons_succ, List.set_cons_zero])
          refine wpList_step (fun K hK => ?_)
          go_simp
          (try go_bits)
          refine hK _ _ ?_
          clear hK K
          refine wpList_call (by rfl) rfl rfl (by rfl) ent41 (by rfl) (HIy.out _) 65 rfl ?_
          rintro e u6 ⟨rfl, hb⟩
          have kq := M5.out.call hb; clear M5; have M5 := Lib.hid kq; clear kq
          have kq := M6.out.call hb; clear M6; have M6 := Lib.hid kq; clear kq
          have kq := M7.out.call hb; clear M7; have M7 := Lib.hid kq; clear kq
          have kq := M9.out.call hb; clear M9; have M9 := Lib.hid kq; clear kq
          have kq := M11.out.call hb; clear M11; have M11 := Lib.hid kq; clear kq
          have hBq := held_next HB.out hb; clear HB; have HB := Lib.hid hBq; clear hBq
          refine ⟨_, rfl, ?_⟩
          clear hb
          (try simp only [Act.put, List.setIfInBounds_toArray, List.set_cons_succ, List.set_cons_zero])
          refine wpList_step (fun K hK => ?_)
          go_simp
          (try go_bits)
          refine hK _ _ ?_
          clear hK K
          refine wpList_step (fun K hK => ?_)
          go_simp
          (try go_bits)
          refine hK _ _ ?_
          clear hK K
          refine wpList_nil ?_
          cases z2
          · cases b
            · go_wp2_with fail
              go_ret
              exact ⟨by first | rfl | (have := HF.out; simp at this), HB.out⟩
            · go_wp2_with fail
              go_ret
              exact ⟨by first | rfl | (have := HF.out; simp at this), HB.out⟩
          · cases b
            · go_wp2_with fail
              go_ret
              exact ⟨by first | rfl | (have := HF.out; simp at this), HB.out⟩
            · go_wp2_with fail
              go_ret
              exact ⟨by first | rfl | (have := HF.out; simp at this), HB.out⟩
        · have hF := both_zero A1 A2 b true true true z2 HAl1.out HAl2.out O1.out.symm O2.out.symm Z1.out Z2.out Hb.out
          have hIz := fun w => is_zero2 a1 Hal1.out true (by rw [← HA1.out, Nat.zero_mod]; exact Z1.out) w
          have HF := Lib.hid hF; clear hF
          have HIz := Lib.hid hIz; clear hIz
          refine wpList_load (by rfl) 36 _ rfl (B5) rfl 36 (e4 a1) M5.out Try.underlying36 rfl (by rw [e4_size]; kernel_rfl) 59 rfl ?_
          (try simp only [Act.put, List.setIfInBounds_toArray, List.set_cons_succ, List.set_cons_zero])
          refine wpList_step (fun K hK => ?_)
          go_simp
          (try go_bits)
          refine hK _ _ ?_
          clear hK K
          refine wpList_call (by rfl) rfl rfl (by rfl) ent41 (by rfl) (HIz.out _) 61 rfl ?_
          rintro e u5 ⟨rfl, hb⟩
          have kq := M5.out.call hb; clear M5; have M5 := Lib.hid kq; clear kq
          have kq := M6.out.call hb; clear M6; have M6 := Lib.hid kq; clear kq
          have kq := M7.out.call hb; clear M7; have M7 := Lib.hid kq; clear kq
          have kq := M9.out.call hb; clear M9; have M9 := Lib.hid kq; clear kq
          have kq := M11.out.call hb; clear M11; have M11 := Lib.hid kq; clear kq
          have hBq := held_next HB.out hb; clear HB; have HB := Lib.hid hBq; clear hBq
          refine ⟨_, rfl, ?_⟩
          clear hb
          (try simp only [Act.put, List.setIfInBounds_toArray, List.set_cons_succ, List.set_cons_zero])
          refine wpList_step (fun K hK => ?_)
          go_simp
          (try go_bits)
          refine hK _ _ ?_
          clear hK K
          refine wpList_step (fun K hK => ?_)
          go_simp
          (try go_bits)
          refine hK _ _ ?_
          clear hK K
          refine wpList_step (fun K hK => ?_)
          go_simp
          (try go_bits)
          refine hK _ _ ?_
          clear hK K
          refine wpList_step (fun K hK => ?_)
          go_simp
          (try go_bits)
          refine hK _ _ ?_
          clear hK K
          refine wpList_step (fun K hK => ?_)
          go_simp
          (try go_bits)
          refine hK _ _ ?_
          clear hK K
          refine wpList_step (fun K hK => ?_)
          go_simp
          (try go_bits)
          refine hK _ _ ?_
          clear hK K
          refine wpList_nil ?_
          cases b
          · go_wp2_with fail
            go_ret
            exact ⟨by first | rfl | (have := HF.out; simp at this), HB.out⟩
          · go_wp2_with fail
            go_ret
            exact ⟨by first | rfl | (have := HF.out; simp at this), HB.out⟩
end Go.Proofs.Ytjiagjonlcadiaa
