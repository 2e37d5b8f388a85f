/- The laws of chapter 03: quotients. -/
import Derived.Test.YtjiagjonlcadiaaLawD
namespace Go.Proofs.Ytjiagjonlcadiaa
open Go.RowKit Go.Lib

theorem over_agree (a b A B q : Nat) (hA : A = a % PP) (hB : B = b % PP) (hq : q % PP = a * pwm b (PP - 2) % PP) : q % PP = A * pwm B (PP - 2) % PP := by
  rw [hq, hA, hB, pwm_mod, Nat.mod_mul_mod]
theorem over_back (a b q m : Nat) (hb : ¬ b % PP = 0 % PP) (hq : q % PP = a * pwm b (PP - 2) % PP) (hm : m % PP = q * b % PP) : m % PP = a % PP := by
  rw [Nat.zero_mod] at hb
  have := over_undoes a b hb
  rw [Nat.mod_mul_mod] at this
  rw [hm, Nat.mul_mod, hq, ← Nat.mul_mod, this]

set_option maxRecDepth 100000 in
set_option linter.unusedSimpArgs false in
set_option maxHeartbeats 8000000 in
theorem law_quotients (n1 n2 : Nat) (hn1 : n1 < 115792089237316195423570985008687907853269984665640564039457584007913129639936) (hn2 : n2 < 115792089237316195423570985008687907853269984665640564039457584007913129639936) (w : World) :
    Calls Try.prog 8 #[.agg (k32 n1), .agg (k32 n2)] w fun e w' => e = .returned (.bool true) ∧ Below w.heap.size w w' := by
  have hal := law3_alive
  have hov := over_any
  have hro := rover_any
  have ht := times_any
  have hint := fun w => fint_nn 0 (by decide) w
  have his := lis_yes
  have hyes := is_yes
  have hno := is_no
  obtain ⟨a1, ha1⟩ : ∃ a, a = n1 % 57896044618658097711785492504343953926634992332820282019728792003956564819968 := ⟨_, rfl⟩
  obtain ⟨A1, hA1⟩ : ∃ A, A = a1 % PP := ⟨_, rfl⟩
  have hf1 := fun w => fof_a n1 a1 hn1 ha1 w
  have hr1 := fun w => rof_a n1 a1 A1 ha1 hA1 w
  have hal1 : a1 < 115792089237316195423570985008687907853269984665640564039457584007913129639936 := by rw [ha1]; exact fof_lt _
  have hAl1 : A1 < PP := by rw [hA1]; exact Nat.mod_lt _ PP_pos
  have Hf1 := Lib.hid hf1; clear hf1
  have Hr1 := Lib.hid hr1; clear hr1
  have Hal1 := Lib.hid hal1; clear hal1
  have HAl1 := Lib.hid hAl1; clear hAl1
  have HA1 := Lib.hid hA1; clear hA1
  clear ha1 hn1
  obtain ⟨a2, ha2⟩ : ∃ a, a = n2 % 57896044618658097711785492504343953926634992332820282019728792003956564819968 := ⟨_, rfl⟩
  obtain ⟨A2, hA2⟩ : ∃ A, A = a2 % PP := ⟨_, rfl⟩
  have hf2 := fun w => fof_a n2 a2 hn2 ha2 w
  have hr2 := fun w => rof_a n2 a2 A2 ha2 hA2 w
  have hal2 : a2 < 115792089237316195423570985008687907853269984665640564039457584007913129639936 := by rw [ha2]; exact fof_lt _
  have hAl2 : A2 < PP := by rw [hA2]; exact Nat.mod_lt _ PP_pos
  have Hf2 := Lib.hid hf2; clear hf2
  have Hr2 := Lib.hid hr2; clear hr2
  have Hal2 := Lib.hid hal2; clear hal2
  have HAl2 := Lib.hid hAl2; clear hAl2
  have HA2 := Lib.hid hA2; clear hA2
  clear ha2 hn2
  have Hal := Lib.hid hal; clear hal
  have Hov := Lib.hid hov; clear hov
  have Hro := Lib.hid hro; clear hro
  have Ht := Lib.hid ht; clear ht
  have Hint := Lib.hid hint; clear hint
  have His := Lib.hid his; clear his
  have Hyes := Lib.hid hyes; clear hyes
  have Hno := Lib.hid hno; clear hno
  go_enter Try.func8, Try.ntmps8
  repeat ((fail_if_success (with_reducible (show wpList _ _ _ _ _ _))); go_step)
  refine wpList_step (fun K hK => ?_)
  go_simp
  (try go_bits)
  refine hK _ _ ?_
  clear hK K
  refine wpList_step (fun K hK => ?_)
  go_simp
  (try go_bits)
  refine hK _ _ ?_
  clear hK K
  refine wpList_step (fun K hK => ?_)
  go_simp
  (try go_bits)
  refine hK _ _ ?_
  clear hK K
  refine wpList_nil ?_
  have M2 := Lib.hid ((Has.new w  (k32 n1) 24).alloc (.cells (k32 n2) 24))
  have M3 := Lib.hid (Has.new1 w (.cells (k32 n1) 24) (k32 n2) 24)
  have HB := Lib.hid (below_2 w (.cells (k32 n1) 24) (.cells (k32 n2) 24))
  by_cases c0 : a2 % PP = 0 % PP
  · have C0 := Lib.hid c0; clear c0
    repeat ((fail_if_success (with_reducible (show wpList _ _ _ _ _ _))); go_step)
    refine wp_region_meet (α := Nat × Nat) (fun W0 x w' => W0.heap.size ≤ x.1 ∧ Has w' x.1 (e4 a1) 36 ∧ W0.heap.size ≤ x.2 ∧ Has w' x.2 (e4 a2) 36 ∧ Below W0.heap.size W0 w') (fun ac x => ((((((ac.put (some 8) (.agg (k32 n1))).put (some 9) (.agg (e4 a1))).put (some 10) (.agg (k32 n2))).put (some 11) (.agg (e4 a2))).put (some 5) (.pointer (some ⟨x.1, 0, none⟩))).put (some 6) (.pointer (some ⟨x.2, 0, none⟩)))) ?_ ?_
    · intro Q' hQ'
      refine wp_region_noPanic ?_
      refine wp_region_go 99 8 #[false, false, false, false, false, false, false, false] (by kernel_rfl) rfl rfl ?_
      intro W1 hW1
      rw [← hW1] at hQ'
      simp only [Act.put, List.setIfInBounds_toArray, List.set_cons_succ, List.set_cons_zero] at hQ'
      have HQ := Lib.hid hQ'; clear hQ'
      have kq := M2.out; rw [← hW1] at kq; clear M2; have M2 := Lib.hid kq; clear kq
      have kq := M3.out; rw [← hW1] at kq; clear M3; have M3 := Lib.hid kq; clear kq
      have kq := HB.out; rw [← hW1] at kq; clear HB; have HB := Lib.hid kq; clear kq
      clear hW1
      refine go_take 0 8 #[true, false, false, false, false, false, false, false] rfl rfl rfl (by kernel_rfl) (by kernel_rfl) (by kernel_rfl) (by kernel_rfl) (by kernel_rfl) (yieldsIf_load_row (by rfl) 24 _ rfl (w.heap.size) rfl 24 (k32 n1) (fun _ h => M2.out.below h M2.out.lt) Try.underlying24 rfl (by rw [k32_size]; kernel_rfl)) ((show Below W1.heap.size W1 W1.drew from (Below.refl _ _).drew)) ?_
      (try simp only [List.setIfInBounds_toArray, List.set_cons_succ, List.set_cons_zero])
      refine go_take 2 10 #[true, false, true, false, false, false, false, false] rfl rfl rfl (by kernel_rfl) (by kernel_rfl) (by kernel_rfl) (by kernel_rfl) (by kernel_rfl) (yieldsIf_load_row (by rfl) 24 _ rfl (w.heap.size + 1) rfl 24 (k32 n2) (fun _ h => M3.out.below h M3.out.lt) Try.underlying24 rfl (by rw [k32_size]; kernel_rfl)) ((show Below W1.heap.size W1 W1.drew from (Below.refl _ _).drew)) ?_
      (try simp only [List.setIfInBounds_toArray, List.set_cons_succ, List.set_cons_zero])
      refine wpBut_r3 (i := 1) (j := 4) (l := 5) (by kernel_rfl) ?_ ?_ ?_
      · refine go_call 1 9 #[true, true, true, false, false, false, false, false] rfl rfl rfl (by rfl) rfl rfl (by rfl) ent30 (by rfl) (Hf1.out _) ?_
        rintro e wW11 ⟨rfl, hb⟩
        have hkW11 := held_next (show Below W1.heap.size W1 W1.drew from (Below.refl _ _).drew) hb
        refine ⟨_, rfl, fun _ => hkW11, ?_⟩
        clear hb
        (try simp only [List.setIfInBounds_toArray, List.set_cons_succ, List.set_cons_zero])
        refine wpBut_r3 (i := 3) (j := 4) (l := 5) (by kernel_rfl) ?_ ?_ ?_
        · refine go_call 3 11 #[true, true, true, true, false, false, false, false] rfl rfl rfl (by rfl) rfl rfl (by rfl) ent30 (by rfl) (Hf2.out _) ?_
          rintro e wW12 ⟨rfl, hb⟩
          have hkW12 := held_next hkW11 hb
          refine ⟨_, rfl, fun _ => hkW12, ?_⟩
          clear hb
          (try simp only [List.setIfInBounds_toArray, List.set_cons_succ, List.set_cons_zero])
          refine wpBut_r2 (i := 4) (j := 5) (by kernel_rfl) ?_ ?_
          · refine go_alloc 4 5 #[true, true, true, true, true, false, false, false] rfl rfl rfl (by rfl) 36 rfl _ al36 ?_
            intro wW13 hw2
            have hkW13 := (hkW12).alloc (hkW12).size (.cells (#[.int .u64 0, .int .u64 0, .int .u64 0, .int .u64 0] : Array Value) 36)
            rw [← hw2] at hkW13
            have MQ := HasN.new (wW12) (#[.int .u64 0, .int .u64 0, .int .u64 0, .int .u64 0] : Array Value) 36 4 rfl; rw [← hw2] at MQ; have MA4 := Lib.hid MQ; clear MQ
            have HA4 := Lib.hid (show W1.heap.size ≤ _ from (hkW12).size)
            clear hw2
            refine ⟨fun _ => hkW13, ?_⟩
            (try simp only [List.setIfInBounds_toArray, List.set_cons_succ, List.set_cons_zero])
            refine wpBut_r1 (i := 5) (by kernel_rfl) ?_
            refine go_alloc 5 6 #[true, true, true, true, true, true, false, false] rfl rfl rfl (by rfl) 36 rfl _ al36 ?_
            intro wW14 hw2
            have hkW14 := (hkW13).alloc (hkW13).size (.cells (#[.int .u64 0, .int .u64 0, .int .u64 0, .int .u64 0] : Array Value) 36)
            rw [← hw2] at hkW14
            have hne4_5 := MA4.out.lt
            have MQ := MA4.out.alloc (.cells (#[.int .u64 0, .int .u64 0, .int .u64 0, .int .u64 0] : Array Value) 36); rw [← hw2] at MQ; clear MA4; have MA4 := Lib.hid MQ; clear MQ
            have MQ := HasN.new (wW13) (#[.int .u64 0, .int .u64 0, .int .u64 0, .int .u64 0] : Array Value) 36 4 rfl; rw [← hw2] at MQ; have MA5 := Lib.hid MQ; clear MQ
            have HA5 := Lib.hid (show W1.heap.size ≤ _ from (hkW13).size)
            clear hw2
            refine ⟨fun _ => hkW14, ?_⟩
            (try simp only [List.setIfInBounds_toArray, List.set_cons_succ, List.set_cons_zero])
            refine wpBut_r1 (i := 6) (by kernel_rfl) ?_
            obtain ⟨Z, hZ, mZ⟩ := MA4.out
            refine go_store2 6 #[true, true, true, true, true, true, true, false] rfl rfl rfl (by rfl) 36 _ _ rfl _ _ rfl rfl 36 Z mZ (by rw [e4_size]; kernel_rfl) (hZ.trans (e4_size _).symm) (row_one _ _ _) ?_
            intro wW15 hw2
            have hkW15 := below_setRow (hkW14) _ (e4 a1) HA4.out
            rw [← hw2] at hkW15
            clear MA4
            have MQ := MA5.out.setRow_other _ (e4 a1) (show _ ≠ wW12.heap.size by omega); rw [← hw2] at MQ; clear MA5; have MA5 := Lib.hid MQ; clear MQ
            have MQ := mZ.setRow (e4 a1); rw [← hw2] at MQ; have MA4 := Lib.hid MQ; clear MQ mZ hZ hw2
            refine ⟨fun _ => hkW15, ?_⟩
            (try simp only [List.setIfInBounds_toArray, List.set_cons_succ, List.set_cons_zero])
            refine wpBut_r1 (i := 7) (by kernel_rfl) ?_
            obtain ⟨Z, hZ, mZ⟩ := MA5.out
            refine go_store2 7 #[true, true, true, true, true, true, true, true] rfl rfl rfl (by rfl) 36 _ _ rfl _ _ rfl rfl 36 Z mZ (by rw [e4_size]; kernel_rfl) (hZ.trans (e4_size _).symm) (row_one _ _ _) ?_
            intro wW16 hw2
            have hkW16 := below_setRow (hkW15) _ (e4 a2) HA5.out
            rw [← hw2] at hkW16
            clear MA5
            have MQ := MA4.out.setRow_other _ (e4 a2) (show _ ≠ wW13.heap.size by omega); rw [← hw2] at MQ; clear MA4; have MA4 := Lib.hid MQ; clear MQ
            have MQ := mZ.setRow (e4 a2); rw [← hw2] at MQ; have MA5 := Lib.hid MQ; clear MQ mZ hZ hw2
            refine ⟨fun _ => hkW16, ?_⟩
            (try simp only [List.setIfInBounds_toArray, List.set_cons_succ, List.set_cons_zero])
            exact wpBut_done (by kernel_rfl) (NoPanic.normal (HQ.out (_, _) _ ⟨HA4.out, MA4.out, HA5.out, MA5.out, (hkW16)⟩))
          · refine go_alloc 5 6 #[true, true, true, true, false, true, false, false] rfl rfl rfl (by rfl) 36 rfl _ al36 ?_
            intro wW13 hw2
            have hkW13 := (hkW12).alloc (hkW12).size (.cells (#[.int .u64 0, .int .u64 0, .int .u64 0, .int .u64 0] : Array Value) 36)
            rw [← hw2] at hkW13
            have MQ := HasN.new (wW12) (#[.int .u64 0, .int .u64 0, .int .u64 0, .int .u64 0] : Array Value) 36 4 rfl; rw [← hw2] at MQ; have MA5 := Lib.hid MQ; clear MQ
            have HA5 := Lib.hid (show W1.heap.size ≤ _ from (hkW12).size)
            clear hw2
            refine ⟨fun _ => hkW13, ?_⟩
            (try simp only [List.setIfInBounds_toArray, List.set_cons_succ, List.set_cons_zero])
            refine wpBut_r1 (i := 4) (by kernel_rfl) ?_
            refine go_alloc 4 5 #[true, true, true, true, true, true, false, false] rfl rfl rfl (by rfl) 36 rfl _ al36 ?_
            intro wW14 hw2
            have hkW14 := (hkW13).alloc (hkW13).size (.cells (#[.int .u64 0, .int .u64 0, .int .u64 0, .int .u64 0] : Array Value) 36)
            rw [← hw2] at hkW14
            have hne5_4 := MA5.out.lt
            have MQ := MA5.out.alloc (.cells (#[.int .u64 0, .int .u64 0, .int .u64 0, .int .u64 0] : Array Value) 36); rw [← hw2] at MQ; clear MA5; have MA5 := Lib.hid MQ; clear MQ
            have MQ := HasN.new (wW13) (#[.int .u64 0, .int .u64 0, .int .u64 0, .int .u64 0] : Array Value) 36 4 rfl; rw [← hw2] at MQ; have MA4 := Lib.hid MQ; clear MQ
            have HA4 := Lib.hid (show W1.heap.size ≤ _ from (hkW13).size)
            clear hw2
            refine ⟨fun _ => hkW14, ?_⟩
            (try simp only [List.setIfInBounds_toArray, List.set_cons_succ, List.set_cons_zero])
            refine wpBut_r1 (i := 6) (by kernel_rfl) ?_
            obtain ⟨Z, hZ, mZ⟩ := MA4.out
            refine go_store2 6 #[true, true, true, true, true, true, true, false] rfl rfl rfl (by rfl) 36 _ _ rfl _ _ rfl rfl 36 Z mZ (by rw [e4_size]; kernel_rfl) (hZ.trans (e4_size _).symm) (row_one _ _ _) ?_
            intro wW15 hw2
            have hkW15 := below_setRow (hkW14) _ (e4 a1) HA4.out
            rw [← hw2] at hkW15
            clear MA4
            have MQ := MA5.out.setRow_other _ (e4 a1) (show _ ≠ wW13.heap.size by omega); rw [← hw2] at MQ; clear MA5; have MA5 := Lib.hid MQ; clear MQ
            have MQ := mZ.setRow (e4 a1); rw [← hw2] at MQ; have MA4 := Lib.hid MQ; clear MQ mZ hZ hw2
            refine ⟨fun _ => hkW15, ?_⟩
            (try simp only [List.setIfInBounds_toArray, List.set_cons_succ, List.set_cons_zero])
            refine wpBut_r1 (i := 7) (by kernel_rfl) ?_
            obtain ⟨Z, hZ, mZ⟩ := MA5.out
            refine go_store2 7 #[true, true, true, true, true, true, true, true] rfl rfl rfl (by rfl) 36 _ _ rfl _ _ rfl rfl 36 Z mZ (by rw [e4_size]; kernel_rfl) (hZ.trans (e4_size _).symm) (row_one _ _ _) ?_
            intro wW16 hw2
            have hkW16 := below_setRow (hkW15) _ (e4 a2) HA5.out
            rw [← hw2] at hkW16
            clear MA5
            have MQ := MA4.out.setRow_other _ (e4 a2) (show _ ≠ wW12.heap.size by omega); rw [← hw2] at MQ; clear MA4; have MA4 := Lib.hid MQ; clear MQ
            have MQ := mZ.setRow (e4 a2); rw [← hw2] at MQ; have MA5 := Lib.hid MQ; clear MQ mZ hZ hw2
            refine ⟨fun _ => hkW16, ?_⟩
            (try simp only [List.setIfInBounds_toArray, List.set_cons_succ, List.set_cons_zero])
            exact wpBut_done (by kernel_rfl) (NoPanic.normal (HQ.out (_, _) _ ⟨HA4.out, MA4.out, HA5.out, MA5.out, (hkW16)⟩))
        · refine go_alloc 4 5 #[true, true, true, false, true, false, false, false] rfl rfl rfl (by rfl) 36 rfl _ al36 ?_
          intro wW12 hw2
          have hkW12 := (hkW11).alloc (hkW11).size (.cells (#[.int .u64 0, .int .u64 0, .int .u64 0, .int .u64 0] : Array Value) 36)
          rw [← hw2] at hkW12
          have MQ := HasN.new (wW11) (#[.int .u64 0, .int .u64 0, .int .u64 0, .int .u64 0] : Array Value) 36 4 rfl; rw [← hw2] at MQ; have MA4 := Lib.hid MQ; clear MQ
          have HA4 := Lib.hid (show W1.heap.size ≤ _ from (hkW11).size)
          clear hw2
          refine ⟨fun _ => hkW12, ?_⟩
          (try simp only [List.setIfInBounds_toArray, List.set_cons_succ, List.set_cons_zero])
          refine wpBut_r2 (i := 3) (j := 5) (by kernel_rfl) ?_ ?_
          · refine go_call 3 11 #[true, true, true, true, true, false, false, false] rfl rfl rfl (by rfl) rfl rfl (by rfl) ent30 (by rfl) (Hf2.out _) ?_
            rintro e wW13 ⟨rfl, hb⟩
            have hkW13 := held_next hkW12 hb
            have MQ4 := Lib.hid (MA4.out.call hb); clear MA4
            have MA4 := MQ4; clear MQ4
            refine ⟨_, rfl, fun _ => hkW13, ?_⟩
            clear hb
            (try simp only [List.setIfInBounds_toArray, List.set_cons_succ, List.set_cons_zero])
            refine wpBut_r1 (i := 5) (by kernel_rfl) ?_
            refine go_alloc 5 6 #[true, true, true, true, true, true, false, false] rfl rfl rfl (by rfl) 36 rfl _ al36 ?_
            intro wW14 hw2
            have hkW14 := (hkW13).alloc (hkW13).size (.cells (#[.int .u64 0, .int .u64 0, .int .u64 0, .int .u64 0] : Array Value) 36)
            rw [← hw2] at hkW14
            have hne4_5 := MA4.out.lt
            have MQ := MA4.out.alloc (.cells (#[.int .u64 0, .int .u64 0, .int .u64 0, .int .u64 0] : Array Value) 36); rw [← hw2] at MQ; clear MA4; have MA4 := Lib.hid MQ; clear MQ
            have MQ := HasN.new (wW13) (#[.int .u64 0, .int .u64 0, .int .u64 0, .int .u64 0] : Array Value) 36 4 rfl; rw [← hw2] at MQ; have MA5 := Lib.hid MQ; clear MQ
            have HA5 := Lib.hid (show W1.heap.size ≤ _ from (hkW13).size)
            clear hw2
            refine ⟨fun _ => hkW14, ?_⟩
            (try simp only [List.setIfInBounds_toArray, List.set_cons_succ, List.set_cons_zero])
            refine wpBut_r1 (i := 6) (by kernel_rfl) ?_
            obtain ⟨Z, hZ, mZ⟩ := MA4.out
            refine go_store2 6 #[true, true, true, true, true, true, true, false] rfl rfl rfl (by rfl) 36 _ _ rfl _ _ rfl rfl 36 Z mZ (by rw [e4_size]; kernel_rfl) (hZ.trans (e4_size _).symm) (row_one _ _ _) ?_
            intro wW15 hw2
            have hkW15 := below_setRow (hkW14) _ (e4 a1) HA4.out
            rw [← hw2] at hkW15
            clear MA4
            have MQ := MA5.out.setRow_other _ (e4 a1) (show _ ≠ wW11.heap.size by omega); rw [← hw2] at MQ; clear MA5; have MA5 := Lib.hid MQ; clear MQ
            have MQ := mZ.setRow (e4 a1); rw [← hw2] at MQ; have MA4 := Lib.hid MQ; clear MQ mZ hZ hw2
            refine ⟨fun _ => hkW15, ?_⟩
            (try simp only [List.setIfInBounds_toArray, List.set_cons_succ, List.set_cons_zero])
            refine wpBut_r1 (i := 7) (by kernel_rfl) ?_
            obtain ⟨Z, hZ, mZ⟩ := MA5.out
            refine go_store2 7 #[true, true, true, true, true, true, true, true] rfl rfl rfl (by rfl) 36 _ _ rfl _ _ rfl rfl 36 Z mZ (by rw [e4_size]; kernel_rfl) (hZ.trans (e4_size _).symm) (row_one _ _ _) ?_
            intro wW16 hw2
            have hkW16 := below_setRow (hkW15) _ (e4 a2) HA5.out
            rw [← hw2] at hkW16
            clear MA5
            have MQ := MA4.out.setRow_other _ (e4 a2) (show _ ≠ wW13.heap.size by omega); rw [← hw2] at MQ; clear MA4; have MA4 := Lib.hid MQ; clear MQ
            have MQ := mZ.setRow (e4 a2); rw [← hw2] at MQ; have MA5 := Lib.hid MQ; clear MQ mZ hZ hw2
            refine ⟨fun _ => hkW16, ?_⟩
            (try simp only [List.setIfInBounds_toArray, List.set_cons_succ, List.set_cons_zero])
            exact wpBut_done (by kernel_rfl) (NoPanic.normal (HQ.out (_, _) _ ⟨HA4.out, MA4.out, HA5.out, MA5.out, (hkW16)⟩))
          · refine go_alloc 5 6 #[true, true, true, false, true, true, false, false] rfl rfl rfl (by rfl) 36 rfl _ al36 ?_
            intro wW13 hw2
            have hkW13 := (hkW12).alloc (hkW12).size (.cells (#[.int .u64 0, .int .u64 0, .int .u64 0, .int .u64 0] : Array Value) 36)
            rw [← hw2] at hkW13
            have hne4_5 := MA4.out.lt
            have MQ := MA4.out.alloc (.cells (#[.int .u64 0, .int .u64 0, .int .u64 0, .int .u64 0] : Array Value) 36); rw [← hw2] at MQ; clear MA4; have MA4 := Lib.hid MQ; clear MQ
            have MQ := HasN.new (wW12) (#[.int .u64 0, .int .u64 0, .int .u64 0, .int .u64 0] : Array Value) 36 4 rfl; rw [← hw2] at MQ; have MA5 := Lib.hid MQ; clear MQ
            have HA5 := Lib.hid (show W1.heap.size ≤ _ from (hkW12).size)
            clear hw2
            refine ⟨fun _ => hkW13, ?_⟩
            (try simp only [List.setIfInBounds_toArray, List.set_cons_succ, List.set_cons_zero])
            refine wpBut_r1 (i := 3) (by kernel_rfl) ?_
            refine go_call 3 11 #[true, true, true, true, true, true, false, false] rfl rfl rfl (by rfl) rfl rfl (by rfl) ent30 (by rfl) (Hf2.out _) ?_
            rintro e wW14 ⟨rfl, hb⟩
            have hkW14 := held_next hkW13 hb
            have MQ4 := Lib.hid (MA4.out.call hb); clear MA4
            have MA4 := MQ4; clear MQ4
            have MQ5 := Lib.hid (MA5.out.call hb); clear MA5
            have MA5 := MQ5; clear MQ5
            refine ⟨_, rfl, fun _ => hkW14, ?_⟩
            clear hb
            (try simp only [List.setIfInBounds_toArray, List.set_cons_succ, List.set_cons_zero])
            refine wpBut_r1 (i := 6) (by kernel_rfl) ?_
            obtain ⟨Z, hZ, mZ⟩ := MA4.out
            refine go_store2 6 #[true, true, true, true, true, true, true, false] rfl rfl rfl (by rfl) 36 _ _ rfl _ _ rfl rfl 36 Z mZ (by rw [e4_size]; kernel_rfl) (hZ.trans (e4_size _).symm) (row_one _ _ _) ?_
            intro wW15 hw2
            have hkW15 := below_setRow (hkW14) _ (e4 a1) HA4.out
            rw [← hw2] at hkW15
            clear MA4
            have MQ := MA5.out.setRow_other _ (e4 a1) (show _ ≠ wW11.heap.size by omega); rw [← hw2] at MQ; clear MA5; have MA5 := Lib.hid MQ; clear MQ
            have MQ := mZ.setRow (e4 a1); rw [← hw2] at MQ; have MA4 := Lib.hid MQ; clear MQ mZ hZ hw2
            refine ⟨fun _ => hkW15, ?_⟩
            (try simp only [List.setIfInBounds_toArray, List.set_cons_succ, List.set_cons_zero])
            refine wpBut_r1 (i := 7) (by kernel_rfl) ?_
            obtain ⟨Z, hZ, mZ⟩ := MA5.out
            refine go_store2 7 #[true, true, true, true, true, true, true, true] rfl rfl rfl (by rfl) 36 _ _ rfl _ _ rfl rfl 36 Z mZ (by rw [e4_size]; kernel_rfl) (hZ.trans (e4_size _).symm) (row_one _ _ _) ?_
            intro wW16 hw2
            have hkW16 := below_setRow (hkW15) _ (e4 a2) HA5.out
            rw [← hw2] at hkW16
            clear MA5
            have MQ := MA4.out.setRow_other _ (e4 a2) (show _ ≠ wW12.heap.size by omega); rw [← hw2] at MQ; clear MA4; have MA4 := Lib.hid MQ; clear MQ
            have MQ := mZ.setRow (e4 a2); rw [← hw2] at MQ; have MA5 := Lib.hid MQ; clear MQ mZ hZ hw2
            refine ⟨fun _ => hkW16, ?_⟩
            (try simp only [List.setIfInBounds_toArray, List.set_cons_succ, List.set_cons_zero])
            exact wpBut_done (by kernel_rfl) (NoPanic.normal (HQ.out (_, _) _ ⟨HA4.out, MA4.out, HA5.out, MA5.out, (hkW16)⟩))
        · refine go_alloc 5 6 #[true, true, true, false, false, true, false, false] rfl rfl rfl (by rfl) 36 rfl _ al36 ?_
          intro wW12 hw2
          have hkW12 := (hkW11).alloc (hkW11).size (.cells (#[.int .u64 0, .int .u64 0, .int .u64 0, .int .u64 0] : Array Value) 36)
          rw [← hw2] at hkW12
          have MQ := HasN.new (wW11) (#[.int .u64 0, .int .u64 0, .int .u64 0, .int .u64 0] : Array Value) 36 4 rfl; rw [← hw2] at MQ; have MA5 := Lib.hid MQ; clear MQ
          have HA5 := Lib.hid (show W1.heap.size ≤ _ from (hkW11).size)
          clear hw2
          refine ⟨fun _ => hkW12, ?_⟩
          (try simp only [List.setIfInBounds_toArray, List.set_cons_succ, List.set_cons_zero])
          refine wpBut_r2 (i := 3) (j := 4) (by kernel_rfl) ?_ ?_
          · refine go_call 3 11 #[true, true, true, true, false, true, false, false] rfl rfl rfl (by rfl) rfl rfl (by rfl) ent30 (by rfl) (Hf2.out _) ?_
            rintro e wW13 ⟨rfl, hb⟩
            have hkW13 := held_next hkW12 hb
            have MQ5 := Lib.hid (MA5.out.call hb); clear MA5
            have MA5 := MQ5; clear MQ5
            refine ⟨_, rfl, fun _ => hkW13, ?_⟩
            clear hb
            (try simp only [List.setIfInBounds_toArray, List.set_cons_succ, List.set_cons_zero])
            refine wpBut_r1 (i := 4) (by kernel_rfl) ?_
            refine go_alloc 4 5 #[true, true, true, true, true, true, false, false] rfl rfl rfl (by rfl) 36 rfl _ al36 ?_
            intro wW14 hw2
            have hkW14 := (hkW13).alloc (hkW13).size (.cells (#[.int .u64 0, .int .u64 0, .int .u64 0, .int .u64 0] : Array Value) 36)
            rw [← hw2] at hkW14
            have hne5_4 := MA5.out.lt
            have MQ := MA5.out.alloc (.cells (#[.int .u64 0, .int .u64 0, .int .u64 0, .int .u64 0] : Array Value) 36); rw [← hw2] at MQ; clear MA5; have MA5 := Lib.hid MQ; clear MQ
            have MQ := HasN.new (wW13) (#[.int .u64 0, .int .u64 0, .int .u64 0, .int .u64 0] : Array Value) 36 4 rfl; rw [← hw2] at MQ; have MA4 := Lib.hid MQ; clear MQ
            have HA4 := Lib.hid (show W1.heap.size ≤ _ from (hkW13).size)
            clear hw2
            refine ⟨fun _ => hkW14, ?_⟩
            (try simp only [List.setIfInBounds_toArray, List.set_cons_succ, List.set_cons_zero])
            refine wpBut_r1 (i := 6) (by kernel_rfl) ?_
            obtain ⟨Z, hZ, mZ⟩ := MA4.out
            refine go_store2 6 #[true, true, true, true, true, true, true, false] rfl rfl rfl (by rfl) 36 _ _ rfl _ _ rfl rfl 36 Z mZ (by rw [e4_size]; kernel_rfl) (hZ.trans (e4_size _).symm) (row_one _ _ _) ?_
            intro wW15 hw2
            have hkW15 := below_setRow (hkW14) _ (e4 a1) HA4.out
            rw [← hw2] at hkW15
            clear MA4
            have MQ := MA5.out.setRow_other _ (e4 a1) (show _ ≠ wW13.heap.size by omega); rw [← hw2] at MQ; clear MA5; have MA5 := Lib.hid MQ; clear MQ
            have MQ := mZ.setRow (e4 a1); rw [← hw2] at MQ; have MA4 := Lib.hid MQ; clear MQ mZ hZ hw2
            refine ⟨fun _ => hkW15, ?_⟩
            (try simp only [List.setIfInBounds_toArray, List.set_cons_succ, List.set_cons_zero])
            refine wpBut_r1 (i := 7) (by kernel_rfl) ?_
            obtain ⟨Z, hZ, mZ⟩ := MA5.out
            refine go_store2 7 #[true, true, true, true, true, true, true, true] rfl rfl rfl (by rfl) 36 _ _ rfl _ _ rfl rfl 36 Z mZ (by rw [e4_size]; kernel_rfl) (hZ.trans (e4_size _).symm) (row_one _ _ _) ?_
            intro wW16 hw2
            have hkW16 := below_setRow (hkW15) _ (e4 a2) HA5.out
            rw [← hw2] at hkW16
            clear MA5
            have MQ := MA4.out.setRow_other _ (e4 a2) (show _ ≠ wW11.heap.size by omega); rw [← hw2] at MQ; clear MA4; have MA4 := Lib.hid MQ; clear MQ
            have MQ := mZ.setRow (e4 a2); rw [← hw2] at MQ; have MA5 := Lib.hid MQ; clear MQ mZ hZ hw2
            refine ⟨fun _ => hkW16, ?_⟩
            (try simp only [List.setIfInBounds_toArray, List.set_cons_succ, List.set_cons_zero])
            exact wpBut_done (by kernel_rfl) (NoPanic.normal (HQ.out (_, _) _ ⟨HA4.out, MA4.out, HA5.out, MA5.out, (hkW16)⟩))
          · refine go_alloc 4 5 #[true, true, true, false, true, true, false, false] rfl rfl rfl (by rfl) 36 rfl _ al36 ?_
            intro wW13 hw2
            have hkW13 := (hkW12).alloc (hkW12).size (.cells (#[.int .u64 0, .int .u64 0, .int .u64 0, .int .u64 0] : Array Value) 36)
            rw [← hw2] at hkW13
            have hne5_4 := MA5.out.lt
            have MQ := MA5.out.alloc (.cells (#[.int .u64 0, .int .u64 0, .int .u64 0, .int .u64 0] : Array Value) 36); rw [← hw2] at MQ; clear MA5; have MA5 := Lib.hid MQ; clear MQ
            have MQ := HasN.new (wW12) (#[.int .u64 0, .int .u64 0, .int .u64 0, .int .u64 0] : Array Value) 36 4 rfl; rw [← hw2] at MQ; have MA4 := Lib.hid MQ; clear MQ
            have HA4 := Lib.hid (show W1.heap.size ≤ _ from (hkW12).size)
            clear hw2
            refine ⟨fun _ => hkW13, ?_⟩
            (try simp only [List.setIfInBounds_toArray, List.set_cons_succ, List.set_cons_zero])
            refine wpBut_r1 (i := 3) (by kernel_rfl) ?_
            refine go_call 3 11 #[true, true, true, true, true, true, false, false] rfl rfl rfl (by rfl) rfl rfl (by rfl) ent30 (by rfl) (Hf2.out _) ?_
            rintro e wW14 ⟨rfl, hb⟩
            have hkW14 := held_next hkW13 hb
            have MQ5 := Lib.hid (MA5.out.call hb); clear MA5
            have MA5 := MQ5; clear MQ5
            have MQ4 := Lib.hid (MA4.out.call hb); clear MA4
            have MA4 := MQ4; clear MQ4
            refine ⟨_, rfl, fun _ => hkW14, ?_⟩
            clear hb
            (try simp only [List.setIfInBounds_toArray, List.set_cons_succ, List.set_cons_zero])
            refine wpBut_r1 (i := 6) (by kernel_rfl) ?_
            obtain ⟨Z, hZ, mZ⟩ := MA4.out
            refine go_store2 6 #[true, true, true, true, true, true, true, false] rfl rfl rfl (by rfl) 36 _ _ rfl _ _ rfl rfl 36 Z mZ (by rw [e4_size]; kernel_rfl) (hZ.trans (e4_size _).symm) (row_one _ _ _) ?_
            intro wW15 hw2
            have hkW15 := below_setRow (hkW14) _ (e4 a1) HA4.out
            rw [← hw2] at hkW15
            clear MA4
            have MQ := MA5.out.setRow_other _ (e4 a1) (show _ ≠ wW12.heap.size by omega); rw [← hw2] at MQ; clear MA5; have MA5 := Lib.hid MQ; clear MQ
            have MQ := mZ.setRow (e4 a1); rw [← hw2] at MQ; have MA4 := Lib.hid MQ; clear MQ mZ hZ hw2
            refine ⟨fun _ => hkW15, ?_⟩
            (try simp only [List.setIfInBounds_toArray, List.set_cons_succ, List.set_cons_zero])
            refine wpBut_r1 (i := 7) (by kernel_rfl) ?_
            obtain ⟨Z, hZ, mZ⟩ := MA5.out
            refine go_store2 7 #[true, true, true, true, true, true, true, true] rfl rfl rfl (by rfl) 36 _ _ rfl _ _ rfl rfl 36 Z mZ (by rw [e4_size]; kernel_rfl) (hZ.trans (e4_size _).symm) (row_one _ _ _) ?_
            intro wW16 hw2
            have hkW16 := below_setRow (hkW15) _ (e4 a2) HA5.out
            rw [← hw2] at hkW16
            clear MA5
            have MQ := MA4.out.setRow_other _ (e4 a2) (show _ ≠ wW11.heap.size by omega); rw [← hw2] at MQ; clear MA4; have MA4 := Lib.hid MQ; clear MQ
            have MQ := mZ.setRow (e4 a2); rw [← hw2] at MQ; have MA5 := Lib.hid MQ; clear MQ mZ hZ hw2
            refine ⟨fun _ => hkW16, ?_⟩
            (try simp only [List.setIfInBounds_toArray, List.set_cons_succ, List.set_cons_zero])
            exact wpBut_done (by kernel_rfl) (NoPanic.normal (HQ.out (_, _) _ ⟨HA4.out, MA4.out, HA5.out, MA5.out, (hkW16)⟩))
      · refine go_alloc 4 5 #[true, false, true, false, true, false, false, false] rfl rfl rfl (by rfl) 36 rfl _ al36 ?_
        intro wW11 hw2
        have hkW11 := ((show Below W1.heap.size W1 W1.drew from (Below.refl _ _).drew)).alloc ((show Below W1.heap.size W1 W1.drew from (Below.refl _ _).drew)).size (.cells (#[.int .u64 0, .int .u64 0, .int .u64 0, .int .u64 0] : Array Value) 36)
        rw [← hw2] at hkW11
        have MQ := HasN.new (W1.drew) (#[.int .u64 0, .int .u64 0, .int .u64 0, .int .u64 0] : Array Value) 36 4 rfl; rw [← hw2] at MQ; have MA4 := Lib.hid MQ; clear MQ
        have HA4 := Lib.hid (show W1.heap.size ≤ _ from ((show Below W1.heap.size W1 W1.drew from (Below.refl _ _).drew)).size)
        clear hw2
        refine ⟨fun _ => hkW11, ?_⟩
        (try simp only [List.setIfInBounds_toArray, List.set_cons_succ, List.set_cons_zero])
        refine wpBut_r2 (i := 1) (j := 5) (by kernel_rfl) ?_ ?_
        · refine go_call 1 9 #[true, true, true, false, true, false, false, false] rfl rfl rfl (by rfl) rfl rfl (by rfl) ent30 (by rfl) (Hf1.out _) ?_
          rintro e wW12 ⟨rfl, hb⟩
          have hkW12 := held_next hkW11 hb
          have MQ4 := Lib.hid (MA4.out.call hb); clear MA4
          have MA4 := MQ4; clear MQ4
          refine ⟨_, rfl, fun _ => hkW12, ?_⟩
          clear hb
          (try simp only [List.setIfInBounds_toArray, List.set_cons_succ, List.set_cons_zero])
          refine wpBut_r2 (i := 3) (j := 5) (by kernel_rfl) ?_ ?_
          · refine go_call 3 11 #[true, true, true, true, true, false, false, false] rfl rfl rfl (by rfl) rfl rfl (by rfl) ent30 (by rfl) (Hf2.out _) ?_
            rintro e wW13 ⟨rfl, hb⟩
            have hkW13 := held_next hkW12 hb
            have MQ4 := Lib.hid (MA4.out.call hb); clear MA4
            have MA4 := MQ4; clear MQ4
            refine ⟨_, rfl, fun _ => hkW13, ?_⟩
            clear hb
            (try simp only [List.setIfInBounds_toArray, List.set_cons_succ, List.set_cons_zero])
            refine wpBut_r1 (i := 5) (by kernel_rfl) ?_
            refine go_alloc 5 6 #[true, true, true, true, true, true, false, false] rfl rfl rfl (by rfl) 36 rfl _ al36 ?_
            intro wW14 hw2
            have hkW14 := (hkW13).alloc (hkW13).size (.cells (#[.int .u64 0, .int .u64 0, .int .u64 0, .int .u64 0] : Array Value) 36)
            rw [← hw2] at hkW14
            have hne4_5 := MA4.out.lt
            have MQ := MA4.out.alloc (.cells (#[.int .u64 0, .int .u64 0, .int .u64 0, .int .u64 0] : Array Value) 36); rw [← hw2] at MQ; clear MA4; have MA4 := Lib.hid MQ; clear MQ
            have MQ := HasN.new (wW13) (#[.int .u64 0, .int .u64 0, .int .u64 0, .int .u64 0] : Array Value) 36 4 rfl; rw [← hw2] at MQ; have MA5 := Lib.hid MQ; clear MQ
            have HA5 := Lib.hid (show W1.heap.size ≤ _ from (hkW13).size)
            clear hw2
            refine ⟨fun _ => hkW14, ?_⟩
            (try simp only [List.setIfInBounds_toArray, List.set_cons_succ, List.set_cons_zero])
            refine wpBut_r1 (i := 6) (by kernel_rfl) ?_
            obtain ⟨Z, hZ, mZ⟩ := MA4.out
            refine go_store2 6 #[true, true, true, true, true, true, true, false] rfl rfl rfl (by rfl) 36 _ _ rfl _ _ rfl rfl 36 Z mZ (by rw [e4_size]; kernel_rfl) (hZ.trans (e4_size _).symm) (row_one _ _ _) ?_
            intro wW15 hw2
            have hkW15 := below_setRow (hkW14) _ (e4 a1) HA4.out
            rw [← hw2] at hkW15
            clear MA4
            have MQ := MA5.out.setRow_other _ (e4 a1) (show _ ≠ W1.drew.heap.size by omega); rw [← hw2] at MQ; clear MA5; have MA5 := Lib.hid MQ; clear MQ
            have MQ := mZ.setRow (e4 a1); rw [← hw2] at MQ; have MA4 := Lib.hid MQ; clear MQ mZ hZ hw2
            refine ⟨fun _ => hkW15, ?_⟩
            (try simp only [List.setIfInBounds_toArray, List.set_cons_succ, List.set_cons_zero])
            refine wpBut_r1 (i := 7) (by kernel_rfl) ?_
            obtain ⟨Z, hZ, mZ⟩ := MA5.out
            refine go_store2 7 #[true, true, true, true, true, true, true, true] rfl rfl rfl (by rfl) 36 _ _ rfl _ _ rfl rfl 36 Z mZ (by rw [e4_size]; kernel_rfl) (hZ.trans (e4_size _).symm) (row_one _ _ _) ?_
            intro wW16 hw2
            have hkW16 := below_setRow (hkW15) _ (e4 a2) HA5.out
            rw [← hw2] at hkW16
            clear MA5
            have MQ := MA4.out.setRow_other _ (e4 a2) (show _ ≠ wW13.heap.size by omega); rw [← hw2] at MQ; clear MA4; have MA4 := Lib.hid MQ; clear MQ
            have MQ := mZ.setRow (e4 a2); rw [← hw2] at MQ; have MA5 := Lib.hid MQ; clear MQ mZ hZ hw2
            refine ⟨fun _ => hkW16, ?_⟩
            (try simp only [List.setIfInBounds_toArray, List.set_cons_succ, List.set_cons_zero])
            exact wpBut_done (by kernel_rfl) (NoPanic.normal (HQ.out (_, _) _ ⟨HA4.out, MA4.out, HA5.out, MA5.out, (hkW16)⟩))
          · refine go_alloc 5 6 #[true, true, true, false, true, true, false, false] rfl rfl rfl (by rfl) 36 rfl _ al36 ?_
            intro wW13 hw2
            have hkW13 := (hkW12).alloc (hkW12).size (.cells (#[.int .u64 0, .int .u64 0, .int .u64 0, .int .u64 0] : Array Value) 36)
            rw [← hw2] at hkW13
            have hne4_5 := MA4.out.lt
            have MQ := MA4.out.alloc (.cells (#[.int .u64 0, .int .u64 0, .int .u64 0, .int .u64 0] : Array Value) 36); rw [← hw2] at MQ; clear MA4; have MA4 := Lib.hid MQ; clear MQ
            have MQ := HasN.new (wW12) (#[.int .u64 0, .int .u64 0, .int .u64 0, .int .u64 0] : Array Value) 36 4 rfl; rw [← hw2] at MQ; have MA5 := Lib.hid MQ; clear MQ
            have HA5 := Lib.hid (show W1.heap.size ≤ _ from (hkW12).size)
            clear hw2
            refine ⟨fun _ => hkW13, ?_⟩
            (try simp only [List.setIfInBounds_toArray, List.set_cons_succ, List.set_cons_zero])
            refine wpBut_r1 (i := 3) (by kernel_rfl) ?_
            refine go_call 3 11 #[true, true, true, true, true, true, false, false] rfl rfl rfl (by rfl) rfl rfl (by rfl) ent30 (by rfl) (Hf2.out _) ?_
            rintro e wW14 ⟨rfl, hb⟩
            have hkW14 := held_next hkW13 hb
            have MQ4 := Lib.hid (MA4.out.call hb); clear MA4
            have MA4 := MQ4; clear MQ4
            have MQ5 := Lib.hid (MA5.out.call hb); clear MA5
            have MA5 := MQ5; clear MQ5
            refine ⟨_, rfl, fun _ => hkW14, ?_⟩
            clear hb
            (try simp only [List.setIfInBounds_toArray, List.set_cons_succ, List.set_cons_zero])
            refine wpBut_r1 (i := 6) (by kernel_rfl) ?_
            obtain ⟨Z, hZ, mZ⟩ := MA4.out
            refine go_store2 6 #[true, true, true, true, true, true, true, false] rfl rfl rfl (by rfl) 36 _ _ rfl _ _ rfl rfl 36 Z mZ (by rw [e4_size]; kernel_rfl) (hZ.trans (e4_size _).symm) (row_one _ _ _) ?_
            intro wW15 hw2
            have hkW15 := below_setRow (hkW14) _ (e4 a1) HA4.out
            rw [← hw2] at hkW15
            clear MA4
            have MQ := MA5.out.setRow_other _ (e4 a1) (show _ ≠ W1.drew.heap.size by omega); rw [← hw2] at MQ; clear MA5; have MA5 := Lib.hid MQ; clear MQ
            have MQ := mZ.setRow (e4 a1); rw [← hw2] at MQ; have MA4 := Lib.hid MQ; clear MQ mZ hZ hw2
            refine ⟨fun _ => hkW15, ?_⟩
            (try simp only [List.setIfInBounds_toArray, List.set_cons_succ, List.set_cons_zero])
            refine wpBut_r1 (i := 7) (by kernel_rfl) ?_
            obtain ⟨Z, hZ, mZ⟩ := MA5.out
            refine go_store2 7 #[true, true, true, true, true, true, true, true] rfl rfl rfl (by rfl) 36 _ _ rfl _ _ rfl rfl 36 Z mZ (by rw [e4_size]; kernel_rfl) (hZ.trans (e4_size _).symm) (row_one _ _ _) ?_
            intro wW16 hw2
            have hkW16 := below_setRow (hkW15) _ (e4 a2) HA5.out
            rw [← hw2] at hkW16
            clear MA5
            have MQ := MA4.out.setRow_other _ (e4 a2) (show _ ≠ wW12.heap.size by omega); rw [← hw2] at MQ; clear MA4; have MA4 := Lib.hid MQ; clear MQ
            have MQ := mZ.setRow (e4 a2); rw [← hw2] at MQ; have MA5 := Lib.hid MQ; clear MQ mZ hZ hw2
            refine ⟨fun _ => hkW16, ?_⟩
            (try simp only [List.setIfInBounds_toArray, List.set_cons_succ, List.set_cons_zero])
            exact wpBut_done (by kernel_rfl) (NoPanic.normal (HQ.out (_, _) _ ⟨HA4.out, MA4.out, HA5.out, MA5.out, (hkW16)⟩))
        · refine go_alloc 5 6 #[true, false, true, false, true, true, false, false] rfl rfl rfl (by rfl) 36 rfl _ al36 ?_
          intro wW12 hw2
          have hkW12 := (hkW11).alloc (hkW11).size (.cells (#[.int .u64 0, .int .u64 0, .int .u64 0, .int .u64 0] : Array Value) 36)
          rw [← hw2] at hkW12
          have hne4_5 := MA4.out.lt
          have MQ := MA4.out.alloc (.cells (#[.int .u64 0, .int .u64 0, .int .u64 0, .int .u64 0] : Array Value) 36); rw [← hw2] at MQ; clear MA4; have MA4 := Lib.hid MQ; clear MQ
          have MQ := HasN.new (wW11) (#[.int .u64 0, .int .u64 0, .int .u64 0, .int .u64 0] : Array Value) 36 4 rfl; rw [← hw2] at MQ; have MA5 := Lib.hid MQ; clear MQ
          have HA5 := Lib.hid (show W1.heap.size ≤ _ from (hkW11).size)
          clear hw2
          refine ⟨fun _ => hkW12, ?_⟩
          (try simp only [List.setIfInBounds_toArray, List.set_cons_succ, List.set_cons_zero])
          refine wpBut_r1 (i := 1) (by kernel_rfl) ?_
          refine go_call 1 9 #[true, true, true, false, true, true, false, false] rfl rfl rfl (by rfl) rfl rfl (by rfl) ent30 (by rfl) (Hf1.out _) ?_
          rintro e wW13 ⟨rfl, hb⟩
          have hkW13 := held_next hkW12 hb
          have MQ4 := Lib.hid (MA4.out.call hb); clear MA4
          have MA4 := MQ4; clear MQ4
          have MQ5 := Lib.hid (MA5.out.call hb); clear MA5
          have MA5 := MQ5; clear MQ5
          refine ⟨_, rfl, fun _ => hkW13, ?_⟩
          clear hb
          (try simp only [List.setIfInBounds_toArray, List.set_cons_succ, List.set_cons_zero])
          refine wpBut_r1 (i := 3) (by kernel_rfl) ?_
          refine go_call 3 11 #[true, true, true, true, true, true, false, false] rfl rfl rfl (by rfl) rfl rfl (by rfl) ent30 (by rfl) (Hf2.out _) ?_
          rintro e wW14 ⟨rfl, hb⟩
          have hkW14 := held_next hkW13 hb
          have MQ4 := Lib.hid (MA4.out.call hb); clear MA4
          have MA4 := MQ4; clear MQ4
          have MQ5 := Lib.hid (MA5.out.call hb); clear MA5
          have MA5 := MQ5; clear MQ5
          refine ⟨_, rfl, fun _ => hkW14, ?_⟩
          clear hb
          (try simp only [List.setIfInBounds_toArray, List.set_cons_succ, List.set_cons_zero])
          refine wpBut_r1 (i := 6) (by kernel_rfl) ?_
          obtain ⟨Z, hZ, mZ⟩ := MA4.out
          refine go_store2 6 #[true, true, true, true, true, true, true, false] rfl rfl rfl (by rfl) 36 _ _ rfl _ _ rfl rfl 36 Z mZ (by rw [e4_size]; kernel_rfl) (hZ.trans (e4_size _).symm) (row_one _ _ _) ?_
          intro wW15 hw2
          have hkW15 := below_setRow (hkW14) _ (e4 a1) HA4.out
          rw [← hw2] at hkW15
          clear MA4
          have MQ := MA5.out.setRow_other _ (e4 a1) (show _ ≠ W1.drew.heap.size by omega); rw [← hw2] at MQ; clear MA5; have MA5 := Lib.hid MQ; clear MQ
          have MQ := mZ.setRow (e4 a1); rw [← hw2] at MQ; have MA4 := Lib.hid MQ; clear MQ mZ hZ hw2
          refine ⟨fun _ => hkW15, ?_⟩
          (try simp only [List.setIfInBounds_toArray, List.set_cons_succ, List.set_cons_zero])
          refine wpBut_r1 (i := 7) (by kernel_rfl) ?_
          obtain ⟨Z, hZ, mZ⟩ := MA5.out
          refine go_store2 7 #[true, true, true, true, true, true, true, true] rfl rfl rfl (by rfl) 36 _ _ rfl _ _ rfl rfl 36 Z mZ (by rw [e4_size]; kernel_rfl) (hZ.trans (e4_size _).symm) (row_one _ _ _) ?_
          intro wW16 hw2
          have hkW16 := below_setRow (hkW15) _ (e4 a2) HA5.out
          rw [← hw2] at hkW16
          clear MA5
          have MQ := MA4.out.setRow_other _ (e4 a2) (show _ ≠ wW11.heap.size by omega); rw [← hw2] at MQ; clear MA4; have MA4 := Lib.hid MQ; clear MQ
          have MQ := mZ.setRow (e4 a2); rw [← hw2] at MQ; have MA5 := Lib.hid MQ; clear MQ mZ hZ hw2
          refine ⟨fun _ => hkW16, ?_⟩
          (try simp only [List.setIfInBounds_toArray, List.set_cons_succ, List.set_cons_zero])
          exact wpBut_done (by kernel_rfl) (NoPanic.normal (HQ.out (_, _) _ ⟨HA4.out, MA4.out, HA5.out, MA5.out, (hkW16)⟩))
      · refine go_alloc 5 6 #[true, false, true, false, false, true, false, false] rfl rfl rfl (by rfl) 36 rfl _ al36 ?_
        intro wW11 hw2
        have hkW11 := ((show Below W1.heap.size W1 W1.drew from (Below.refl _ _).drew)).alloc ((show Below W1.heap.size W1 W1.drew from (Below.refl _ _).drew)).size (.cells (#[.int .u64 0, .int .u64 0, .int .u64 0, .int .u64 0] : Array Value) 36)
        rw [← hw2] at hkW11
        have MQ := HasN.new (W1.drew) (#[.int .u64 0, .int .u64 0, .int .u64 0, .int .u64 0] : Array Value) 36 4 rfl; rw [← hw2] at MQ; have MA5 := Lib.hid MQ; clear MQ
        have HA5 := Lib.hid (show W1.heap.size ≤ _ from ((show Below W1.heap.size W1 W1.drew from (Below.refl _ _).drew)).size)
        clear hw2
        refine ⟨fun _ => hkW11, ?_⟩
        (try simp only [List.setIfInBounds_toArray, List.set_cons_succ, List.set_cons_zero])
        refine wpBut_r2 (i := 1) (j := 4) (by kernel_rfl) ?_ ?_
        · refine go_call 1 9 #[true, true, true, false, false, true, false, false] rfl rfl rfl (by rfl) rfl rfl (by rfl) ent30 (by rfl) (Hf1.out _) ?_
          rintro e wW12 ⟨rfl, hb⟩
          have hkW12 := held_next hkW11 hb
          have MQ5 := Lib.hid (MA5.out.call hb); clear MA5
          have MA5 := MQ5; clear MQ5
          refine ⟨_, rfl, fun _ => hkW12, ?_⟩
          clear hb
          (try simp only [List.setIfInBounds_toArray, List.set_cons_succ, List.set_cons_zero])
          refine wpBut_r2 (i := 3) (j := 4) (by kernel_rfl) ?_ ?_
          · refine go_call 3 11 #[true, true, true, true, false, true, false, false] rfl rfl rfl (by rfl) rfl rfl (by rfl) ent30 (by rfl) (Hf2.out _) ?_
            rintro e wW13 ⟨rfl, hb⟩
            have hkW13 := held_next hkW12 hb
            have MQ5 := Lib.hid (MA5.out.call hb); clear MA5
            have MA5 := MQ5; clear MQ5
            refine ⟨_, rfl, fun _ => hkW13, ?_⟩
            clear hb
            (try simp only [List.setIfInBounds_toArray, List.set_cons_succ, List.set_cons_zero])
            refine wpBut_r1 (i := 4) (by kernel_rfl) ?_
            refine go_alloc 4 5 #[true, true, true, true, true, true, false, false] rfl rfl rfl (by rfl) 36 rfl _ al36 ?_
            intro wW14 hw2
            have hkW14 := (hkW13).alloc (hkW13).size (.cells (#[.int .u64 0, .int .u64 0, .int .u64 0, .int .u64 0] : Array Value) 36)
            rw [← hw2] at hkW14
            have hne5_4 := MA5.out.lt
            have MQ := MA5.out.alloc (.cells (#[.int .u64 0, .int .u64 0, .int .u64 0, .int .u64 0] : Array Value) 36); rw [← hw2] at MQ; clear MA5; have MA5 := Lib.hid MQ; clear MQ
            have MQ := HasN.new (wW13) (#[.int .u64 0, .int .u64 0, .int .u64 0, .int .u64 0] : Array Value) 36 4 rfl; rw [← hw2] at MQ; have MA4 := Lib.hid MQ; clear MQ
            have HA4 := Lib.hid (show W1.heap.size ≤ _ from (hkW13).size)
            clear hw2
            refine ⟨fun _ => hkW14, ?_⟩
            (try simp only [List.setIfInBounds_toArray, List.set_cons_succ, List.set_cons_zero])
            refine wpBut_r1 (i := 6) (by kernel_rfl) ?_
            obtain ⟨Z, hZ, mZ⟩ := MA4.out
            refine go_store2 6 #[true, true, true, true, true, true, true, false] rfl rfl rfl (by rfl) 36 _ _ rfl _ _ rfl rfl 36 Z mZ (by rw [e4_size]; kernel_rfl) (hZ.trans (e4_size _).symm) (row_one _ _ _) ?_
            intro wW15 hw2
            have hkW15 := below_setRow (hkW14) _ (e4 a1) HA4.out
            rw [← hw2] at hkW15
            clear MA4
            have MQ := MA5.out.setRow_other _ (e4 a1) (show _ ≠ wW13.heap.size by omega); rw [← hw2] at MQ; clear MA5; have MA5 := Lib.hid MQ; clear MQ
            have MQ := mZ.setRow (e4 a1); rw [← hw2] at MQ; have MA4 := Lib.hid MQ; clear MQ mZ hZ hw2
            refine ⟨fun _ => hkW15, ?_⟩
            (try simp only [List.setIfInBounds_toArray, List.set_cons_succ, List.set_cons_zero])
            refine wpBut_r1 (i := 7) (by kernel_rfl) ?_
            obtain ⟨Z, hZ, mZ⟩ := MA5.out
            refine go_store2 7 #[true, true, true, true, true, true, true, true] rfl rfl rfl (by rfl) 36 _ _ rfl _ _ rfl rfl 36 Z mZ (by rw [e4_size]; kernel_rfl) (hZ.trans (e4_size _).symm) (row_one _ _ _) ?_
            intro wW16 hw2
            have hkW16 := below_setRow (hkW15) _ (e4 a2) HA5.out
            rw [← hw2] at hkW16
            clear MA5
            have MQ := MA4.out.setRow_other _ (e4 a2) (show _ ≠ W1.drew.heap.size by omega); rw [← hw2] at MQ; clear MA4; have MA4 := Lib.hid MQ; clear MQ
            have MQ := mZ.setRow (e4 a2); rw [← hw2] at MQ; have MA5 := Lib.hid MQ; clear MQ mZ hZ hw2
            refine ⟨fun _ => hkW16, ?_⟩
            (try simp only [List.setIfInBounds_toArray, List.set_cons_succ, List.set_cons_zero])
            exact wpBut_done (by kernel_rfl) (NoPanic.normal (HQ.out (_, _) _ ⟨HA4.out, MA4.out, HA5.out, MA5.out, (hkW16)⟩))
          · refine go_alloc 4 5 #[true, true, true, false, true, true, false, false] rfl rfl rfl (by rfl) 36 rfl _ al36 ?_
            intro wW13 hw2
            have hkW13 := (hkW12).alloc (hkW12).size (.cells (#[.int .u64 0, .int .u64 0, .int .u64 0, .int .u64 0] : Array Value) 36)
            rw [← hw2] at hkW13
            have hne5_4 := MA5.out.lt
            have MQ := MA5.out.alloc (.cells (#[.int .u64 0, .int .u64 0, .int .u64 0, .int .u64 0] : Array Value) 36); rw [← hw2] at MQ; clear MA5; have MA5 := Lib.hid MQ; clear MQ
            have MQ := HasN.new (wW12) (#[.int .u64 0, .int .u64 0, .int .u64 0, .int .u64 0] : Array Value) 36 4 rfl; rw [← hw2] at MQ; have MA4 := Lib.hid MQ; clear MQ
            have HA4 := Lib.hid (show W1.heap.size ≤ _ from (hkW12).size)
            clear hw2
            refine ⟨fun _ => hkW13, ?_⟩
            (try simp only [List.setIfInBounds_toArray, List.set_cons_succ, List.set_cons_zero])
            refine wpBut_r1 (i := 3) (by kernel_rfl) ?_
            refine go_call 3 11 #[true, true, true, true, true, true, false, false] rfl rfl rfl (by rfl) rfl rfl (by rfl) ent30 (by rfl) (Hf2.out _) ?_
            rintro e wW14 ⟨rfl, hb⟩
            have hkW14 := held_next hkW13 hb
            have MQ5 := Lib.hid (MA5.out.call hb); clear MA5
            have MA5 := MQ5; clear MQ5
            have MQ4 := Lib.hid (MA4.out.call hb); clear MA4
            have MA4 := MQ4; clear MQ4
            refine ⟨_, rfl, fun _ => hkW14, ?_⟩
            clear hb
            (try simp only [List.setIfInBounds_toArray, List.set_cons_succ, List.set_cons_zero])
            refine wpBut_r1 (i := 6) (by kernel_rfl) ?_
            obtain ⟨Z, hZ, mZ⟩ := MA4.out
            refine go_store2 6 #[true, true, true, true, true, true, true, false] rfl rfl rfl (by rfl) 36 _ _ rfl _ _ rfl rfl 36 Z mZ (by rw [e4_size]; kernel_rfl) (hZ.trans (e4_size _).symm) (row_one _ _ _) ?_
            intro wW15 hw2
            have hkW15 := below_setRow (hkW14) _ (e4 a1) HA4.out
            rw [← hw2] at hkW15
            clear MA4
            have MQ := MA5.out.setRow_other _ (e4 a1) (show _ ≠ wW12.heap.size by omega); rw [← hw2] at MQ; clear MA5; have MA5 := Lib.hid MQ; clear MQ
            have MQ := mZ.setRow (e4 a1); rw [← hw2] at MQ; have MA4 := Lib.hid MQ; clear MQ mZ hZ hw2
            refine ⟨fun _ => hkW15, ?_⟩
            (try simp only [List.setIfInBounds_toArray, List.set_cons_succ, List.set_cons_zero])
            refine wpBut_r1 (i := 7) (by kernel_rfl) ?_
            obtain ⟨Z, hZ, mZ⟩ := MA5.out
            refine go_store2 7 #[true, true, true, true, true, true, true, true] rfl rfl rfl (by rfl) 36 _ _ rfl _ _ rfl rfl 36 Z mZ (by rw [e4_size]; kernel_rfl) (hZ.trans (e4_size _).symm) (row_one _ _ _) ?_
            intro wW16 hw2
            have hkW16 := below_setRow (hkW15) _ (e4 a2) HA5.out
            rw [← hw2] at hkW16
            clear MA5
            have MQ := MA4.out.setRow_other _ (e4 a2) (show _ ≠ W1.drew.heap.size by omega); rw [← hw2] at MQ; clear MA4; have MA4 := Lib.hid MQ; clear MQ
            have MQ := mZ.setRow (e4 a2); rw [← hw2] at MQ; have MA5 := Lib.hid MQ; clear MQ mZ hZ hw2
            refine ⟨fun _ => hkW16, ?_⟩
            (try simp only [List.setIfInBounds_toArray, List.set_cons_succ, List.set_cons_zero])
            exact wpBut_done (by kernel_rfl) (NoPanic.normal (HQ.out (_, _) _ ⟨HA4.out, MA4.out, HA5.out, MA5.out, (hkW16)⟩))
        · refine go_alloc 4 5 #[true, false, true, false, true, true, false, false] rfl rfl rfl (by rfl) 36 rfl _ al36 ?_
          intro wW12 hw2
          have hkW12 := (hkW11).alloc (hkW11).size (.cells (#[.int .u64 0, .int .u64 0, .int .u64 0, .int .u64 0] : Array Value) 36)
          rw [← hw2] at hkW12
          have hne5_4 := MA5.out.lt
          have MQ := MA5.out.alloc (.cells (#[.int .u64 0, .int .u64 0, .int .u64 0, .int .u64 0] : Array Value) 36); rw [← hw2] at MQ; clear MA5; have MA5 := Lib.hid MQ; clear MQ
          have MQ := HasN.new (wW11) (#[.int .u64 0, .int .u64 0, .int .u64 0, .int .u64 0] : Array Value) 36 4 rfl; rw [← hw2] at MQ; have MA4 := Lib.hid MQ; clear MQ
          have HA4 := Lib.hid (show W1.heap.size ≤ _ from (hkW11).size)
          clear hw2
          refine ⟨fun _ => hkW12, ?_⟩
          (try simp only [List.setIfInBounds_toArray, List.set_cons_succ, List.set_cons_zero])
          refine wpBut_r1 (i := 1) (by kernel_rfl) ?_
          refine go_call 1 9 #[true, true, true, false, true, true, false, false] rfl rfl rfl (by rfl) rfl rfl (by rfl) ent30 (by rfl) (Hf1.out _) ?_
          rintro e wW13 ⟨rfl, hb⟩
          have hkW13 := held_next hkW12 hb
          have MQ5 := Lib.hid (MA5.out.call hb); clear MA5
          have MA5 := MQ5; clear MQ5
          have MQ4 := Lib.hid (MA4.out.call hb); clear MA4
          have MA4 := MQ4; clear MQ4
          refine ⟨_, rfl, fun _ => hkW13, ?_⟩
          clear hb
          (try simp only [List.setIfInBounds_toArray, List.set_cons_succ, List.set_cons_zero])
          refine wpBut_r1 (i := 3) (by kernel_rfl) ?_
          refine go_call 3 11 #[true, true, true, true, true, true, false, false] rfl rfl rfl (by rfl) rfl rfl (by rfl) ent30 (by rfl) (Hf2.out _) ?_
          rintro e wW14 ⟨rfl, hb⟩
          have hkW14 := held_next hkW13 hb
          have MQ5 := Lib.hid (MA5.out.call hb); clear MA5
          have MA5 := MQ5; clear MQ5
          have MQ4 := Lib.hid (MA4.out.call hb); clear MA4
          have MA4 := MQ4; clear MQ4
          refine ⟨_, rfl, fun _ => hkW14, ?_⟩
          clear hb
          (try simp only [List.setIfInBounds_toArray, List.set_cons_succ, List.set_cons_zero])
          refine wpBut_r1 (i := 6) (by kernel_rfl) ?_
          obtain ⟨Z, hZ, mZ⟩ := MA4.out
          refine go_store2 6 #[true, true, true, true, true, true, true, false] rfl rfl rfl (by rfl) 36 _ _ rfl _ _ rfl rfl 36 Z mZ (by rw [e4_size]; kernel_rfl) (hZ.trans (e4_size _).symm) (row_one _ _ _) ?_
          intro wW15 hw2
          have hkW15 := below_setRow (hkW14) _ (e4 a1) HA4.out
          rw [← hw2] at hkW15
          clear MA4
          have MQ := MA5.out.setRow_other _ (e4 a1) (show _ ≠ wW11.heap.size by omega); rw [← hw2] at MQ; clear MA5; have MA5 := Lib.hid MQ; clear MQ
          have MQ := mZ.setRow (e4 a1); rw [← hw2] at MQ; have MA4 := Lib.hid MQ; clear MQ mZ hZ hw2
          refine ⟨fun _ => hkW15, ?_⟩
          (try simp only [List.setIfInBounds_toArray, List.set_cons_succ, List.set_cons_zero])
          refine wpBut_r1 (i := 7) (by kernel_rfl) ?_
          obtain ⟨Z, hZ, mZ⟩ := MA5.out
          refine go_store2 7 #[true, true, true, true, true, true, true, true] rfl rfl rfl (by rfl) 36 _ _ rfl _ _ rfl rfl 36 Z mZ (by rw [e4_size]; kernel_rfl) (hZ.trans (e4_size _).symm) (row_one _ _ _) ?_
          intro wW16 hw2
          have hkW16 := below_setRow (hkW15) _ (e4 a2) HA5.out
          rw [← hw2] at hkW16
          clear MA5
          have MQ := MA4.out.setRow_other _ (e4 a2) (show _ ≠ W1.drew.heap.size by omega); rw [← hw2] at MQ; clear MA4; have MA4 := Lib.hid MQ; clear MQ
          have MQ := mZ.setRow (e4 a2); rw [← hw2] at MQ; have MA5 := Lib.hid MQ; clear MQ mZ hZ hw2
          refine ⟨fun _ => hkW16, ?_⟩
          (try simp only [List.setIfInBounds_toArray, List.set_cons_succ, List.set_cons_zero])
          exact wpBut_done (by kernel_rfl) (NoPanic.normal (HQ.out (_, _) _ ⟨HA4.out, MA4.out, HA5.out, MA5.out, (hkW16)⟩))
    · rintro W1 ⟨B5, B6⟩ v1 hW1 ⟨hBq0, mBq0, hBq1, mBq1, hbw⟩
      simp only [Act.put, List.setIfInBounds_toArray, List.set_cons_succ, List.set_cons_zero] at  hBq0  mBq0 hBq1  mBq1 ⊢
      have kq := M2.out; rw [← hW1] at kq; clear M2; have M2 := Lib.hid kq; clear kq
      have kq := M3.out; rw [← hW1] at kq; clear M3; have M3 := Lib.hid kq; clear kq
      have kq := HB.out; rw [← hW1] at kq; clear HB; have HB := Lib.hid kq; clear kq
      clear hW1
      have hltM2_1 := M2.out.lt
      have hltM3_1 := M3.out.lt
      have kq := M2.out.call hbw; clear M2; have M2 := Lib.hid kq; clear kq
      have kq := M3.out.call hbw; clear M3; have M3 := Lib.hid kq; clear kq
      have hBq := held_next HB.out hbw; clear HB; have HB := Lib.hid hBq; clear hBq
      have M5 := Lib.hid mBq0; clear mBq0
      have M6 := Lib.hid mBq1; clear mBq1
      clear hbw
      repeat ((fail_if_success (with_reducible (show wpList _ _ _ _ _ _))); go_step)
      refine wpList_load (by rfl) 36 _ rfl (B5) rfl 36 (e4 a1) M5.out Try.underlying36 rfl (by rw [e4_size]; kernel_rfl) 12 rfl ?_
      (try simp only [Act.put, List.setIfInBounds_toArray, List.set_cons_succ, List.set_cons_zero])
      refine wpList_load (by rfl) 36 _ rfl (B6) rfl 36 (e4 a2) M6.out Try.underlying36 rfl (by rw [e4_size]; kernel_rfl) 13 rfl ?_
      (try simp only [Act.put, List.setIfInBounds_toArray, List.set_cons_succ, List.set_cons_zero])
      refine wpList_call (by rfl) rfl rfl (by rfl) ent42 (by rfl) (Hov.out a1 a2 Hal1.out Hal2.out _) 14 rfl ?_
      rintro e u1 ⟨q, hq, hqr, rfl, hb⟩
      have kq := M2.out.call hb; clear M2; have M2 := Lib.hid kq; clear kq
      have kq := M3.out.call hb; clear M3; have M3 := Lib.hid kq; clear kq
      have kq := M5.out.call hb; clear M5; have M5 := Lib.hid kq; clear kq
      have kq := M6.out.call hb; clear M6; have M6 := Lib.hid kq; clear kq
      have hBq := held_next HB.out hb; clear HB; have HB := Lib.hid hBq; clear hBq
      refine ⟨_, rfl, ?_⟩
      clear hb
      (try simp only [Act.put, List.setIfInBounds_toArray, List.set_cons_succ, List.set_cons_zero])
      refine wpList_step (fun K hK => ?_)
      go_simp
      have hlt2 := M2.out.lt
      have hlt3 := M3.out.lt
      have hlt4 := M5.out.lt
      have hlt5 := M6.out.lt
      have kq := M2.out.alloc (.cells (#[.int .u64 0, .int .u64 0, .int .u64 0, .int .u64 0] : Array Value) 36); clear M2; have M2 := Lib.hid kq; clear kq
      have kq := M3.out.alloc (.cells (#[.int .u64 0, .int .u64 0, .int .u64 0, .int .u64 0] : Array Value) 36); clear M3; have M3 := Lib.hid kq; clear kq
      have kq := M5.out.alloc (.cells (#[.int .u64 0, .int .u64 0, .int .u64 0, .int .u64 0] : Array Value) 36); clear M5; have M5 := Lib.hid kq; clear kq
      have kq := M6.out.alloc (.cells (#[.int .u64 0, .int .u64 0, .int .u64 0, .int .u64 0] : Array Value) 36); clear M6; have M6 := Lib.hid kq; clear kq
      have M7 := Lib.hid (HasN.new u1 (#[.int .u64 0, .int .u64 0, .int .u64 0, .int .u64 0] : Array Value) 36 4 rfl)
      have hsz := HB.out.size
      have hBq := HB.out.alloc hsz (.cells (#[.int .u64 0, .int .u64 0, .int .u64 0, .int .u64 0] : Array Value) 36); clear HB; have HB := Lib.hid hBq; clear hBq
      refine hK _ _ ?_
      clear hK K
      first | (obtain ⟨Z, hZ, mZ⟩ := M7.out) | (obtain ⟨Z, hZ, mZ⟩ := M7.out.toN (e4_size _))
      clear M7
      have hZ' := Lib.hid hZ; clear hZ
      have mZ' := Lib.hid mZ; clear mZ
      refine wpList_store_row rfl 36 _ _ rfl (u1.heap.size) _ rfl rfl 36 Z mZ'.out (by rw [e4_size]; kernel_rfl) (hZ'.out.trans (e4_size _).symm) (row_one _ _ _) ?_
      (try simp only [Act.put, List.setIfInBounds_toArray, List.set_cons_succ, List.set_cons_zero])
      have kq := M2.out.setRow_other (u1.heap.size) (e4 q) (by omega); clear M2; have M2 := Lib.hid kq; clear kq
      have kq := M3.out.setRow_other (u1.heap.size) (e4 q) (by omega); clear M3; have M3 := Lib.hid kq; clear kq
      have kq := M5.out.setRow_other (u1.heap.size) (e4 q) (by omega); clear M5; have M5 := Lib.hid kq; clear kq
      have kq := M6.out.setRow_other (u1.heap.size) (e4 q) (by omega); clear M6; have M6 := Lib.hid kq; clear kq
      have M7 := Lib.hid (mZ'.out.setRow (e4 q))
      clear mZ' hZ'
      have hBq := below_setRow HB.out (u1.heap.size) (e4 q) (by omega); clear HB; have HB := Lib.hid hBq; clear hBq
      refine wpList_nil ?_
      have Hqr := Lib.hid hqr; clear hqr
      repeat ((fail_if_success (with_reducible (show wpList _ _ _ _ _ _))); go_step)
      refine wp_region_noPanic ?_
      refine wp_region_go 99 23 #[false, false, false, false, false, false, false, false, false, false, false, false, false, false, false, false, false, false, false, false, false, false, false] (by kernel_rfl) rfl rfl ?_
      intro W6 hW6
      have kq := M2.out; rw [← hW6] at kq; clear M2; have M2 := Lib.hid kq; clear kq
      have kq := M3.out; rw [← hW6] at kq; clear M3; have M3 := Lib.hid kq; clear kq
      have kq := M5.out; rw [← hW6] at kq; clear M5; have M5 := Lib.hid kq; clear kq
      have kq := M6.out; rw [← hW6] at kq; clear M6; have M6 := Lib.hid kq; clear kq
      have kq := M7.out; rw [← hW6] at kq; clear M7; have M7 := Lib.hid kq; clear kq
      have kq := HB.out; rw [← hW6] at kq; clear HB; have HB := Lib.hid kq; clear kq
      clear hW6
      refine wpBut_r1 (i := 0) (by kernel_rfl) ?_
      refine go_call 0 15 #[true, false, false, false, false, false, false, false, false, false, false, false, false, false, false, false, false, false, false, false, false, false, false] rfl rfl rfl (by rfl) rfl rfl (by rfl) ent28 (by rfl) (Hal.out _) ?_
      rintro e wW61 ⟨rfl, hb⟩
      have hkW61 := held_next (show Below W6.heap.size W6 W6.drew from (Below.refl _ _).drew) hb
      refine ⟨_, rfl, fun _ => hkW61, ?_⟩
      clear hb
      (try simp only [List.setIfInBounds_toArray, List.set_cons_succ, List.set_cons_zero])
      refine go_take 1 16 #[true, true, false, false, false, false, false, false, false, false, false, false, false, false, false, false, false, false, false, false, false, false, false] (v := ?uv1) rfl rfl rfl (by kernel_rfl) (by kernel_rfl) (by kernel_rfl) (by kernel_rfl) (by kernel_rfl) (Or.inl ⟨by rfl, ?uy1⟩) (hkW61) ?urest1
      case uy1 => (intro _ _; go_simp; try with_reducible rfl)
      (try simp only [List.setIfInBounds_toArray, List.set_cons_succ, List.set_cons_zero])
      refine go_take 2 17 #[true, true, true, false, false, false, false, false, false, false, false, false, false, false, false, false, false, false, false, false, false, false, false] rfl rfl rfl (by kernel_rfl) (by kernel_rfl) (by kernel_rfl) (by kernel_rfl) (by kernel_rfl) (yieldsIf_load_row (by rfl) 36 _ rfl (u1.heap.size) rfl 36 (e4 q) (fun _ h => M7.out.below h M7.out.lt) Try.underlying36 rfl (by rw [e4_size]; kernel_rfl)) (hkW61) ?_
      (try simp only [List.setIfInBounds_toArray, List.set_cons_succ, List.set_cons_zero])
      refine go_take 3 18 #[true, true, true, true, false, false, false, false, false, false, false, false, false, false, false, false, false, false, false, false, false, false, false] rfl rfl rfl (by kernel_rfl) (by kernel_rfl) (by kernel_rfl) (by kernel_rfl) (by kernel_rfl) (yieldsIf_load_row (by rfl) 24 _ rfl (w.heap.size) rfl 24 (k32 n1) (fun _ h => M2.out.below h M2.out.lt) Try.underlying24 rfl (by rw [k32_size]; kernel_rfl)) (hkW61) ?_
      (try simp only [List.setIfInBounds_toArray, List.set_cons_succ, List.set_cons_zero])
      refine go_take 5 20 #[true, true, true, true, false, true, false, false, false, false, false, false, false, false, false, false, false, false, false, false, false, false, false] rfl rfl rfl (by kernel_rfl) (by kernel_rfl) (by kernel_rfl) (by kernel_rfl) (by kernel_rfl) (yieldsIf_load_row (by rfl) 24 _ rfl (w.heap.size + 1) rfl 24 (k32 n2) (fun _ h => M3.out.below h M3.out.lt) Try.underlying24 rfl (by rw [k32_size]; kernel_rfl)) (hkW61) ?_
      (try simp only [List.setIfInBounds_toArray, List.set_cons_succ, List.set_cons_zero])
      refine wpBut_r1 (i := 4) (by kernel_rfl) ?_
      refine go_call 4 19 #[true, true, true, true, true, true, false, false, false, false, false, false, false, false, false, false, false, false, false, false, false, false, false] rfl rfl rfl (by rfl) rfl rfl (by rfl) ent33 (by rfl) (Hr1.out _) ?_
      rintro e wW62 ⟨rfl, hb⟩
      have hkW62 := held_next hkW61 hb
      refine ⟨_, rfl, fun _ => hkW62, ?_⟩
      clear hb
      (try simp only [List.setIfInBounds_toArray, List.set_cons_succ, List.set_cons_zero])
      refine wpBut_r1 (i := 6) (by kernel_rfl) ?_
      refine go_call 6 21 #[true, true, true, true, true, true, true, false, false, false, false, false, false, false, false, false, false, false, false, false, false, false, false] rfl rfl rfl (by rfl) rfl rfl (by rfl) ent33 (by rfl) (Hr2.out _) ?_
      rintro e wW63 ⟨rfl, hb⟩
      have hkW63 := held_next hkW62 hb
      refine ⟨_, rfl, fun _ => hkW63, ?_⟩
      clear hb
      (try simp only [List.setIfInBounds_toArray, List.set_cons_succ, List.set_cons_zero])
      refine wpBut_r1 (i := 7) (by kernel_rfl) ?_
      refine go_call 7 22 #[true, true, true, true, true, true, true, true, false, false, false, false, false, false, false, false, false, false, false, false, false, false, false] rfl rfl rfl (by rfl) rfl rfl (by rfl) ent43 (by rfl) (Hro.out A1 A2 HAl1.out HAl2.out _) ?_
      rintro e wW64 ⟨rfl, hb⟩
      have hkW64 := held_next hkW63 hb
      refine ⟨_, rfl, fun _ => hkW64, ?_⟩
      clear hb
      (try simp only [List.setIfInBounds_toArray, List.set_cons_succ, List.set_cons_zero])
      refine wpBut_r1 (i := 8) (by kernel_rfl) ?_
      refine go_call 8 23 #[true, true, true, true, true, true, true, true, true, false, false, false, false, false, false, false, false, false, false, false, false, false, false] rfl rfl rfl (by rfl) rfl rfl (by rfl) ent29 (by rfl) (His.out q _ hq (Nat.mod_lt _ PP_pos) (over_agree a1 a2 A1 A2 q HA1.out HA2.out Hqr.out) _) ?_
      rintro e wW65 ⟨rfl, hb⟩
      have hkW65 := held_next hkW64 hb
      refine ⟨_, rfl, fun _ => hkW65, ?_⟩
      clear hb
      (try simp only [List.setIfInBounds_toArray, List.set_cons_succ, List.set_cons_zero])
      refine go_take 9 24 #[true, true, true, true, true, true, true, true, true, true, false, false, false, false, false, false, false, false, false, false, false, false, false] (v := ?uv2) rfl rfl rfl (by kernel_rfl) (by kernel_rfl) (by kernel_rfl) (by kernel_rfl) (by kernel_rfl) (Or.inl ⟨by rfl, ?uy2⟩) (hkW65) ?urest2
      case uy2 => (intro _ _; go_simp; try with_reducible rfl)
      (try simp only [List.setIfInBounds_toArray, List.set_cons_succ, List.set_cons_zero])
      refine go_take 10 25 #[true, true, true, true, true, true, true, true, true, true, true, false, false, false, false, false, false, false, false, false, false, false, false] (v := ?uv3) rfl rfl rfl (by kernel_rfl) (by kernel_rfl) (by kernel_rfl) (by kernel_rfl) (by kernel_rfl) (Or.inl ⟨by rfl, ?uy3⟩) (hkW65) ?urest3
      case uy3 => (intro _ _; go_simp; try with_reducible rfl)
      (try simp only [List.setIfInBounds_toArray, List.set_cons_succ, List.set_cons_zero])
      refine go_take 11 26 #[true, true, true, true, true, true, true, true, true, true, true, true, false, false, false, false, false, false, false, false, false, false, false] rfl rfl rfl (by kernel_rfl) (by kernel_rfl) (by kernel_rfl) (by kernel_rfl) (by kernel_rfl) (yieldsIf_load_row (by rfl) 36 _ rfl (B6) rfl 36 (e4 a2) (fun _ h => M6.out.below h M6.out.lt) Try.underlying36 rfl (by rw [e4_size]; kernel_rfl)) (hkW65) ?_
      (try simp only [List.setIfInBounds_toArray, List.set_cons_succ, List.set_cons_zero])
      refine wpBut_r1 (i := 12) (by kernel_rfl) ?_
      refine go_call 12 27 #[true, true, true, true, true, true, true, true, true, true, true, true, true, false, false, false, false, false, false, false, false, false, false] rfl rfl rfl (by rfl) rfl rfl (by rfl) ent34 (by rfl) (Hint.out _) ?_
      rintro e wW66 ⟨rfl, hb⟩
      have hkW66 := held_next hkW65 hb
      refine ⟨_, rfl, fun _ => hkW66, ?_⟩
      clear hb
      (try simp only [List.setIfInBounds_toArray, List.set_cons_succ, List.set_cons_zero])
      refine wpBut_r1 (i := 13) (by kernel_rfl) ?_
      refine go_call 13 28 #[true, true, true, true, true, true, true, true, true, true, true, true, true, true, false, false, false, false, false, false, false, false, false] rfl rfl rfl (by rfl) rfl rfl (by rfl) ent41 (by rfl) (Hyes.out a2 0 Hal2.out (by decide) C0.out _) ?_
      rintro e wW67 ⟨rfl, hb⟩
      have hkW67 := held_next hkW66 hb
      refine ⟨_, rfl, fun _ => hkW67, ?_⟩
      clear hb
      (try simp only [List.setIfInBounds_toArray, List.set_cons_succ, List.set_cons_zero])
      refine go_take 14 29 #[true, true, true, true, true, true, true, true, true, true, true, true, true, true, true, false, false, false, false, false, false, false, false] (v := ?uv4) rfl rfl rfl (by kernel_rfl) (by kernel_rfl) (by kernel_rfl) (by kernel_rfl) (by kernel_rfl) (Or.inl ⟨by rfl, ?uy4⟩) (hkW67) ?urest4
      case uy4 => (intro _ _; go_simp; try with_reducible rfl)
      (try simp only [List.setIfInBounds_toArray, List.set_cons_succ, List.set_cons_zero])
      refine go_take 15 30 #[true, true, true, true, true, true, true, true, true, true, true, true, true, true, true, true, false, false, false, false, false, false, false] (v := undef) rfl rfl rfl (by kernel_rfl) (by kernel_rfl) (by kernel_rfl) (by kernel_rfl) (by kernel_rfl) (Or.inr ⟨by rfl, rfl⟩) (hkW67) ?_
      (try simp only [List.setIfInBounds_toArray, List.set_cons_succ, List.set_cons_zero])
      refine go_take 16 31 #[true, true, true, true, true, true, true, true, true, true, true, true, true, true, true, true, true, false, false, false, false, false, false] (v := undef) rfl rfl rfl (by kernel_rfl) (by kernel_rfl) (by kernel_rfl) (by kernel_rfl) (by kernel_rfl) (Or.inr ⟨by rfl, rfl⟩) (hkW67) ?_
      (try simp only [List.setIfInBounds_toArray, List.set_cons_succ, List.set_cons_zero])
      refine go_take 17 32 #[true, true, true, true, true, true, true, true, true, true, true, true, true, true, true, true, true, true, false, false, false, false, false] (v := undef) rfl rfl rfl (by kernel_rfl) (by kernel_rfl) (by kernel_rfl) (by kernel_rfl) (by kernel_rfl) (Or.inr ⟨by rfl, rfl⟩) (hkW67) ?_
      (try simp only [List.setIfInBounds_toArray, List.set_cons_succ, List.set_cons_zero])
      refine go_take 18 33 #[true, true, true, true, true, true, true, true, true, true, true, true, true, true, true, true, true, true, true, false, false, false, false] (v := undef) rfl rfl rfl (by kernel_rfl) (by kernel_rfl) (by kernel_rfl) (by kernel_rfl) (by kernel_rfl) (Or.inr ⟨by rfl, rfl⟩) (hkW67) ?_
      (try simp only [List.setIfInBounds_toArray, List.set_cons_succ, List.set_cons_zero])
      refine go_take 19 34 #[true, true, true, true, true, true, true, true, true, true, true, true, true, true, true, true, true, true, true, true, false, false, false] (v := undef) rfl rfl rfl (by kernel_rfl) (by kernel_rfl) (by kernel_rfl) (by kernel_rfl) (by kernel_rfl) (Or.inr ⟨by rfl, rfl⟩) (hkW67) ?_
      (try simp only [List.setIfInBounds_toArray, List.set_cons_succ, List.set_cons_zero])
      refine go_take 20 35 #[true, true, true, true, true, true, true, true, true, true, true, true, true, true, true, true, true, true, true, true, true, false, false] (v := ?uv5) rfl rfl rfl (by kernel_rfl) (by kernel_rfl) (by kernel_rfl) (by kernel_rfl) (by kernel_rfl) (Or.inl ⟨by rfl, ?uy5⟩) (hkW67) ?urest5
      case uy5 => (intro _ _; go_simp; try with_reducible rfl)
      (try simp only [List.setIfInBounds_toArray, List.set_cons_succ, List.set_cons_zero])
      refine go_take 21 36 #[true, true, true, true, true, true, true, true, true, true, true, true, true, true, true, true, true, true, true, true, true, true, false] (v := ?uv6) rfl rfl rfl (by kernel_rfl) (by kernel_rfl) (by kernel_rfl) (by kernel_rfl) (by kernel_rfl) (Or.inl ⟨by rfl, ?uy6⟩) (hkW67) ?urest6
      case uy6 => (intro _ _; go_simp; try with_reducible rfl)
      (try simp only [List.setIfInBounds_toArray, List.set_cons_succ, List.set_cons_zero])
      refine go_take 22 4 #[true, true, true, true, true, true, true, true, true, true, true, true, true, true, true, true, true, true, true, true, true, true, true] (v := ?uv7) rfl rfl rfl (by kernel_rfl) (by kernel_rfl) (by kernel_rfl) (by kernel_rfl) (by kernel_rfl) (Or.inl ⟨by rfl, ?uy7⟩) (hkW67) ?urest7
      case uy7 => (intro _ _; go_simp; try with_reducible rfl)
      (try simp only [List.setIfInBounds_toArray, List.set_cons_succ, List.set_cons_zero])
      refine wpBut_done (by kernel_rfl) (NoPanic.normal ?_)
      have kq := M2.out.call hkW67; clear M2; have M2 := Lib.hid kq; clear kq
      have kq := M3.out.call hkW67; clear M3; have M3 := Lib.hid kq; clear kq
      have kq := M5.out.call hkW67; clear M5; have M5 := Lib.hid kq; clear kq
      have kq := M6.out.call hkW67; clear M6; have M6 := Lib.hid kq; clear kq
      have kq := M7.out.call hkW67; clear M7; have M7 := Lib.hid kq; clear kq
      have hBq := held_next HB.out hkW67; clear HB; have HB := Lib.hid hBq; clear hBq
      go_wp2_with fail
      go_ret
      exact ⟨rfl, HB.out⟩
  · have C0 := Lib.hid c0; clear c0
    repeat ((fail_if_success (with_reducible (show wpList _ _ _ _ _ _))); go_step)
    refine wp_region_meet (α := Nat × Nat) (fun W0 x w' => W0.heap.size ≤ x.1 ∧ Has w' x.1 (e4 a1) 36 ∧ W0.heap.size ≤ x.2 ∧ Has w' x.2 (e4 a2) 36 ∧ Below W0.heap.size W0 w') (fun ac x => ((((((ac.put (some 8) (.agg (k32 n1))).put (some 9) (.agg (e4 a1))).put (some 10) (.agg (k32 n2))).put (some 11) (.agg (e4 a2))).put (some 5) (.pointer (some ⟨x.1, 0, none⟩))).put (some 6) (.pointer (some ⟨x.2, 0, none⟩)))) ?_ ?_
    · intro Q' hQ'
      refine wp_region_noPanic ?_
      refine wp_region_go 99 8 #[false, false, false, false, false, false, false, false] (by kernel_rfl) rfl rfl ?_
      intro W1 hW1
      rw [← hW1] at hQ'
      simp only [Act.put, List.setIfInBounds_toArray, List.set_cons_succ, List.set_cons_zero] at hQ'
      have HQ := Lib.hid hQ'; clear hQ'
      have kq := M2.out; rw [← hW1] at kq; clear M2; have M2 := Lib.hid kq; clear kq
      have kq := M3.out; rw [← hW1] at kq; clear M3; have M3 := Lib.hid kq; clear kq
      have kq := HB.out; rw [← hW1] at kq; clear HB; have HB := Lib.hid kq; clear kq
      clear hW1
      refine go_take 0 8 #[true, false, false, false, false, false, false, false] rfl rfl rfl (by kernel_rfl) (by kernel_rfl) (by kernel_rfl) (by kernel_rfl) (by kernel_rfl) (yieldsIf_load_row (by rfl) 24 _ rfl (w.heap.size) rfl 24 (k32 n1) (fun _ h => M2.out.below h M2.out.lt) Try.underlying24 rfl (by rw [k32_size]; kernel_rfl)) ((show Below W1.heap.size W1 W1.drew from (Below.refl _ _).drew)) ?_
      (try simp only [List.setIfInBounds_toArray, List.set_cons_succ, List.set_cons_zero])
      refine go_take 2 10 #[true, false, true, false, false, false, false, false] rfl rfl rfl (by kernel_rfl) (by kernel_rfl) (by kernel_rfl) (by kernel_rfl) (by kernel_rfl) (yieldsIf_load_row (by rfl) 24 _ rfl (w.heap.size + 1) rfl 24 (k32 n2) (fun _ h => M3.out.below h M3.out.lt) Try.underlying24 rfl (by rw [k32_size]; kernel_rfl)) ((show Below W1.heap.size W1 W1.drew from (Below.refl _ _).drew)) ?_
      (try simp only [List.setIfInBounds_toArray, List.set_cons_succ, List.set_cons_zero])
      refine wpBut_r3 (i := 1) (j := 4) (l := 5) (by kernel_rfl) ?_ ?_ ?_
      · refine go_call 1 9 #[true, true, true, false, false, false, false, false] rfl rfl rfl (by rfl) rfl rfl (by rfl) ent30 (by rfl) (Hf1.out _) ?_
        rintro e wW11 ⟨rfl, hb⟩
        have hkW11 := held_next (show Below W1.heap.size W1 W1.drew from (Below.refl _ _).drew) hb
        refine ⟨_, rfl, fun _ => hkW11, ?_⟩
        clear hb
        (try simp only [List.setIfInBounds_toArray, List.set_cons_succ, List.set_cons_zero])
        refine wpBut_r3 (i := 3) (j := 4) (l := 5) (by kernel_rfl) ?_ ?_ ?_
        · refine go_call 3 11 #[true, true, true, true, false, false, false, false] rfl rfl rfl (by rfl) rfl rfl (by rfl) ent30 (by rfl) (Hf2.out _) ?_
          rintro e wW12 ⟨rfl, hb⟩
          have hkW12 := held_next hkW11 hb
          refine ⟨_, rfl, fun _ => hkW12, ?_⟩
          clear hb
          (try simp only [List.setIfInBounds_toArray, List.set_cons_succ, List.set_cons_zero])
          refine wpBut_r2 (i := 4) (j := 5) (by kernel_rfl) ?_ ?_
          · refine go_alloc 4 5 #[true, true, true, true, true, false, false, false] rfl rfl rfl (by rfl) 36 rfl _ al36 ?_
            intro wW13 hw2
            have hkW13 := (hkW12).alloc (hkW12).size (.cells (#[.int .u64 0, .int .u64 0, .int .u64 0, .int .u64 0] : Array Value) 36)
            rw [← hw2] at hkW13
            have MQ := HasN.new (wW12) (#[.int .u64 0, .int .u64 0, .int .u64 0, .int .u64 0] : Array Value) 36 4 rfl; rw [← hw2] at MQ; have MA4 := Lib.hid MQ; clear MQ
            have HA4 := Lib.hid (show W1.heap.size ≤ _ from (hkW12).size)
            clear hw2
            refine ⟨fun _ => hkW13, ?_⟩
            (try simp only [List.setIfInBounds_toArray, List.set_cons_succ, List.set_cons_zero])
            refine wpBut_r1 (i := 5) (by kernel_rfl) ?_
            refine go_alloc 5 6 #[true, true, true, true, true, true, false, false] rfl rfl rfl (by rfl) 36 rfl _ al36 ?_
            intro wW14 hw2
            have hkW14 := (hkW13).alloc (hkW13).size (.cells (#[.int .u64 0, .int .u64 0, .int .u64 0, .int .u64 0] : Array Value) 36)
            rw [← hw2] at hkW14
            have hne4_5 := MA4.out.lt
            have MQ := MA4.out.alloc (.cells (#[.int .u64 0, .int .u64 0, .int .u64 0, .int .u64 0] : Array Value) 36); rw [← hw2] at MQ; clear MA4; have MA4 := Lib.hid MQ; clear MQ
            have MQ := HasN.new (wW13) (#[.int .u64 0, .int .u64 0, .int .u64 0, .int .u64 0] : Array Value) 36 4 rfl; rw [← hw2] at MQ; have MA5 := Lib.hid MQ; clear MQ
            have HA5 := Lib.hid (show W1.heap.size ≤ _ from (hkW13).size)
            clear hw2
            refine ⟨fun _ => hkW14, ?_⟩
            (try simp only [List.setIfInBounds_toArray, List.set_cons_succ, List.set_cons_zero])
            refine wpBut_r1 (i := 6) (by kernel_rfl) ?_
            obtain ⟨Z, hZ, mZ⟩ := MA4.out
            refine go_store2 6 #[true, true, true, true, true, true, true, false] rfl rfl rfl (by rfl) 36 _ _ rfl _ _ rfl rfl 36 Z mZ (by rw [e4_size]; kernel_rfl) (hZ.trans (e4_size _).symm) (row_one _ _ _) ?_
            intro wW15 hw2
            have hkW15 := below_setRow (hkW14) _ (e4 a1) HA4.out
            rw [← hw2] at hkW15
            clear MA4
            have MQ := MA5.out.setRow_other _ (e4 a1) (show _ ≠ wW12.heap.size by omega); rw [← hw2] at MQ; clear MA5; have MA5 := Lib.hid MQ; clear MQ
            have MQ := mZ.setRow (e4 a1); rw [← hw2] at MQ; have MA4 := Lib.hid MQ; clear MQ mZ hZ hw2
            refine ⟨fun _ => hkW15, ?_⟩
            (try simp only [List.setIfInBounds_toArray, List.set_cons_succ, List.set_cons_zero])
            refine wpBut_r1 (i := 7) (by kernel_rfl) ?_
            obtain ⟨Z, hZ, mZ⟩ := MA5.out
            refine go_store2 7 #[true, true, true, true, true, true, true, true] rfl rfl rfl (by rfl) 36 _ _ rfl _ _ rfl rfl 36 Z mZ (by rw [e4_size]; kernel_rfl) (hZ.trans (e4_size _).symm) (row_one _ _ _) ?_
            intro wW16 hw2
            have hkW16 := below_setRow (hkW15) _ (e4 a2) HA5.out
            rw [← hw2] at hkW16
            clear MA5
            have MQ := MA4.out.setRow_other _ (e4 a2) (show _ ≠ wW13.heap.size by omega); rw [← hw2] at MQ; clear MA4; have MA4 := Lib.hid MQ; clear MQ
            have MQ := mZ.setRow (e4 a2); rw [← hw2] at MQ; have MA5 := Lib.hid MQ; clear MQ mZ hZ hw2
            refine ⟨fun _ => hkW16, ?_⟩
            (try simp only [List.setIfInBounds_toArray, List.set_cons_succ, List.set_cons_zero])
            exact wpBut_done (by kernel_rfl) (NoPanic.normal (HQ.out (_, _) _ ⟨HA4.out, MA4.out, HA5.out, MA5.out, (hkW16)⟩))
          · refine go_alloc 5 6 #[true, true, true, true, false, true, false, false] rfl rfl rfl (by rfl) 36 rfl _ al36 ?_
            intro wW13 hw2
            have hkW13 := (hkW12).alloc (hkW12).size (.cells (#[.int .u64 0, .int .u64 0, .int .u64 0, .int .u64 0] : Array Value) 36)
            rw [← hw2] at hkW13
            have MQ := HasN.new (wW12) (#[.int .u64 0, .int .u64 0, .int .u64 0, .int .u64 0] : Array Value) 36 4 rfl; rw [← hw2] at MQ; have MA5 := Lib.hid MQ; clear MQ
            have HA5 := Lib.hid (show W1.heap.size ≤ _ from (hkW12).size)
            clear hw2
            refine ⟨fun _ => hkW13, ?_⟩
            (try simp only [List.setIfInBounds_toArray, List.set_cons_succ, List.set_cons_zero])
            refine wpBut_r1 (i := 4) (by kernel_rfl) ?_
            refine go_alloc 4 5 #[true, true, true, true, true, true, false, false] rfl rfl rfl (by rfl) 36 rfl _ al36 ?_
            intro wW14 hw2
            have hkW14 := (hkW13).alloc (hkW13).size (.cells (#[.int .u64 0, .int .u64 0, .int .u64 0, .int .u64 0] : Array Value) 36)
            rw [← hw2] at hkW14
            have hne5_4 := MA5.out.lt
            have MQ := MA5.out.alloc (.cells (#[.int .u64 0, .int .u64 0, .int .u64 0, .int .u64 0] : Array Value) 36); rw [← hw2] at MQ; clear MA5; have MA5 := Lib.hid MQ; clear MQ
            have MQ := HasN.new (wW13) (#[.int .u64 0, .int .u64 0, .int .u64 0, .int .u64 0] : Array Value) 36 4 rfl; rw [← hw2] at MQ; have MA4 := Lib.hid MQ; clear MQ
            have HA4 := Lib.hid (show W1.heap.size ≤ _ from (hkW13).size)
            clear hw2
            refine ⟨fun _ => hkW14, ?_⟩
            (try simp only [List.setIfInBounds_toArray, List.set_cons_succ, List.set_cons_zero])
            refine wpBut_r1 (i := 6) (by kernel_rfl) ?_
            obtain ⟨Z, hZ, mZ⟩ := MA4.out
            refine go_store2 6 #[true, true, true, true, true, true, true, false] rfl rfl rfl (by rfl) 36 _ _ rfl _ _ rfl rfl 36 Z mZ (by rw [e4_size]; kernel_rfl) (hZ.trans (e4_size _).symm) (row_one _ _ _) ?_
            intro wW15 hw2
            have hkW15 := below_setRow (hkW14) _ (e4 a1) HA4.out
            rw [← hw2] at hkW15
            clear MA4
            have MQ := MA5.out.setRow_other _ (e4 a1) (show _ ≠ wW13.heap.size by omega); rw [← hw2] at MQ; clear MA5; have MA5 := Lib.hid MQ; clear MQ
            have MQ := mZ.setRow (e4 a1); rw [← hw2] at MQ; have MA4 := Lib.hid MQ; clear MQ mZ hZ hw2
            refine ⟨fun _ => hkW15, ?_⟩
            (try simp only [List.setIfInBounds_toArray, List.set_cons_succ, List.set_cons_zero])
            refine wpBut_r1 (i := 7) (by kernel_rfl) ?_
            obtain ⟨Z, hZ, mZ⟩ := MA5.out
            refine go_store2 7 #[true, true, true, true, true, true, true, true] rfl rfl rfl (by rfl) 36 _ _ rfl _ _ rfl rfl 36 Z mZ (by rw [e4_size]; kernel_rfl) (hZ.trans (e4_size _).symm) (row_one _ _ _) ?_
            intro wW16 hw2
            have hkW16 := below_setRow (hkW15) _ (e4 a2) HA5.out
            rw [← hw2] at hkW16
            clear MA5
            have MQ := MA4.out.setRow_other _ (e4 a2) (show _ ≠ wW12.heap.size by omega); rw [← hw2] at MQ; clear MA4; have MA4 := Lib.hid MQ; clear MQ
            have MQ := mZ.setRow (e4 a2); rw [← hw2] at MQ; have MA5 := Lib.hid MQ; clear MQ mZ hZ hw2
            refine ⟨fun _ => hkW16, ?_⟩
            (try simp only [List.setIfInBounds_toArray, List.set_cons_succ, List.set_cons_zero])
            exact wpBut_done (by kernel_rfl) (NoPanic.normal (HQ.out (_, _) _ ⟨HA4.out, MA4.out, HA5.out, MA5.out, (hkW16)⟩))
        · refine go_alloc 4 5 #[true, true, true, false, true, false, false, false] rfl rfl rfl (by rfl) 36 rfl _ al36 ?_
          intro wW12 hw2
          have hkW12 := (hkW11).alloc (hkW11).size (.cells (#[.int .u64 0, .int .u64 0, .int .u64 0, .int .u64 0] : Array Value) 36)
          rw [← hw2] at hkW12
          have MQ := HasN.new (wW11) (#[.int .u64 0, .int .u64 0, .int .u64 0, .int .u64 0] : Array Value) 36 4 rfl; rw [← hw2] at MQ; have MA4 := Lib.hid MQ; clear MQ
          have HA4 := Lib.hid (show W1.heap.size ≤ _ from (hkW11).size)
          clear hw2
          refine ⟨fun _ => hkW12, ?_⟩
          (try simp only [List.setIfInBounds_toArray, List.set_cons_succ, List.set_cons_zero])
          refine wpBut_r2 (i := 3) (j := 5) (by kernel_rfl) ?_ ?_
          · refine go_call 3 11 #[true, true, true, true, true, false, false, false] rfl rfl rfl (by rfl) rfl rfl (by rfl) ent30 (by rfl) (Hf2.out _) ?_
            rintro e wW13 ⟨rfl, hb⟩
            have hkW13 := held_next hkW12 hb
            have MQ4 := Lib.hid (MA4.out.call hb); clear MA4
            have MA4 := MQ4; clear MQ4
            refine ⟨_, rfl, fun _ => hkW13, ?_⟩
            clear hb
            (try simp only [List.setIfInBounds_toArray, List.set_cons_succ, List.set_cons_zero])
            refine wpBut_r1 (i := 5) (by kernel_rfl) ?_
            refine go_alloc 5 6 #[true, true, true, true, true, true, false, false] rfl rfl rfl (by rfl) 36 rfl _ al36 ?_
            intro wW14 hw2
            have hkW14 := (hkW13).alloc (hkW13).size (.cells (#[.int .u64 0, .int .u64 0, .int .u64 0, .int .u64 0] : Array Value) 36)
            rw [← hw2] at hkW14
            have hne4_5 := MA4.out.lt
            have MQ := MA4.out.alloc (.cells (#[.int .u64 0, .int .u64 0, .int .u64 0, .int .u64 0] : Array Value) 36); rw [← hw2] at MQ; clear MA4; have MA4 := Lib.hid MQ; clear MQ
            have MQ := HasN.new (wW13) (#[.int .u64 0, .int .u64 0, .int .u64 0, .int .u64 0] : Array Value) 36 4 rfl; rw [← hw2] at MQ; have MA5 := Lib.hid MQ; clear MQ
            have HA5 := Lib.hid (show W1.heap.size ≤ _ from (hkW13).size)
            clear hw2
            refine ⟨fun _ => hkW14, ?_⟩
            (try simp only [List.setIfInBounds_toArray, List.set_cons_succ, List.set_cons_zero])
            refine wpBut_r1 (i := 6) (by kernel_rfl) ?_
            obtain ⟨Z, hZ, mZ⟩ := MA4.out
            refine go_store2 6 #[true, true, true, true, true, true, true, false] rfl rfl rfl (by rfl) 36 _ _ rfl _ _ rfl rfl 36 Z mZ (by rw [e4_size]; kernel_rfl) (hZ.trans (e4_size _).symm) (row_one _ _ _) ?_
            intro wW15 hw2
            have hkW15 := below_setRow (hkW14) _ (e4 a1) HA4.out
            rw [← hw2] at hkW15
            clear MA4
            have MQ := MA5.out.setRow_other _ (e4 a1) (show _ ≠ wW11.heap.size by omega); rw [← hw2] at MQ; clear MA5; have MA5 := Lib.hid MQ; clear MQ
            have MQ := mZ.setRow (e4 a1); rw [← hw2] at MQ; have MA4 := Lib.hid MQ; clear MQ mZ hZ hw2
            refine ⟨fun _ => hkW15, ?_⟩
            (try simp only [List.setIfInBounds_toArray, List.set_cons_succ, List.set_cons_zero])
            refine wpBut_r1 (i := 7) (by kernel_rfl) ?_
            obtain ⟨Z, hZ, mZ⟩ := MA5.out
            refine go_store2 7 #[true, true, true, true, true, true, true, true] rfl rfl rfl (by rfl) 36 _ _ rfl _ _ rfl rfl 36 Z mZ (by rw [e4_size]; kernel_rfl) (hZ.trans (e4_size _).symm) (row_one _ _ _) ?_
            intro wW16 hw2
            have hkW16 := below_setRow (hkW15) _ (e4 a2) HA5.out
            rw [← hw2] at hkW16
            clear MA5
            have MQ := MA4.out.setRow_other _ (e4 a2) (show _ ≠ wW13.heap.size by omega); rw [← hw2] at MQ; clear MA4; have MA4 := Lib.hid MQ; clear MQ
            have MQ := mZ.setRow (e4 a2); rw [← hw2] at MQ; have MA5 := Lib.hid MQ; clear MQ mZ hZ hw2
            refine ⟨fun _ => hkW16, ?_⟩
            (try simp only [List.setIfInBounds_toArray, List.set_cons_succ, List.set_cons_zero])
            exact wpBut_done (by kernel_rfl) (NoPanic.normal (HQ.out (_, _) _ ⟨HA4.out, MA4.out, HA5.out, MA5.out, (hkW16)⟩))
          · refine go_alloc 5 6 #[true, true, true, false, true, true, false, false] rfl rfl rfl (by rfl) 36 rfl _ al36 ?_
            intro wW13 hw2
            have hkW13 := (hkW12).alloc (hkW12).size (.cells (#[.int .u64 0, .int .u64 0, .int .u64 0, .int .u64 0] : Array Value) 36)
            rw [← hw2] at hkW13
            have hne4_5 := MA4.out.lt
            have MQ := MA4.out.alloc (.cells (#[.int .u64 0, .int .u64 0, .int .u64 0, .int .u64 0] : Array Value) 36); rw [← hw2] at MQ; clear MA4; have MA4 := Lib.hid MQ; clear MQ
            have MQ := HasN.new (wW12) (#[.int .u64 0, .int .u64 0, .int .u64 0, .int .u64 0] : Array Value) 36 4 rfl; rw [← hw2] at MQ; have MA5 := Lib.hid MQ; clear MQ
            have HA5 := Lib.hid (show W1.heap.size ≤ _ from (hkW12).size)
            clear hw2
            refine ⟨fun _ => hkW13, ?_⟩
            (try simp only [List.setIfInBounds_toArray, List.set_cons_succ, List.set_cons_zero])
            refine wpBut_r1 (i := 3) (by kernel_rfl) ?_
            refine go_call 3 11 #[true, true, true, true, true, true, false, false] rfl rfl rfl (by rfl) rfl rfl (by rfl) ent30 (by rfl) (Hf2.out _) ?_
            rintro e wW14 ⟨rfl, hb⟩
            have hkW14 := held_next hkW13 hb
            have MQ4 := Lib.hid (MA4.out.call hb); clear MA4
            have MA4 := MQ4; clear MQ4
            have MQ5 := Lib.hid (MA5.out.call hb); clear MA5
            have MA5 := MQ5; clear MQ5
            refine ⟨_, rfl, fun _ => hkW14, ?_⟩
            clear hb
            (try simp only [List.setIfInBounds_toArray, List.set_cons_succ, List.set_cons_zero])
            refine wpBut_r1 (i := 6) (by kernel_rfl) ?_
            obtain ⟨Z, hZ, mZ⟩ := MA4.out
            refine go_store2 6 #[true, true, true, true, true, true, true, false] rfl rfl rfl (by rfl) 36 _ _ rfl _ _ rfl rfl 36 Z mZ (by rw [e4_size]; kernel_rfl) (hZ.trans (e4_size _).symm) (row_one _ _ _) ?_
            intro wW15 hw2
            have hkW15 := below_setRow (hkW14) _ (e4 a1) HA4.out
            rw [← hw2] at hkW15
            clear MA4
            have MQ := MA5.out.setRow_other _ (e4 a1) (show _ ≠ wW11.heap.size by omega); rw [← hw2] at MQ; clear MA5; have MA5 := Lib.hid MQ; clear MQ
            have MQ := mZ.setRow (e4 a1); rw [← hw2] at MQ; have MA4 := Lib.hid MQ; clear MQ mZ hZ hw2
            refine ⟨fun _ => hkW15, ?_⟩
            (try simp only [List.setIfInBounds_toArray, List.set_cons_succ, List.set_cons_zero])
            refine wpBut_r1 (i := 7) (by kernel_rfl) ?_
            obtain ⟨Z, hZ, mZ⟩ := MA5.out
            refine go_store2 7 #[true, true, true, true, true, true, true, true] rfl rfl rfl (by rfl) 36 _ _ rfl _ _ rfl rfl 36 Z mZ (by rw [e4_size]; kernel_rfl) (hZ.trans (e4_size _).symm) (row_one _ _ _) ?_
            intro wW16 hw2
            have hkW16 := below_setRow (hkW15) _ (e4 a2) HA5.out
            rw [← hw2] at hkW16
            clear MA5
            have MQ := MA4.out.setRow_other _ (e4 a2) (show _ ≠ wW12.heap.size by omega); rw [← hw2] at MQ; clear MA4; have MA4 := Lib.hid MQ; clear MQ
            have MQ := mZ.setRow (e4 a2); rw [← hw2] at MQ; have MA5 := Lib.hid MQ; clear MQ mZ hZ hw2
            refine ⟨fun _ => hkW16, ?_⟩
            (try simp only [List.setIfInBounds_toArray, List.set_cons_succ, List.set_cons_zero])
            exact wpBut_done (by kernel_rfl) (NoPanic.normal (HQ.out (_, _) _ ⟨HA4.out, MA4.out, HA5.out, MA5.out, (hkW16)⟩))
        · refine go_alloc 5 6 #[true, true, true, false, false, true, false, false] rfl rfl rfl (by rfl) 36 rfl _ al36 ?_
          intro wW12 hw2
          have hkW12 := (hkW11).alloc (hkW11).size (.cells (#[.int .u64 0, .int .u64 0, .int .u64 0, .int .u64 0] : Array Value) 36)
          rw [← hw2] at hkW12
          have MQ := HasN.new (wW11) (#[.int .u64 0, .int .u64 0, .int .u64 0, .int .u64 0] : Array Value) 36 4 rfl; rw [← hw2] at MQ; have MA5 := Lib.hid MQ; clear MQ
          have HA5 := Lib.hid (show W1.heap.size ≤ _ from (hkW11).size)
          clear hw2
          refine ⟨fun _ => hkW12, ?_⟩
          (try simp only [List.setIfInBounds_toArray, List.set_cons_succ, List.set_cons_zero])
          refine wpBut_r2 (i := 3) (j := 4) (by kernel_rfl) ?_ ?_
          · refine go_call 3 11 #[true, true, true, true, false, true, false, false] rfl rfl rfl (by rfl) rfl rfl (by rfl) ent30 (by rfl) (Hf2.out _) ?_
            rintro e wW13 ⟨rfl, hb⟩
            have hkW13 := held_next hkW12 hb
            have MQ5 := Lib.hid (MA5.out.call hb); clear MA5
            have MA5 := MQ5; clear MQ5
            refine ⟨_, rfl, fun _ => hkW13, ?_⟩
            clear hb
            (try simp only [List.setIfInBounds_toArray, List.set_cons_succ, List.set_cons_zero])
            refine wpBut_r1 (i := 4) (by kernel_rfl) ?_
            refine go_alloc 4 5 #[true, true, true, true, true, true, false, false] rfl rfl rfl (by rfl) 36 rfl _ al36 ?_
            intro wW14 hw2
            have hkW14 := (hkW13).alloc (hkW13).size (.cells (#[.int .u64 0, .int .u64 0, .int .u64 0, .int .u64 0] : Array Value) 36)
            rw [← hw2] at hkW14
            have hne5_4 := MA5.out.lt
            have MQ := MA5.out.alloc (.cells (#[.int .u64 0, .int .u64 0, .int .u64 0, .int .u64 0] : Array Value) 36); rw [← hw2] at MQ; clear MA5; have MA5 := Lib.hid MQ; clear MQ
            have MQ := HasN.new (wW13) (#[.int .u64 0, .int .u64 0, .int .u64 0, .int .u64 0] : Array Value) 36 4 rfl; rw [← hw2] at MQ; have MA4 := Lib.hid MQ; clear MQ
            have HA4 := Lib.hid (show W1.heap.size ≤ _ from (hkW13).size)
            clear hw2
            refine ⟨fun _ => hkW14, ?_⟩
            (try simp only [List.setIfInBounds_toArray, List.set_cons_succ, List.set_cons_zero])
            refine wpBut_r1 (i := 6) (by kernel_rfl) ?_
            obtain ⟨Z, hZ, mZ⟩ := MA4.out
            refine go_store2 6 #[true, true, true, true, true, true, true, false] rfl rfl rfl (by rfl) 36 _ _ rfl _ _ rfl rfl 36 Z mZ (by rw [e4_size]; kernel_rfl) (hZ.trans (e4_size _).symm) (row_one _ _ _) ?_
            intro wW15 hw2
            have hkW15 := below_setRow (hkW14) _ (e4 a1) HA4.out
            rw [← hw2] at hkW15
            clear MA4
            have MQ := MA5.out.setRow_other _ (e4 a1) (show _ ≠ wW13.heap.size by omega); rw [← hw2] at MQ; clear MA5; have MA5 := Lib.hid MQ; clear MQ
            have MQ := mZ.setRow (e4 a1); rw [← hw2] at MQ; have MA4 := Lib.hid MQ; clear MQ mZ hZ hw2
            refine ⟨fun _ => hkW15, ?_⟩
            (try simp only [List.setIfInBounds_toArray, List.set_cons_succ, List.set_cons_zero])
            refine wpBut_r1 (i := 7) (by kernel_rfl) ?_
            obtain ⟨Z, hZ, mZ⟩ := MA5.out
            refine go_store2 7 #[true, true, true, true, true, true, true, true] rfl rfl rfl (by rfl) 36 _ _ rfl _ _ rfl rfl 36 Z mZ (by rw [e4_size]; kernel_rfl) (hZ.trans (e4_size _).symm) (row_one _ _ _) ?_
            intro wW16 hw2
            have hkW16 := below_setRow (hkW15) _ (e4 a2) HA5.out
            rw [← hw2] at hkW16
            clear MA5
            have MQ := MA4.out.setRow_other _ (e4 a2) (show _ ≠ wW11.heap.size by omega); rw [← hw2] at MQ; clear MA4; have MA4 := Lib.hid MQ; clear MQ
            have MQ := mZ.setRow (e4 a2); rw [← hw2] at MQ; have MA5 := Lib.hid MQ; clear MQ mZ hZ hw2
            refine ⟨fun _ => hkW16, ?_⟩
            (try simp only [List.setIfInBounds_toArray, List.set_cons_succ, List.set_cons_zero])
            exact wpBut_done (by kernel_rfl) (NoPanic.normal (HQ.out (_, _) _ ⟨HA4.out, MA4.out, HA5.out, MA5.out, (hkW16)⟩))
          · refine go_alloc 4 5 #[true, true, true, false, true, true, false, false] rfl rfl rfl (by rfl) 36 rfl _ al36 ?_
            intro wW13 hw2
            have hkW13 := (hkW12).alloc (hkW12).size (.cells (#[.int .u64 0, .int .u64 0, .int .u64 0, .int .u64 0] : Array Value) 36)
            rw [← hw2] at hkW13
            have hne5_4 := MA5.out.lt
            have MQ := MA5.out.alloc (.cells (#[.int .u64 0, .int .u64 0, .int .u64 0, .int .u64 0] : Array Value) 36); rw [← hw2] at MQ; clear MA5; have MA5 := Lib.hid MQ; clear MQ
            have MQ := HasN.new (wW12) (#[.int .u64 0, .int .u64 0, .int .u64 0, .int .u64 0] : Array Value) 36 4 rfl; rw [← hw2] at MQ; have MA4 := Lib.hid MQ; clear MQ
            have HA4 := Lib.hid (show W1.heap.size ≤ _ from (hkW12).size)
            clear hw2
            refine ⟨fun _ => hkW13, ?_⟩
            (try simp only [List.setIfInBounds_toArray, List.set_cons_succ, List.set_cons_zero])
            refine wpBut_r1 (i := 3) (by kernel_rfl) ?_
            refine go_call 3 11 #[true, true, true, true, true, true, false, false] rfl rfl rfl (by rfl) rfl rfl (by rfl) ent30 (by rfl) (Hf2.out _) ?_
            rintro e wW14 ⟨rfl, hb⟩
            have hkW14 := held_next hkW13 hb
            have MQ5 := Lib.hid (MA5.out.call hb); clear MA5
            have MA5 := MQ5; clear MQ5
            have MQ4 := Lib.hid (MA4.out.call hb); clear MA4
            have MA4 := MQ4; clear MQ4
            refine ⟨_, rfl, fun _ => hkW14, ?_⟩
            clear hb
            (try simp only [List.setIfInBounds_toArray, List.set_cons_succ, List.set_cons_zero])
            refine wpBut_r1 (i := 6) (by kernel_rfl) ?_
            obtain ⟨Z, hZ, mZ⟩ := MA4.out
            refine go_store2 6 #[true, true, true, true, true, true, true, false] rfl rfl rfl (by rfl) 36 _ _ rfl _ _ rfl rfl 36 Z mZ (by rw [e4_size]; kernel_rfl) (hZ.trans (e4_size _).symm) (row_one _ _ _) ?_
            intro wW15 hw2
            have hkW15 := below_setRow (hkW14) _ (e4 a1) HA4.out
            rw [← hw2] at hkW15
            clear MA4
            have MQ := MA5.out.setRow_other _ (e4 a1) (show _ ≠ wW12.heap.size by omega); rw [← hw2] at MQ; clear MA5; have MA5 := Lib.hid MQ; clear MQ
            have MQ := mZ.setRow (e4 a1); rw [← hw2] at MQ; have MA4 := Lib.hid MQ; clear MQ mZ hZ hw2
            refine ⟨fun _ => hkW15, ?_⟩
            (try simp only [List.setIfInBounds_toArray, List.set_cons_succ, List.set_cons_zero])
            refine wpBut_r1 (i := 7) (by kernel_rfl) ?_
            obtain ⟨Z, hZ, mZ⟩ := MA5.out
            refine go_store2 7 #[true, true, true, true, true, true, true, true] rfl rfl rfl (by rfl) 36 _ _ rfl _ _ rfl rfl 36 Z mZ (by rw [e4_size]; kernel_rfl) (hZ.trans (e4_size _).symm) (row_one _ _ _) ?_
            intro wW16 hw2
            have hkW16 := below_setRow (hkW15) _ (e4 a2) HA5.out
            rw [← hw2] at hkW16
            clear MA5
            have MQ := MA4.out.setRow_other _ (e4 a2) (show _ ≠ wW11.heap.size by omega); rw [← hw2] at MQ; clear MA4; have MA4 := Lib.hid MQ; clear MQ
            have MQ := mZ.setRow (e4 a2); rw [← hw2] at MQ; have MA5 := Lib.hid MQ; clear MQ mZ hZ hw2
            refine ⟨fun _ => hkW16, ?_⟩
            (try simp only [List.setIfInBounds_toArray, List.set_cons_succ, List.set_cons_zero])
            exact wpBut_done (by kernel_rfl) (NoPanic.normal (HQ.out (_, _) _ ⟨HA4.out, MA4.out, HA5.out, MA5.out, (hkW16)⟩))
      · refine go_alloc 4 5 #[true, false, true, false, true, false, false, false] rfl rfl rfl (by rfl) 36 rfl _ al36 ?_
        intro wW11 hw2
        have hkW11 := ((show Below W1.heap.size W1 W1.drew from (Below.refl _ _).drew)).alloc ((show Below W1.heap.size W1 W1.drew from (Below.refl _ _).drew)).size (.cells (#[.int .u64 0, .int .u64 0, .int .u64 0, .int .u64 0] : Array Value) 36)
        rw [← hw2] at hkW11
        have MQ := HasN.new (W1.drew) (#[.int .u64 0, .int .u64 0, .int .u64 0, .int .u64 0] : Array Value) 36 4 rfl; rw [← hw2] at MQ; have MA4 := Lib.hid MQ; clear MQ
        have HA4 := Lib.hid (show W1.heap.size ≤ _ from ((show Below W1.heap.size W1 W1.drew from (Below.refl _ _).drew)).size)
        clear hw2
        refine ⟨fun _ => hkW11, ?_⟩
        (try simp only [List.setIfInBounds_toArray, List.set_cons_succ, List.set_cons_zero])
        refine wpBut_r2 (i := 1) (j := 5) (by kernel_rfl) ?_ ?_
        · refine go_call 1 9 #[true, true, true, false, true, false, false, false] rfl rfl rfl (by rfl) rfl rfl (by rfl) ent30 (by rfl) (Hf1.out _) ?_
          rintro e wW12 ⟨rfl, hb⟩
          have hkW12 := held_next hkW11 hb
          have MQ4 := Lib.hid (MA4.out.call hb); clear MA4
          have MA4 := MQ4; clear MQ4
          refine ⟨_, rfl, fun _ => hkW12, ?_⟩
          clear hb
          (try simp only [List.setIfInBounds_toArray, List.set_cons_succ, List.set_cons_zero])
          refine wpBut_r2 (i := 3) (j := 5) (by kernel_rfl) ?_ ?_
          · refine go_call 3 11 #[true, true, true, true, true, false, false, false] rfl rfl rfl (by rfl) rfl rfl (by rfl) ent30 (by rfl) (Hf2.out _) ?_
            rintro e wW13 ⟨rfl, hb⟩
            have hkW13 := held_next hkW12 hb
            have MQ4 := Lib.hid (MA4.out.call hb); clear MA4
            have MA4 := MQ4; clear MQ4
            refine ⟨_, rfl, fun _ => hkW13, ?_⟩
            clear hb
            (try simp only [List.setIfInBounds_toArray, List.set_cons_succ, List.set_cons_zero])
            refine wpBut_r1 (i := 5) (by kernel_rfl) ?_
            refine go_alloc 5 6 #[true, true, true, true, true, true, false, false] rfl rfl rfl (by rfl) 36 rfl _ al36 ?_
            intro wW14 hw2
            have hkW14 := (hkW13).alloc (hkW13).size (.cells (#[.int .u64 0, .int .u64 0, .int .u64 0, .int .u64 0] : Array Value) 36)
            rw [← hw2] at hkW14
            have hne4_5 := MA4.out.lt
            have MQ := MA4.out.alloc (.cells (#[.int .u64 0, .int .u64 0, .int .u64 0, .int .u64 0] : Array Value) 36); rw [← hw2] at MQ; clear MA4; have MA4 := Lib.hid MQ; clear MQ
            have MQ := HasN.new (wW13) (#[.int .u64 0, .int .u64 0, .int .u64 0, .int .u64 0] : Array Value) 36 4 rfl; rw [← hw2] at MQ; have MA5 := Lib.hid MQ; clear MQ
            have HA5 := Lib.hid (show W1.heap.size ≤ _ from (hkW13).size)
            clear hw2
            refine ⟨fun _ => hkW14, ?_⟩
            (try simp only [List.setIfInBounds_toArray, List.set_cons_succ, List.set_cons_zero])
            refine wpBut_r1 (i := 6) (by kernel_rfl) ?_
            obtain ⟨Z, hZ, mZ⟩ := MA4.out
            refine go_store2 6 #[true, true, true, true, true, true, true, false] rfl rfl rfl (by rfl) 36 _ _ rfl _ _ rfl rfl 36 Z mZ (by rw [e4_size]; kernel_rfl) (hZ.trans (e4_size _).symm) (row_one _ _ _) ?_
            intro wW15 hw2
            have hkW15 := below_setRow (hkW14) _ (e4 a1) HA4.out
            rw [← hw2] at hkW15
            clear MA4
            have MQ := MA5.out.setRow_other _ (e4 a1) (show _ ≠ W1.drew.heap.size by omega); rw [← hw2] at MQ; clear MA5; have MA5 := Lib.hid MQ; clear MQ
            have MQ := mZ.setRow (e4 a1); rw [← hw2] at MQ; have MA4 := Lib.hid MQ; clear MQ mZ hZ hw2
            refine ⟨fun _ => hkW15, ?_⟩
            (try simp only [List.setIfInBounds_toArray, List.set_cons_succ, List.set_cons_zero])
            refine wpBut_r1 (i := 7) (by kernel_rfl) ?_
            obtain ⟨Z, hZ, mZ⟩ := MA5.out
            refine go_store2 7 #[true, true, true, true, true, true, true, true] rfl rfl rfl (by rfl) 36 _ _ rfl _ _ rfl rfl 36 Z mZ (by rw [e4_size]; kernel_rfl) (hZ.trans (e4_size _).symm) (row_one _ _ _) ?_
            intro wW16 hw2
            have hkW16 := below_setRow (hkW15) _ (e4 a2) HA5.out
            rw [← hw2] at hkW16
            clear MA5
            have MQ := MA4.out.setRow_other _ (e4 a2) (show _ ≠ wW13.heap.size by omega); rw [← hw2] at MQ; clear MA4; have MA4 := Lib.hid MQ; clear MQ
            have MQ := mZ.setRow (e4 a2); rw [← hw2] at MQ; have MA5 := Lib.hid MQ; clear MQ mZ hZ hw2
            refine ⟨fun _ => hkW16, ?_⟩
            (try simp only [List.setIfInBounds_toArray, List.set_cons_succ, List.set_cons_zero])
            exact wpBut_done (by kernel_rfl) (NoPanic.normal (HQ.out (_, _) _ ⟨HA4.out, MA4.out, HA5.out, MA5.out, (hkW16)⟩))
          · refine go_alloc 5 6 #[true, true, true, false, true, true, false, false] rfl rfl rfl (by rfl) 36 rfl _ al36 ?_
            intro wW13 hw2
            have hkW13 := (hkW12).alloc (hkW12).size (.cells (#[.int .u64 0, .int .u64 0, .int .u64 0, .int .u64 0] : Array Value) 36)
            rw [← hw2] at hkW13
            have hne4_5 := MA4.out.lt
            have MQ := MA4.out.alloc (.cells (#[.int .u64 0, .int .u64 0, .int .u64 0, .int .u64 0] : Array Value) 36); rw [← hw2] at MQ; clear MA4; have MA4 := Lib.hid MQ; clear MQ
            have MQ := HasN.new (wW12) (#[.int .u64 0, .int .u64 0, .int .u64 0, .int .u64 0] : Array Value) 36 4 rfl; rw [← hw2] at MQ; have MA5 := Lib.hid MQ; clear MQ
            have HA5 := Lib.hid (show W1.heap.size ≤ _ from (hkW12).size)
            clear hw2
            refine ⟨fun _ => hkW13, ?_⟩
            (try simp only [List.setIfInBounds_toArray, List.set_cons_succ, List.set_cons_zero])
            refine wpBut_r1 (i := 3) (by kernel_rfl) ?_
            refine go_call 3 11 #[true, true, true, true, true, true, false, false] rfl rfl rfl (by rfl) rfl rfl (by rfl) ent30 (by rfl) (Hf2.out _) ?_
            rintro e wW14 ⟨rfl, hb⟩
            have hkW14 := held_next hkW13 hb
            have MQ4 := Lib.hid (MA4.out.call hb); clear MA4
            have MA4 := MQ4; clear MQ4
            have MQ5 := Lib.hid (MA5.out.call hb); clear MA5
            have MA5 := MQ5; clear MQ5
            refine ⟨_, rfl, fun _ => hkW14, ?_⟩
            clear hb
            (try simp only [List.setIfInBounds_toArray, List.set_cons_succ, List.set_cons_zero])
            refine wpBut_r1 (i := 6) (by kernel_rfl) ?_
            obtain ⟨Z, hZ, mZ⟩ := MA4.out
            refine go_store2 6 #[true, true, true, true, true, true, true, false] rfl rfl rfl (by rfl) 36 _ _ rfl _ _ rfl rfl 36 Z mZ (by rw [e4_size]; kernel_rfl) (hZ.trans (e4_size _).symm) (row_one _ _ _) ?_
            intro wW15 hw2
            have hkW15 := below_setRow (hkW14) _ (e4 a1) HA4.out
            rw [← hw2] at hkW15
            clear MA4
            have MQ := MA5.out.setRow_other _ (e4 a1) (show _ ≠ W1.drew.heap.size by omega); rw [← hw2] at MQ; clear MA5; have MA5 := Lib.hid MQ; clear MQ
            have MQ := mZ.setRow (e4 a1); rw [← hw2] at MQ; have MA4 := Lib.hid MQ; clear MQ mZ hZ hw2
            refine ⟨fun _ => hkW15, ?_⟩
            (try simp only [List.setIfInBounds_toArray, List.set_cons_succ, List.set_cons_zero])
            refine wpBut_r1 (i := 7) (by kernel_rfl) ?_
            obtain ⟨Z, hZ, mZ⟩ := MA5.out
            refine go_store2 7 #[true, true, true, true, true, true, true, true] rfl rfl rfl (by rfl) 36 _ _ rfl _ _ rfl rfl 36 Z mZ (by rw [e4_size]; kernel_rfl) (hZ.trans (e4_size _).symm) (row_one _ _ _) ?_
            intro wW16 hw2
            have hkW16 := below_setRow (hkW15) _ (e4 a2) HA5.out
            rw [← hw2] at hkW16
            clear MA5
            have MQ := MA4.out.setRow_other _ (e4 a2) (show _ ≠ wW12.heap.size by omega); rw [← hw2] at MQ; clear MA4; have MA4 := Lib.hid MQ; clear MQ
            have MQ := mZ.setRow (e4 a2); rw [← hw2] at MQ; have MA5 := Lib.hid MQ; clear MQ mZ hZ hw2
            refine ⟨fun _ => hkW16, ?_⟩
            (try simp only [List.setIfInBounds_toArray, List.set_cons_succ, List.set_cons_zero])
            exact wpBut_done (by kernel_rfl) (NoPanic.normal (HQ.out (_, _) _ ⟨HA4.out, MA4.out, HA5.out, MA5.out, (hkW16)⟩))
        · refine go_alloc 5 6 #[true, false, true, false, true, true, false, false] rfl rfl rfl (by rfl) 36 rfl _ al36 ?_
          intro wW12 hw2
          have hkW12 := (hkW11).alloc (hkW11).size (.cells (#[.int .u64 0, .int .u64 0, .int .u64 0, .int .u64 0] : Array Value) 36)
          rw [← hw2] at hkW12
          have hne4_5 := MA4.out.lt
          have MQ := MA4.out.alloc (.cells (#[.int .u64 0, .int .u64 0, .int .u64 0, .int .u64 0] : Array Value) 36); rw [← hw2] at MQ; clear MA4; have MA4 := Lib.hid MQ; clear MQ
          have MQ := HasN.new (wW11) (#[.int .u64 0, .int .u64 0, .int .u64 0, .int .u64 0] : Array Value) 36 4 rfl; rw [← hw2] at MQ; have MA5 := Lib.hid MQ; clear MQ
          have HA5 := Lib.hid (show W1.heap.size ≤ _ from (hkW11).size)
          clear hw2
          refine ⟨fun _ => hkW12, ?_⟩
          (try simp only [List.setIfInBounds_toArray, List.set_cons_succ, List.set_cons_zero])
          refine wpBut_r1 (i := 1) (by kernel_rfl) ?_
          refine go_call 1 9 #[true, true, true, false, true, true, false, false] rfl rfl rfl (by rfl) rfl rfl (by rfl) ent30 (by rfl) (Hf1.out _) ?_
          rintro e wW13 ⟨rfl, hb⟩
          have hkW13 := held_next hkW12 hb
          have MQ4 := Lib.hid (MA4.out.call hb); clear MA4
          have MA4 := MQ4; clear MQ4
          have MQ5 := Lib.hid (MA5.out.call hb); clear MA5
          have MA5 := MQ5; clear MQ5
          refine ⟨_, rfl, fun _ => hkW13, ?_⟩
          clear hb
          (try simp only [List.setIfInBounds_toArray, List.set_cons_succ, List.set_cons_zero])
          refine wpBut_r1 (i := 3) (by kernel_rfl) ?_
          refine go_call 3 11 #[true, true, true, true, true, true, false, false] rfl rfl rfl (by rfl) rfl rfl (by rfl) ent30 (by rfl) (Hf2.out _) ?_
          rintro e wW14 ⟨rfl, hb⟩
          have hkW14 := held_next hkW13 hb
          have MQ4 := Lib.hid (MA4.out.call hb); clear MA4
          have MA4 := MQ4; clear MQ4
          have MQ5 := Lib.hid (MA5.out.call hb); clear MA5
          have MA5 := MQ5; clear MQ5
          refine ⟨_, rfl, fun _ => hkW14, ?_⟩
          clear hb
          (try simp only [List.setIfInBounds_toArray, List.set_cons_succ, List.set_cons_zero])
          refine wpBut_r1 (i := 6) (by kernel_rfl) ?_
          obtain ⟨Z, hZ, mZ⟩ := MA4.out
          refine go_store2 6 #[true, true, true, true, true, true, true, false] rfl rfl rfl (by rfl) 36 _ _ rfl _ _ rfl rfl 36 Z mZ (by rw [e4_size]; kernel_rfl) (hZ.trans (e4_size _).symm) (row_one _ _ _) ?_
          intro wW15 hw2
          have hkW15 := below_setRow (hkW14) _ (e4 a1) HA4.out
          rw [← hw2] at hkW15
          clear MA4
          have MQ := MA5.out.setRow_other _ (e4 a1) (show _ ≠ W1.drew.heap.size by omega); rw [← hw2] at MQ; clear MA5; have MA5 := Lib.hid MQ; clear MQ
          have MQ := mZ.setRow (e4 a1); rw [← hw2] at MQ; have MA4 := Lib.hid MQ; clear MQ mZ hZ hw2
          refine ⟨fun _ => hkW15, ?_⟩
          (try simp only [List.setIfInBounds_toArray, List.set_cons_succ, List.set_cons_zero])
          refine wpBut_r1 (i := 7) (by kernel_rfl) ?_
          obtain ⟨Z, hZ, mZ⟩ := MA5.out
          refine go_store2 7 #[true, true, true, true, true, true, true, true] rfl rfl rfl (by rfl) 36 _ _ rfl _ _ rfl rfl 36 Z mZ (by rw [e4_size]; kernel_rfl) (hZ.trans (e4_size _).symm) (row_one _ _ _) ?_
          intro wW16 hw2
          have hkW16 := below_setRow (hkW15) _ (e4 a2) HA5.out
          rw [← hw2] at hkW16
          clear MA5
          have MQ := MA4.out.setRow_other _ (e4 a2) (show _ ≠ wW11.heap.size by omega); rw [← hw2] at MQ; clear MA4; have MA4 := Lib.hid MQ; clear MQ
          have MQ := mZ.setRow (e4 a2); rw [← hw2] at MQ; have MA5 := Lib.hid MQ; clear MQ mZ hZ hw2
          refine ⟨fun _ => hkW16, ?_⟩
          (try simp only [List.setIfInBounds_toArray, List.set_cons_succ, List.set_cons_zero])
          exact wpBut_done (by kernel_rfl) (NoPanic.normal (HQ.out (_, _) _ ⟨HA4.out, MA4.out, HA5.out, MA5.out, (hkW16)⟩))
      · refine go_alloc 5 6 #[true, false, true, false, false, true, false, false] rfl rfl rfl (by rfl) 36 rfl _ al36 ?_
        intro wW11 hw2
        have hkW11 := ((show Below W1.heap.size W1 W1.drew from (Below.refl _ _).drew)).alloc ((show Below W1.heap.size W1 W1.drew from (Below.refl _ _).drew)).size (.cells (#[.int .u64 0, .int .u64 0, .int .u64 0, .int .u64 0] : Array Value) 36)
        rw [← hw2] at hkW11
        have MQ := HasN.new (W1.drew) (#[.int .u64 0, .int .u64 0, .int .u64 0, .int .u64 0] : Array Value) 36 4 rfl; rw [← hw2] at MQ; have MA5 := Lib.hid MQ; clear MQ
        have HA5 := Lib.hid (show W1.heap.size ≤ _ from ((show Below W1.heap.size W1 W1.drew from (Below.refl _ _).drew)).size)
        clear hw2
        refine ⟨fun _ => hkW11, ?_⟩
        (try simp only [List.setIfInBounds_toArray, List.set_cons_succ, List.set_cons_zero])
        refine wpBut_r2 (i := 1) (j := 4) (by kernel_rfl) ?_ ?_
        · refine go_call 1 9 #[true, true, true, false, false, true, false, false] rfl rfl rfl (by rfl) rfl rfl (by rfl) ent30 (by rfl) (Hf1.out _) ?_
          rintro e wW12 ⟨rfl, hb⟩
          have hkW12 := held_next hkW11 hb
          have MQ5 := Lib.hid (MA5.out.call hb); clear MA5
          have MA5 := MQ5; clear MQ5
          refine ⟨_, rfl, fun _ => hkW12, ?_⟩
          clear hb
          (try simp only [List.setIfInBounds_toArray, List.set_cons_succ, List.set_cons_zero])
          refine wpBut_r2 (i := 3) (j := 4) (by kernel_rfl) ?_ ?_
          · refine go_call 3 11 #[true, true, true, true, false, true, false, false] rfl rfl rfl (by rfl) rfl rfl (by rfl) ent30 (by rfl) (Hf2.out _) ?_
            rintro e wW13 ⟨rfl, hb⟩
            have hkW13 := held_next hkW12 hb
            have MQ5 := Lib.hid (MA5.out.call hb); clear MA5
            have MA5 := MQ5; clear MQ5
            refine ⟨_, rfl, fun _ => hkW13, ?_⟩
            clear hb
            (try simp only [List.setIfInBounds_toArray, List.set_cons_succ, List.set_cons_zero])
            refine wpBut_r1 (i := 4) (by kernel_rfl) ?_
            refine go_alloc 4 5 #[true, true, true, true, true, true, false, false] rfl rfl rfl (by rfl) 36 rfl _ al36 ?_
            intro wW14 hw2
            have hkW14 := (hkW13).alloc (hkW13).size (.cells (#[.int .u64 0, .int .u64 0, .int .u64 0, .int .u64 0] : Array Value) 36)
            rw [← hw2] at hkW14
            have hne5_4 := MA5.out.lt
            have MQ := MA5.out.alloc (.cells (#[.int .u64 0, .int .u64 0, .int .u64 0, .int .u64 0] : Array Value) 36); rw [← hw2] at MQ; clear MA5; have MA5 := Lib.hid MQ; clear MQ
            have MQ := HasN.new (wW13) (#[.int .u64 0, .int .u64 0, .int .u64 0, .int .u64 0] : Array Value) 36 4 rfl; rw [← hw2] at MQ; have MA4 := Lib.hid MQ; clear MQ
            have HA4 := Lib.hid (show W1.heap.size ≤ _ from (hkW13).size)
            clear hw2
            refine ⟨fun _ => hkW14, ?_⟩
            (try simp only [List.setIfInBounds_toArray, List.set_cons_succ, List.set_cons_zero])
            refine wpBut_r1 (i := 6) (by kernel_rfl) ?_
            obtain ⟨Z, hZ, mZ⟩ := MA4.out
            refine go_store2 6 #[true, true, true, true, true, true, true, false] rfl rfl rfl (by rfl) 36 _ _ rfl _ _ rfl rfl 36 Z mZ (by rw [e4_size]; kernel_rfl) (hZ.trans (e4_size _).symm) (row_one _ _ _) ?_
            intro wW15 hw2
            have hkW15 := below_setRow (hkW14) _ (e4 a1) HA4.out
            rw [← hw2] at hkW15
            clear MA4
            have MQ := MA5.out.setRow_other _ (e4 a1) (show _ ≠ wW13.heap.size by omega); rw [← hw2] at MQ; clear MA5; have MA5 := Lib.hid MQ; clear MQ
            have MQ := mZ.setRow (e4 a1); rw [← hw2] at MQ; have MA4 := Lib.hid MQ; clear MQ mZ hZ hw2
            refine ⟨fun _ => hkW15, ?_⟩
            (try simp only [List.setIfInBounds_toArray, List.set_cons_succ, List.set_cons_zero])
            refine wpBut_r1 (i := 7) (by kernel_rfl) ?_
            obtain ⟨Z, hZ, mZ⟩ := MA5.out
            refine go_store2 7 #[true, true, true, true, true, true, true, true] rfl rfl rfl (by rfl) 36 _ _ rfl _ _ rfl rfl 36 Z mZ (by rw [e4_size]; kernel_rfl) (hZ.trans (e4_size _).symm) (row_one _ _ _) ?_
            intro wW16 hw2
            have hkW16 := below_setRow (hkW15) _ (e4 a2) HA5.out
            rw [← hw2] at hkW16
            clear MA5
            have MQ := MA4.out.setRow_other _ (e4 a2) (show _ ≠ W1.drew.heap.size by omega); rw [← hw2] at MQ; clear MA4; have MA4 := Lib.hid MQ; clear MQ
            have MQ := mZ.setRow (e4 a2); rw [← hw2] at MQ; have MA5 := Lib.hid MQ; clear MQ mZ hZ hw2
            refine ⟨fun _ => hkW16, ?_⟩
            (try simp only [List.setIfInBounds_toArray, List.set_cons_succ, List.set_cons_zero])
            exact wpBut_done (by kernel_rfl) (NoPanic.normal (HQ.out (_, _) _ ⟨HA4.out, MA4.out, HA5.out, MA5.out, (hkW16)⟩))
          · refine go_alloc 4 5 #[true, true, true, false, true, true, false, false] rfl rfl rfl (by rfl) 36 rfl _ al36 ?_
            intro wW13 hw2
            have hkW13 := (hkW12).alloc (hkW12).size (.cells (#[.int .u64 0, .int .u64 0, .int .u64 0, .int .u64 0] : Array Value) 36)
            rw [← hw2] at hkW13
            have hne5_4 := MA5.out.lt
            have MQ := MA5.out.alloc (.cells (#[.int .u64 0, .int .u64 0, .int .u64 0, .int .u64 0] : Array Value) 36); rw [← hw2] at MQ; clear MA5; have MA5 := Lib.hid MQ; clear MQ
            have MQ := HasN.new (wW12) (#[.int .u64 0, .int .u64 0, .int .u64 0, .int .u64 0] : Array Value) 36 4 rfl; rw [← hw2] at MQ; have MA4 := Lib.hid MQ; clear MQ
            have HA4 := Lib.hid (show W1.heap.size ≤ _ from (hkW12).size)
            clear hw2
            refine ⟨fun _ => hkW13, ?_⟩
            (try simp only [List.setIfInBounds_toArray, List.set_cons_succ, List.set_cons_zero])
            refine wpBut_r1 (i := 3) (by kernel_rfl) ?_
            refine go_call 3 11 #[true, true, true, true, true, true, false, false] rfl rfl rfl (by rfl) rfl rfl (by rfl) ent30 (by rfl) (Hf2.out _) ?_
            rintro e wW14 ⟨rfl, hb⟩
            have hkW14 := held_next hkW13 hb
            have MQ5 := Lib.hid (MA5.out.call hb); clear MA5
            have MA5 := MQ5; clear MQ5
            have MQ4 := Lib.hid (MA4.out.call hb); clear MA4
            have MA4 := MQ4; clear MQ4
            refine ⟨_, rfl, fun _ => hkW14, ?_⟩
            clear hb
            (try simp only [List.setIfInBounds_toArray, List.set_cons_succ, List.set_cons_zero])
            refine wpBut_r1 (i := 6) (by kernel_rfl) ?_
            obtain ⟨Z, hZ, mZ⟩ := MA4.out
            refine go_store2 6 #[true, true, true, true, true, true, true, false] rfl rfl rfl (by rfl) 36 _ _ rfl _ _ rfl rfl 36 Z mZ (by rw [e4_size]; kernel_rfl) (hZ.trans (e4_size _).symm) (row_one _ _ _) ?_
            intro wW15 hw2
            have hkW15 := below_setRow (hkW14) _ (e4 a1) HA4.out
            rw [← hw2] at hkW15
            clear MA4
            have MQ := MA5.out.setRow_other _ (e4 a1) (show _ ≠ wW12.heap.size by omega); rw [← hw2] at MQ; clear MA5; have MA5 := Lib.hid MQ; clear MQ
            have MQ := mZ.setRow (e4 a1); rw [← hw2] at MQ; have MA4 := Lib.hid MQ; clear MQ mZ hZ hw2
            refine ⟨fun _ => hkW15, ?_⟩
            (try simp only [List.setIfInBounds_toArray, List.set_cons_succ, List.set_cons_zero])
            refine wpBut_r1 (i := 7) (by kernel_rfl) ?_
            obtain ⟨Z, hZ, mZ⟩ := MA5.out
            refine go_store2 7 #[true, true, true, true, true, true, true, true] rfl rfl rfl (by rfl) 36 _ _ rfl _ _ rfl rfl 36 Z mZ (by rw [e4_size]; kernel_rfl) (hZ.trans (e4_size _).symm) (row_one _ _ _) ?_
            intro wW16 hw2
            have hkW16 := below_setRow (hkW15) _ (e4 a2) HA5.out
            rw [← hw2] at hkW16
            clear MA5
            have MQ := MA4.out.setRow_other _ (e4 a2) (show _ ≠ W1.drew.heap.size by omega); rw [← hw2] at MQ; clear MA4; have MA4 := Lib.hid MQ; clear MQ
            have MQ := mZ.setRow (e4 a2); rw [← hw2] at MQ; have MA5 := Lib.hid MQ; clear MQ mZ hZ hw2
            refine ⟨fun _ => hkW16, ?_⟩
            (try simp only [List.setIfInBounds_toArray, List.set_cons_succ, List.set_cons_zero])
            exact wpBut_done (by kernel_rfl) (NoPanic.normal (HQ.out (_, _) _ ⟨HA4.out, MA4.out, HA5.out, MA5.out, (hkW16)⟩))
        · refine go_alloc 4 5 #[true, false, true, false, true, true, false, false] rfl rfl rfl (by rfl) 36 rfl _ al36 ?_
          intro wW12 hw2
          have hkW12 := (hkW11).alloc (hkW11).size (.cells (#[.int .u64 0, .int .u64 0, .int .u64 0, .int .u64 0] : Array Value) 36)
          rw [← hw2] at hkW12
          have hne5_4 := MA5.out.lt
          have MQ := MA5.out.alloc (.cells (#[.int .u64 0, .int .u64 0, .int .u64 0, .int .u64 0] : Array Value) 36); rw [← hw2] at MQ; clear MA5; have MA5 := Lib.hid MQ; clear MQ
          have MQ := HasN.new (wW11) (#[.int .u64 0, .int .u64 0, .int .u64 0, .int .u64 0] : Array Value) 36 4 rfl; rw [← hw2] at MQ; have MA4 := Lib.hid MQ; clear MQ
          have HA4 := Lib.hid (show W1.heap.size ≤ _ from (hkW11).size)
          clear hw2
          refine ⟨fun _ => hkW12, ?_⟩
          (try simp only [List.setIfInBounds_toArray, List.set_cons_succ, List.set_cons_zero])
          refine wpBut_r1 (i := 1) (by kernel_rfl) ?_
          refine go_call 1 9 #[true, true, true, false, true, true, false, false] rfl rfl rfl (by rfl) rfl rfl (by rfl) ent30 (by rfl) (Hf1.out _) ?_
          rintro e wW13 ⟨rfl, hb⟩
          have hkW13 := held_next hkW12 hb
          have MQ5 := Lib.hid (MA5.out.call hb); clear MA5
          have MA5 := MQ5; clear MQ5
          have MQ4 := Lib.hid (MA4.out.call hb); clear MA4
          have MA4 := MQ4; clear MQ4
          refine ⟨_, rfl, fun _ => hkW13, ?_⟩
          clear hb
          (try simp only [List.setIfInBounds_toArray, List.set_cons_succ, List.set_cons_zero])
          refine wpBut_r1 (i := 3) (by kernel_rfl) ?_
          refine go_call 3 11 #[true, true, true, true, true, true, false, false] rfl rfl rfl (by rfl) rfl rfl (by rfl) ent30 (by rfl) (Hf2.out _) ?_
          rintro e wW14 ⟨rfl, hb⟩
          have hkW14 := held_next hkW13 hb
          have MQ5 := Lib.hid (MA5.out.call hb); clear MA5
          have MA5 := MQ5; clear MQ5
          have MQ4 := Lib.hid (MA4.out.call hb); clear MA4
          have MA4 := MQ4; clear MQ4
          refine ⟨_, rfl, fun _ => hkW14, ?_⟩
          clear hb
          (try simp only [List.setIfInBounds_toArray, List.set_cons_succ, List.set_cons_zero])
          refine wpBut_r1 (i := 6) (by kernel_rfl) ?_
          obtain ⟨Z, hZ, mZ⟩ := MA4.out
          refine go_store2 6 #[true, true, true, true, true, true, true, false] rfl rfl rfl (by rfl) 36 _ _ rfl _ _ rfl rfl 36 Z mZ (by rw [e4_size]; kernel_rfl) (hZ.trans (e4_size _).symm) (row_one _ _ _) ?_
          intro wW15 hw2
          have hkW15 := below_setRow (hkW14) _ (e4 a1) HA4.out
          rw [← hw2] at hkW15
          clear MA4
          have MQ := MA5.out.setRow_other _ (e4 a1) (show _ ≠ wW11.heap.size by omega); rw [← hw2] at MQ; clear MA5; have MA5 := Lib.hid MQ; clear MQ
          have MQ := mZ.setRow (e4 a1); rw [← hw2] at MQ; have MA4 := Lib.hid MQ; clear MQ mZ hZ hw2
          refine ⟨fun _ => hkW15, ?_⟩
          (try simp only [List.setIfInBounds_toArray, List.set_cons_succ, List.set_cons_zero])
          refine wpBut_r1 (i := 7) (by kernel_rfl) ?_
          obtain ⟨Z, hZ, mZ⟩ := MA5.out
          refine go_store2 7 #[true, true, true, true, true, true, true, true] rfl rfl rfl (by rfl) 36 _ _ rfl _ _ rfl rfl 36 Z mZ (by rw [e4_size]; kernel_rfl) (hZ.trans (e4_size _).symm) (row_one _ _ _) ?_
          intro wW16 hw2
          have hkW16 := below_setRow (hkW15) _ (e4 a2) HA5.out
          rw [← hw2] at hkW16
          clear MA5
          have MQ := MA4.out.setRow_other _ (e4 a2) (show _ ≠ W1.drew.heap.size by omega); rw [← hw2] at MQ; clear MA4; have MA4 := Lib.hid MQ; clear MQ
          have MQ := mZ.setRow (e4 a2); rw [← hw2] at MQ; have MA5 := Lib.hid MQ; clear MQ mZ hZ hw2
          refine ⟨fun _ => hkW16, ?_⟩
          (try simp only [List.setIfInBounds_toArray, List.set_cons_succ, List.set_cons_zero])
          exact wpBut_done (by kernel_rfl) (NoPanic.normal (HQ.out (_, _) _ ⟨HA4.out, MA4.out, HA5.out, MA5.out, (hkW16)⟩))
    · rintro W1 ⟨B5, B6⟩ v1 hW1 ⟨hBq0, mBq0, hBq1, mBq1, hbw⟩
      simp only [Act.put, List.setIfInBounds_toArray, List.set_cons_succ, List.set_cons_zero] at  hBq0  mBq0 hBq1  mBq1 ⊢
      have kq := M2.out; rw [← hW1] at kq; clear M2; have M2 := Lib.hid kq; clear kq
      have kq := M3.out; rw [← hW1] at kq; clear M3; have M3 := Lib.hid kq; clear kq
      have kq := HB.out; rw [← hW1] at kq; clear HB; have HB := Lib.hid kq; clear kq
      clear hW1
      have hltM2_1 := M2.out.lt
      have hltM3_1 := M3.out.lt
      have kq := M2.out.call hbw; clear M2; have M2 := Lib.hid kq; clear kq
      have kq := M3.out.call hbw; clear M3; have M3 := Lib.hid kq; clear kq
      have hBq := held_next HB.out hbw; clear HB; have HB := Lib.hid hBq; clear hBq
      have M5 := Lib.hid mBq0; clear mBq0
      have M6 := Lib.hid mBq1; clear mBq1
      clear hbw
      repeat ((fail_if_success (with_reducible (show wpList _ _ _ _ _ _))); go_step)
      refine wpList_load (by rfl) 36 _ rfl (B5) rfl 36 (e4 a1) M5.out Try.underlying36 rfl (by rw [e4_size]; kernel_rfl) 12 rfl ?_
      (try simp only [Act.put, List.setIfInBounds_toArray, List.set_cons_succ, List.set_cons_zero])
      refine wpList_load (by rfl) 36 _ rfl (B6) rfl 36 (e4 a2) M6.out Try.underlying36 rfl (by rw [e4_size]; kernel_rfl) 13 rfl ?_
      (try simp only [Act.put, List.setIfInBounds_toArray, List.set_cons_succ, List.set_cons_zero])
      refine wpList_call (by rfl) rfl rfl (by rfl) ent42 (by rfl) (Hov.out a1 a2 Hal1.out Hal2.out _) 14 rfl ?_
      rintro e u1 ⟨q, hq, hqr, rfl, hb⟩
      have kq := M2.out.call hb; clear M2; have M2 := Lib.hid kq; clear kq
      have kq := M3.out.call hb; clear M3; have M3 := Lib.hid kq; clear kq
      have kq := M5.out.call hb; clear M5; have M5 := Lib.hid kq; clear kq
      have kq := M6.out.call hb; clear M6; have M6 := Lib.hid kq; clear kq
      have hBq := held_next HB.out hb; clear HB; have HB := Lib.hid hBq; clear hBq
      refine ⟨_, rfl, ?_⟩
      clear hb
      (try simp only [Act.put, List.setIfInBounds_toArray, List.set_cons_succ, List.set_cons_zero])
      refine wpList_step (fun K hK => ?_)
      go_simp
      have hlt2 := M2.out.lt
      have hlt3 := M3.out.lt
      have hlt4 := M5.out.lt
      have hlt5 := M6.out.lt
      have kq := M2.out.alloc (.cells (#[.int .u64 0, .int .u64 0, .int .u64 0, .int .u64 0] : Array Value) 36); clear M2; have M2 := Lib.hid kq; clear kq
      have kq := M3.out.alloc (.cells (#[.int .u64 0, .int .u64 0, .int .u64 0, .int .u64 0] : Array Value) 36); clear M3; have M3 := Lib.hid kq; clear kq
      have kq := M5.out.alloc (.cells (#[.int .u64 0, .int .u64 0, .int .u64 0, .int .u64 0] : Array Value) 36); clear M5; have M5 := Lib.hid kq; clear kq
      have kq := M6.out.alloc (.cells (#[.int .u64 0, .int .u64 0, .int .u64 0, .int .u64 0] : Array Value) 36); clear M6; have M6 := Lib.hid kq; clear kq
      have M7 := Lib.hid (HasN.new u1 (#[.int .u64 0, .int .u64 0, .int .u64 0, .int .u64 0] : Array Value) 36 4 rfl)
      have hsz := HB.out.size
      have hBq := HB.out.alloc hsz (.cells (#[.int .u64 0, .int .u64 0, .int .u64 0, .int .u64 0] : Array Value) 36); clear HB; have HB := Lib.hid hBq; clear hBq
      refine hK _ _ ?_
      clear hK K
      first | (obtain ⟨Z, hZ, mZ⟩ := M7.out) | (obtain ⟨Z, hZ, mZ⟩ := M7.out.toN (e4_size _))
      clear M7
      have hZ' := Lib.hid hZ; clear hZ
      have mZ' := Lib.hid mZ; clear mZ
      refine wpList_store_row rfl 36 _ _ rfl (u1.heap.size) _ rfl rfl 36 Z mZ'.out (by rw [e4_size]; kernel_rfl) (hZ'.out.trans (e4_size _).symm) (row_one _ _ _) ?_
      (try simp only [Act.put, List.setIfInBounds_toArray, List.set_cons_succ, List.set_cons_zero])
      have kq := M2.out.setRow_other (u1.heap.size) (e4 q) (by omega); clear M2; have M2 := Lib.hid kq; clear kq
      have kq := M3.out.setRow_other (u1.heap.size) (e4 q) (by omega); clear M3; have M3 := Lib.hid kq; clear kq
      have kq := M5.out.setRow_other (u1.heap.size) (e4 q) (by omega); clear M5; have M5 := Lib.hid kq; clear kq
      have kq := M6.out.setRow_other (u1.heap.size) (e4 q) (by omega); clear M6; have M6 := Lib.hid kq; clear kq
      have M7 := Lib.hid (mZ'.out.setRow (e4 q))
      clear mZ' hZ'
      have hBq := below_setRow HB.out (u1.heap.size) (e4 q) (by omega); clear HB; have HB := Lib.hid hBq; clear hBq
      refine wpList_nil ?_
      have Hqr := Lib.hid hqr; clear hqr
      repeat ((fail_if_success (with_reducible (show wpList _ _ _ _ _ _))); go_step)
      refine wp_region_noPanic ?_
      refine wp_region_go 99 23 #[false, false, false, false, false, false, false, false, false, false, false, false, false, false, false, false, false, false, false, false, false, false, false] (by kernel_rfl) rfl rfl ?_
      intro W6 hW6
      have kq := M2.out; rw [← hW6] at kq; clear M2; have M2 := Lib.hid kq; clear kq
      have kq := M3.out; rw [← hW6] at kq; clear M3; have M3 := Lib.hid kq; clear kq
      have kq := M5.out; rw [← hW6] at kq; clear M5; have M5 := Lib.hid kq; clear kq
      have kq := M6.out; rw [← hW6] at kq; clear M6; have M6 := Lib.hid kq; clear kq
      have kq := M7.out; rw [← hW6] at kq; clear M7; have M7 := Lib.hid kq; clear kq
      have kq := HB.out; rw [← hW6] at kq; clear HB; have HB := Lib.hid kq; clear kq
      clear hW6
      refine wpBut_r1 (i := 0) (by kernel_rfl) ?_
      refine go_call 0 15 #[true, false, false, false, false, false, false, false, false, false, false, false, false, false, false, false, false, false, false, false, false, false, false] rfl rfl rfl (by rfl) rfl rfl (by rfl) ent28 (by rfl) (Hal.out _) ?_
      rintro e wW61 ⟨rfl, hb⟩
      have hkW61 := held_next (show Below W6.heap.size W6 W6.drew from (Below.refl _ _).drew) hb
      refine ⟨_, rfl, fun _ => hkW61, ?_⟩
      clear hb
      (try simp only [List.setIfInBounds_toArray, List.set_cons_succ, List.set_cons_zero])
      refine go_take 1 16 #[true, true, false, false, false, false, false, false, false, false, false, false, false, false, false, false, false, false, false, false, false, false, false] (v := ?uv8) rfl rfl rfl (by kernel_rfl) (by kernel_rfl) (by kernel_rfl) (by kernel_rfl) (by kernel_rfl) (Or.inl ⟨by rfl, ?uy8⟩) (hkW61) ?urest8
      case uy8 => (intro _ _; go_simp; try with_reducible rfl)
      (try simp only [List.setIfInBounds_toArray, List.set_cons_succ, List.set_cons_zero])
      refine go_take 2 17 #[true, true, true, false, false, false, false, false, false, false, false, false, false, false, false, false, false, false, false, false, false, false, false] rfl rfl rfl (by kernel_rfl) (by kernel_rfl) (by kernel_rfl) (by kernel_rfl) (by kernel_rfl) (yieldsIf_load_row (by rfl) 36 _ rfl (u1.heap.size) rfl 36 (e4 q) (fun _ h => M7.out.below h M7.out.lt) Try.underlying36 rfl (by rw [e4_size]; kernel_rfl)) (hkW61) ?_
      (try simp only [List.setIfInBounds_toArray, List.set_cons_succ, List.set_cons_zero])
      refine go_take 3 18 #[true, true, true, true, false, false, false, false, false, false, false, false, false, false, false, false, false, false, false, false, false, false, false] rfl rfl rfl (by kernel_rfl) (by kernel_rfl) (by kernel_rfl) (by kernel_rfl) (by kernel_rfl) (yieldsIf_load_row (by rfl) 24 _ rfl (w.heap.size) rfl 24 (k32 n1) (fun _ h => M2.out.below h M2.out.lt) Try.underlying24 rfl (by rw [k32_size]; kernel_rfl)) (hkW61) ?_
      (try simp only [List.setIfInBounds_toArray, List.set_cons_succ, List.set_cons_zero])
      refine go_take 5 20 #[true, true, true, true, false, true, false, false, false, false, false, false, false, false, false, false, false, false, false, false, false, false, false] rfl rfl rfl (by kernel_rfl) (by kernel_rfl) (by kernel_rfl) (by kernel_rfl) (by kernel_rfl) (yieldsIf_load_row (by rfl) 24 _ rfl (w.heap.size + 1) rfl 24 (k32 n2) (fun _ h => M3.out.below h M3.out.lt) Try.underlying24 rfl (by rw [k32_size]; kernel_rfl)) (hkW61) ?_
      (try simp only [List.setIfInBounds_toArray, List.set_cons_succ, List.set_cons_zero])
      refine wpBut_r1 (i := 4) (by kernel_rfl) ?_
      refine go_call 4 19 #[true, true, true, true, true, true, false, false, false, false, false, false, false, false, false, false, false, false, false, false, false, false, false] rfl rfl rfl (by rfl) rfl rfl (by rfl) ent33 (by rfl) (Hr1.out _) ?_
      rintro e wW62 ⟨rfl, hb⟩
      have hkW62 := held_next hkW61 hb
      refine ⟨_, rfl, fun _ => hkW62, ?_⟩
      clear hb
      (try simp only [List.setIfInBounds_toArray, List.set_cons_succ, List.set_cons_zero])
      refine wpBut_r1 (i := 6) (by kernel_rfl) ?_
      refine go_call 6 21 #[true, true, true, true, true, true, true, false, false, false, false, false, false, false, false, false, false, false, false, false, false, false, false] rfl rfl rfl (by rfl) rfl rfl (by rfl) ent33 (by rfl) (Hr2.out _) ?_
      rintro e wW63 ⟨rfl, hb⟩
      have hkW63 := held_next hkW62 hb
      refine ⟨_, rfl, fun _ => hkW63, ?_⟩
      clear hb
      (try simp only [List.setIfInBounds_toArray, List.set_cons_succ, List.set_cons_zero])
      refine wpBut_r1 (i := 7) (by kernel_rfl) ?_
      refine go_call 7 22 #[true, true, true, true, true, true, true, true, false, false, false, false, false, false, false, false, false, false, false, false, false, false, false] rfl rfl rfl (by rfl) rfl rfl (by rfl) ent43 (by rfl) (Hro.out A1 A2 HAl1.out HAl2.out _) ?_
      rintro e wW64 ⟨rfl, hb⟩
      have hkW64 := held_next hkW63 hb
      refine ⟨_, rfl, fun _ => hkW64, ?_⟩
      clear hb
      (try simp only [List.setIfInBounds_toArray, List.set_cons_succ, List.set_cons_zero])
      refine wpBut_r1 (i := 8) (by kernel_rfl) ?_
      refine go_call 8 23 #[true, true, true, true, true, true, true, true, true, false, false, false, false, false, false, false, false, false, false, false, false, false, false] rfl rfl rfl (by rfl) rfl rfl (by rfl) ent29 (by rfl) (His.out q _ hq (Nat.mod_lt _ PP_pos) (over_agree a1 a2 A1 A2 q HA1.out HA2.out Hqr.out) _) ?_
      rintro e wW65 ⟨rfl, hb⟩
      have hkW65 := held_next hkW64 hb
      refine ⟨_, rfl, fun _ => hkW65, ?_⟩
      clear hb
      (try simp only [List.setIfInBounds_toArray, List.set_cons_succ, List.set_cons_zero])
      refine go_take 9 24 #[true, true, true, true, true, true, true, true, true, true, false, false, false, false, false, false, false, false, false, false, false, false, false] (v := ?uv9) rfl rfl rfl (by kernel_rfl) (by kernel_rfl) (by kernel_rfl) (by kernel_rfl) (by kernel_rfl) (Or.inl ⟨by rfl, ?uy9⟩) (hkW65) ?urest9
      case uy9 => (intro _ _; go_simp; try with_reducible rfl)
      (try simp only [List.setIfInBounds_toArray, List.set_cons_succ, List.set_cons_zero])
      refine go_take 10 25 #[true, true, true, true, true, true, true, true, true, true, true, false, false, false, false, false, false, false, false, false, false, false, false] (v := ?uv10) rfl rfl rfl (by kernel_rfl) (by kernel_rfl) (by kernel_rfl) (by kernel_rfl) (by kernel_rfl) (Or.inl ⟨by rfl, ?uy10⟩) (hkW65) ?urest10
      case uy10 => (intro _ _; go_simp; try with_reducible rfl)
      (try simp only [List.setIfInBounds_toArray, List.set_cons_succ, List.set_cons_zero])
      refine go_take 11 26 #[true, true, true, true, true, true, true, true, true, true, true, true, false, false, false, false, false, false, false, false, false, false, false] rfl rfl rfl (by kernel_rfl) (by kernel_rfl) (by kernel_rfl) (by kernel_rfl) (by kernel_rfl) (yieldsIf_load_row (by rfl) 36 _ rfl (B6) rfl 36 (e4 a2) (fun _ h => M6.out.below h M6.out.lt) Try.underlying36 rfl (by rw [e4_size]; kernel_rfl)) (hkW65) ?_
      (try simp only [List.setIfInBounds_toArray, List.set_cons_succ, List.set_cons_zero])
      refine wpBut_r1 (i := 12) (by kernel_rfl) ?_
      refine go_call 12 27 #[true, true, true, true, true, true, true, true, true, true, true, true, true, false, false, false, false, false, false, false, false, false, false] rfl rfl rfl (by rfl) rfl rfl (by rfl) ent34 (by rfl) (Hint.out _) ?_
      rintro e wW66 ⟨rfl, hb⟩
      have hkW66 := held_next hkW65 hb
      refine ⟨_, rfl, fun _ => hkW66, ?_⟩
      clear hb
      (try simp only [List.setIfInBounds_toArray, List.set_cons_succ, List.set_cons_zero])
      refine wpBut_r1 (i := 13) (by kernel_rfl) ?_
      refine go_call 13 28 #[true, true, true, true, true, true, true, true, true, true, true, true, true, true, false, false, false, false, false, false, false, false, false] rfl rfl rfl (by rfl) rfl rfl (by rfl) ent41 (by rfl) (Hno.out a2 0 Hal2.out (by decide) C0.out _) ?_
      rintro e wW67 ⟨rfl, hb⟩
      have hkW67 := held_next hkW66 hb
      refine ⟨_, rfl, fun _ => hkW67, ?_⟩
      clear hb
      (try simp only [List.setIfInBounds_toArray, List.set_cons_succ, List.set_cons_zero])
      refine go_take 14 29 #[true, true, true, true, true, true, true, true, true, true, true, true, true, true, true, false, false, false, false, false, false, false, false] (v := ?uv11) rfl rfl rfl (by kernel_rfl) (by kernel_rfl) (by kernel_rfl) (by kernel_rfl) (by kernel_rfl) (Or.inl ⟨by rfl, ?uy11⟩) (hkW67) ?urest11
      case uy11 => (intro _ _; go_simp; try with_reducible rfl)
      (try simp only [List.setIfInBounds_toArray, List.set_cons_succ, List.set_cons_zero])
      refine go_take 15 30 #[true, true, true, true, true, true, true, true, true, true, true, true, true, true, true, true, false, false, false, false, false, false, false] rfl rfl rfl (by kernel_rfl) (by kernel_rfl) (by kernel_rfl) (by kernel_rfl) (by kernel_rfl) (yieldsIf_load_row (by rfl) 36 _ rfl (u1.heap.size) rfl 36 (e4 q) (fun _ h => M7.out.below h M7.out.lt) Try.underlying36 rfl (by rw [e4_size]; kernel_rfl)) (hkW67) ?_
      (try simp only [List.setIfInBounds_toArray, List.set_cons_succ, List.set_cons_zero])
      refine go_take 16 31 #[true, true, true, true, true, true, true, true, true, true, true, true, true, true, true, true, true, false, false, false, false, false, false] rfl rfl rfl (by kernel_rfl) (by kernel_rfl) (by kernel_rfl) (by kernel_rfl) (by kernel_rfl) (yieldsIf_load_row (by rfl) 36 _ rfl (B6) rfl 36 (e4 a2) (fun _ h => M6.out.below h M6.out.lt) Try.underlying36 rfl (by rw [e4_size]; kernel_rfl)) (hkW67) ?_
      (try simp only [List.setIfInBounds_toArray, List.set_cons_succ, List.set_cons_zero])
      refine go_take 18 33 #[true, true, true, true, true, true, true, true, true, true, true, true, true, true, true, true, true, false, true, false, false, false, false] rfl rfl rfl (by kernel_rfl) (by kernel_rfl) (by kernel_rfl) (by kernel_rfl) (by kernel_rfl) (yieldsIf_load_row (by rfl) 36 _ rfl (B5) rfl 36 (e4 a1) (fun _ h => M5.out.below h M5.out.lt) Try.underlying36 rfl (by rw [e4_size]; kernel_rfl)) (hkW67) ?_
      (try simp only [List.setIfInBounds_toArray, List.set_cons_succ, List.set_cons_zero])
      refine wpBut_r1 (i := 17) (by kernel_rfl) ?_
      refine go_call 17 32 #[true, true, true, true, true, true, true, true, true, true, true, true, true, true, true, true, true, true, true, false, false, false, false] rfl rfl rfl (by rfl) rfl rfl (by rfl) ent31 (by rfl) (Ht.out q a2 hq Hal2.out _) ?_
      rintro e wW68 ⟨m, hm, hmr, rfl, hb⟩
      have hkW68 := held_next hkW67 hb
      refine ⟨_, rfl, fun _ => hkW68, ?_⟩
      clear hb
      (try simp only [List.setIfInBounds_toArray, List.set_cons_succ, List.set_cons_zero])
      refine wpBut_r1 (i := 19) (by kernel_rfl) ?_
      refine go_call 19 34 #[true, true, true, true, true, true, true, true, true, true, true, true, true, true, true, true, true, true, true, true, false, false, false] rfl rfl rfl (by rfl) rfl rfl (by rfl) ent41 (by rfl) (Hyes.out m a1 hm Hal1.out (over_back a1 a2 q m C0.out Hqr.out hmr) _) ?_
      rintro e wW69 ⟨rfl, hb⟩
      have hkW69 := held_next hkW68 hb
      refine ⟨_, rfl, fun _ => hkW69, ?_⟩
      clear hb
      (try simp only [List.setIfInBounds_toArray, List.set_cons_succ, List.set_cons_zero])
      refine go_take 20 35 #[true, true, true, true, true, true, true, true, true, true, true, true, true, true, true, true, true, true, true, true, true, false, false] (v := ?uv12) rfl rfl rfl (by kernel_rfl) (by kernel_rfl) (by kernel_rfl) (by kernel_rfl) (by kernel_rfl) (Or.inl ⟨by rfl, ?uy12⟩) (hkW69) ?urest12
      case uy12 => (intro _ _; go_simp; try with_reducible rfl)
      (try simp only [List.setIfInBounds_toArray, List.set_cons_succ, List.set_cons_zero])
      refine go_take 21 36 #[true, true, true, true, true, true, true, true, true, true, true, true, true, true, true, true, true, true, true, true, true, true, false] (v := ?uv13) rfl rfl rfl (by kernel_rfl) (by kernel_rfl) (by kernel_rfl) (by kernel_rfl) (by kernel_rfl) (Or.inl ⟨by rfl, ?uy13⟩) (hkW69) ?urest13
      case uy13 => (intro _ _; go_simp; try with_reducible rfl)
      (try simp only [List.setIfInBounds_toArray, List.set_cons_succ, List.set_cons_zero])
      refine go_take 22 4 #[true, true, true, true, true, true, true, true, true, true, true, true, true, true, true, true, true, true, true, true, true, true, true] (v := ?uv14) rfl rfl rfl (by kernel_rfl) (by kernel_rfl) (by kernel_rfl) (by kernel_rfl) (by kernel_rfl) (Or.inl ⟨by rfl, ?uy14⟩) (hkW69) ?urest14
      case uy14 => (intro _ _; go_simp; try with_reducible rfl)
      (try simp only [List.setIfInBounds_toArray, List.set_cons_succ, List.set_cons_zero])
      refine wpBut_done (by kernel_rfl) (NoPanic.normal ?_)
      have kq := M2.out.call hkW69; clear M2; have M2 := Lib.hid kq; clear kq
      have kq := M3.out.call hkW69; clear M3; have M3 := Lib.hid kq; clear kq
      have kq := M5.out.call hkW69; clear M5; have M5 := Lib.hid kq; clear kq
      have kq := M6.out.call hkW69; clear M6; have M6 := Lib.hid kq; clear kq
      have kq := M7.out.call hkW69; clear M7; have M7 := Lib.hid kq; clear kq
      have hBq := held_next HB.out hkW69; clear HB; have HB := Lib.hid hBq; clear hBq
      go_wp2_with fail
      go_ret
      exact ⟨rfl, HB.out⟩
end Go.Proofs.Ytjiagjonlcadiaa
