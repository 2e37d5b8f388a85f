/- The laws of chapter 03: the rules of a field. -/
import Derived.Test.YtjiagjonlcadiaaLawE
namespace Go.Proofs.Ytjiagjonlcadiaa
open Go.RowKit Go.Lib

theorem mo_add_l (x x' y : Nat) (h : x % PP = x' % PP) : (x + y) % PP = (x' + y) % PP := by rw [Nat.add_mod, h, ← Nat.add_mod]
theorem mo_add_r (x y y' : Nat) (h : y % PP = y' % PP) : (x + y) % PP = (x + y') % PP := by rw [Nat.add_mod, h, ← Nat.add_mod]
theorem mo_mul_l (x x' y : Nat) (h : x % PP = x' % PP) : (x * y) % PP = (x' * y) % PP := by rw [Nat.mul_mod, h, ← Nat.mul_mod]
theorem mo_mul_r (x y y' : Nat) (h : y % PP = y' % PP) : (x * y) % PP = (x * y') % PP := by rw [Nat.mul_mod, h, ← Nat.mul_mod]
theorem ru_1 (a b c p1 p2 p3 p4 : Nat) (h1 : p1 % PP = (b + c) % PP) (h2 : p2 % PP = (a + p1) % PP) (h3 : p3 % PP = (a + b) % PP) (h4 : p4 % PP = (p3 + c) % PP) : p2 % PP = p4 % PP := by
  rw [h2, h4, mo_add_r a p1 (b + c) h1, mo_add_l p3 (a + b) c h3, Nat.add_assoc]
theorem ru_2 (a b p1 p2 : Nat) (h1 : p1 % PP = (a + b) % PP) (h2 : p2 % PP = (b + a) % PP) : p1 % PP = p2 % PP := by rw [h1, h2, Nat.add_comm]
theorem ru_3 (a b p1 p2 : Nat) (h1 : p1 % PP = (a % PP + (PP - b % PP)) % PP) (h2 : p2 % PP = (p1 + b) % PP) : p2 % PP = a % PP := by
  rw [h2, mo_add_l p1 _ b h1, ← mo_add_r _ (b % PP) b (Nat.mod_mod _ _), Nat.add_assoc]
  have hb : b % PP < PP := Nat.mod_lt _ PP_pos
  rw [show PP - b % PP + b % PP = PP by omega, Nat.add_mod_right, Nat.mod_mod]
theorem ru_4 (a p1 : Nat) (h1 : p1 % PP = (a % PP + (PP - a % PP)) % PP) : p1 % PP = 0 % PP := by
  have hb : a % PP < PP := Nat.mod_lt _ PP_pos
  rw [h1, show a % PP + (PP - a % PP) = PP by omega, Nat.mod_self, Nat.zero_mod]
theorem ru_5 (a b c p1 p2 p3 p4 : Nat) (h1 : p1 % PP = b * c % PP) (h2 : p2 % PP = a * p1 % PP) (h3 : p3 % PP = a * b % PP) (h4 : p4 % PP = p3 * c % PP) : p2 % PP = p4 % PP := by
  rw [h2, h4, mo_mul_r a p1 (b * c) h1, mo_mul_l p3 (a * b) c h3, Nat.mul_assoc]
theorem ru_6 (a b p1 p2 : Nat) (h1 : p1 % PP = a * b % PP) (h2 : p2 % PP = b * a % PP) : p1 % PP = p2 % PP := by rw [h1, h2, Nat.mul_comm]
theorem ru_7 (a p1 : Nat) (h1 : p1 % PP = a * 1 % PP) : p1 % PP = a % PP := by rw [h1, Nat.mul_one]
theorem ru_8 (a b c p1 p2 p3 p4 p5 : Nat) (h1 : p1 % PP = (b + c) % PP) (h2 : p2 % PP = a * p1 % PP) (h3 : p3 % PP = a * b % PP) (h4 : p4 % PP = a * c % PP) (h5 : p5 % PP = (p3 + p4) % PP) : p2 % PP = p5 % PP := by
  rw [h2, h5, mo_mul_r a p1 (b + c) h1, mo_add_l p3 (a * b) p4 h3, mo_add_r (a * b) p4 (a * c) h4, Nat.mul_add]
theorem is_zero (q : Nat) (hq : q < 115792089237316195423570985008687907853269984665640564039457584007913129639936) (h : q % PP = 0 % PP) (w : World) :
    Calls Try.prog 41 #[.agg (e4 q), .agg #[.int .u64 0, .int .u64 0, .int .u64 0, .int .u64 0]] w fun e w' => e = .returned (.bool true) ∧ Below w.heap.size w w' := by
  rw [e4_zero]; exact is_yes q 0 hq (by decide) h w

set_option maxRecDepth 100000 in
set_option linter.unusedSimpArgs false in
set_option maxHeartbeats 8000000 in
theorem law_rules (n1 n2 n3 : Nat) (hn1 : n1 < 115792089237316195423570985008687907853269984665640564039457584007913129639936) (hn2 : n2 < 115792089237316195423570985008687907853269984665640564039457584007913129639936) (hn3 : n3 < 115792089237316195423570985008687907853269984665640564039457584007913129639936) (w : World) :
    Calls Try.prog 9 #[.agg (k32 n1), .agg (k32 n2), .agg (k32 n3)] w fun e w' => e = .returned (.bool true) ∧ Below w.heap.size w w' := by
  have hal := law3_alive
  have hp := plus_any
  have hmi := minus_any
  have ht := times_any
  have hint := fun w => fint_nn 1 (by decide) w
  have hyes := is_yes
  have hz0 := is_zero
  have h1l : 1 < 115792089237316195423570985008687907853269984665640564039457584007913129639936 := by decide
  obtain ⟨a1, ha1⟩ : ∃ a, a = n1 % 57896044618658097711785492504343953926634992332820282019728792003956564819968 := ⟨_, rfl⟩
  obtain ⟨A1, hA1⟩ : ∃ A, A = a1 % PP := ⟨_, rfl⟩
  have hf1 := fun w => fof_a n1 a1 hn1 ha1 w
  have hr1 := fun w => rof_a n1 a1 A1 ha1 hA1 w
  have hal1 : a1 < 115792089237316195423570985008687907853269984665640564039457584007913129639936 := by rw [ha1]; exact fof_lt _
  have hAl1 : A1 < PP := by rw [hA1]; exact Nat.mod_lt _ PP_pos
  have Hf1 := Lib.hid hf1; clear hf1
  have Hr1 := Lib.hid hr1; clear hr1
  have Hal1 := Lib.hid hal1; clear hal1
  have HAl1 := Lib.hid hAl1; clear hAl1
  have HA1 := Lib.hid hA1; clear hA1
  clear ha1 hn1
  obtain ⟨a2, ha2⟩ : ∃ a, a = n2 % 57896044618658097711785492504343953926634992332820282019728792003956564819968 := ⟨_, rfl⟩
  obtain ⟨A2, hA2⟩ : ∃ A, A = a2 % PP := ⟨_, rfl⟩
  have hf2 := fun w => fof_a n2 a2 hn2 ha2 w
  have hr2 := fun w => rof_a n2 a2 A2 ha2 hA2 w
  have hal2 : a2 < 115792089237316195423570985008687907853269984665640564039457584007913129639936 := by rw [ha2]; exact fof_lt _
  have hAl2 : A2 < PP := by rw [hA2]; exact Nat.mod_lt _ PP_pos
  have Hf2 := Lib.hid hf2; clear hf2
  have Hr2 := Lib.hid hr2; clear hr2
  have Hal2 := Lib.hid hal2; clear hal2
  have HAl2 := Lib.hid hAl2; clear hAl2
  have HA2 := Lib.hid hA2; clear hA2
  clear ha2 hn2
  obtain ⟨a3, ha3⟩ : ∃ a, a = n3 % 57896044618658097711785492504343953926634992332820282019728792003956564819968 := ⟨_, rfl⟩
  obtain ⟨A3, hA3⟩ : ∃ A, A = a3 % PP := ⟨_, rfl⟩
  have hf3 := fun w => fof_a n3 a3 hn3 ha3 w
  have hr3 := fun w => rof_a n3 a3 A3 ha3 hA3 w
  have hal3 : a3 < 115792089237316195423570985008687907853269984665640564039457584007913129639936 := by rw [ha3]; exact fof_lt _
  have hAl3 : A3 < PP := by rw [hA3]; exact Nat.mod_lt _ PP_pos
  have Hf3 := Lib.hid hf3; clear hf3
  have Hr3 := Lib.hid hr3; clear hr3
  have Hal3 := Lib.hid hal3; clear hal3
  have HAl3 := Lib.hid hAl3; clear hAl3
  have HA3 := Lib.hid hA3; clear hA3
  clear ha3 hn3
  clear Hr1 Hr2 Hr3 HAl1 HAl2 HAl3 HA1 HA2 HA3
  have Hal := Lib.hid hal; clear hal
  have Hp := Lib.hid hp; clear hp
  have Hmi := Lib.hid hmi; clear hmi
  have Ht := Lib.hid ht; clear ht
  have Hint := Lib.hid hint; clear hint
  have Hyes := Lib.hid hyes; clear hyes
  have Hz0 := Lib.hid hz0; clear hz0
  have H1l := Lib.hid h1l; clear h1l
  go_enter Try.func9, Try.ntmps9
  repeat ((fail_if_success (with_reducible (show wpList _ _ _ _ _ _))); go_step)
  refine wpList_step (fun K hK => ?_)
  go_simp
  (try go_bits)
  refine hK _ _ ?_
  clear hK K
  refine wpList_step (fun K hK => ?_)
  go_simp
  (try go_bits)
  refine hK _ _ ?_
  clear hK K
  refine wpList_step (fun K hK => ?_)
  go_simp
  (try go_bits)
  refine hK _ _ ?_
  clear hK K
  refine wpList_step (fun K hK => ?_)
  go_simp
  (try go_bits)
  refine hK _ _ ?_
  clear hK K
  refine wpList_nil ?_
  have M3 := Lib.hid (((Has.new w  (k32 n1) 24).alloc (.cells (k32 n2) 24)).alloc (.cells (k32 n3) 24))
  have M4 := Lib.hid ((Has.new1 w (.cells (k32 n1) 24) (k32 n2) 24).alloc (.cells (k32 n3) 24))
  have M5 := Lib.hid (Has.new2 w (.cells (k32 n1) 24) (.cells (k32 n2) 24) (k32 n3) 24)
  have HB := Lib.hid (below_3 w (.cells (k32 n1) 24) (.cells (k32 n2) 24) (.cells (k32 n3) 24))
  repeat ((fail_if_success (with_reducible (show wpList _ _ _ _ _ _))); go_step)
  refine wp_region_meet (α := Nat × Nat × Nat) (fun W0 x w' => W0.heap.size ≤ x.1 ∧ Has w' x.1 (e4 a1) 36 ∧ W0.heap.size ≤ x.2.1 ∧ Has w' x.2.1 (e4 a2) 36 ∧ W0.heap.size ≤ x.2.2 ∧ Has w' x.2.2 (e4 a3) 36 ∧ Below W0.heap.size W0 w') (fun ac x => (((((((((ac.put (some 11) (.agg (k32 n1))).put (some 12) (.agg (e4 a1))).put (some 13) (.agg (k32 n2))).put (some 14) (.agg (e4 a2))).put (some 15) (.agg (k32 n3))).put (some 16) (.agg (e4 a3))).put (some 7) (.pointer (some ⟨x.1, 0, none⟩))).put (some 8) (.pointer (some ⟨x.2.1, 0, none⟩))).put (some 9) (.pointer (some ⟨x.2.2, 0, none⟩)))) ?_ ?_
  · intro Q' hQ'
    refine wp_region_noPanic ?_
    refine wp_region_go 99 12 #[false, false, false, false, false, false, false, false, false, false, false, false] (by kernel_rfl) rfl rfl ?_
    intro W1 hW1
    rw [← hW1] at hQ'
    simp only [Act.put, List.setIfInBounds_toArray, List.set_cons_succ, List.set_cons_zero] at hQ'
    have HQ := Lib.hid hQ'; clear hQ'
    have kq := M3.out; rw [← hW1] at kq; clear M3; have M3 := Lib.hid kq; clear kq
    have kq := M4.out; rw [← hW1] at kq; clear M4; have M4 := Lib.hid kq; clear kq
    have kq := M5.out; rw [← hW1] at kq; clear M5; have M5 := Lib.hid kq; clear kq
    have kq := HB.out; rw [← hW1] at kq; clear HB; have HB := Lib.hid kq; clear kq
    clear hW1
    refine go_take 0 11 #[true, false, false, false, false, false, false, false, false, false, false, false] rfl rfl rfl (by kernel_rfl) (by kernel_rfl) (by kernel_rfl) (by kernel_rfl) (by kernel_rfl) (yieldsIf_load_row (by rfl) 24 _ rfl (w.heap.size) rfl 24 (k32 n1) (fun _ h => M3.out.below h M3.out.lt) Try.underlying24 rfl (by rw [k32_size]; kernel_rfl)) ((show Below W1.heap.size W1 W1.drew from (Below.refl _ _).drew)) ?_
    (try simp only [List.setIfInBounds_toArray, List.set_cons_succ, List.set_cons_zero])
    refine go_take 2 13 #[true, false, true, false, false, false, false, false, false, false, false, false] rfl rfl rfl (by kernel_rfl) (by kernel_rfl) (by kernel_rfl) (by kernel_rfl) (by kernel_rfl) (yieldsIf_load_row (by rfl) 24 _ rfl (w.heap.size + 1) rfl 24 (k32 n2) (fun _ h => M4.out.below h M4.out.lt) Try.underlying24 rfl (by rw [k32_size]; kernel_rfl)) ((show Below W1.heap.size W1 W1.drew from (Below.refl _ _).drew)) ?_
    (try simp only [List.setIfInBounds_toArray, List.set_cons_succ, List.set_cons_zero])
    refine go_take 4 15 #[true, false, true, false, true, false, false, false, false, false, false, false] rfl rfl rfl (by kernel_rfl) (by kernel_rfl) (by kernel_rfl) (by kernel_rfl) (by kernel_rfl) (yieldsIf_load_row (by rfl) 24 _ rfl (w.heap.size + 1 + 1) rfl 24 (k32 n3) (fun _ h => M5.out.below h M5.out.lt) Try.underlying24 rfl (by rw [k32_size]; kernel_rfl)) ((show Below W1.heap.size W1 W1.drew from (Below.refl _ _).drew)) ?_
    (try simp only [List.setIfInBounds_toArray, List.set_cons_succ, List.set_cons_zero])
    refine but_name (fun T hT => ?_)
    have St1_3_5_6_7_8_9_10 : ∀ (B6 B7 B8 : Nat) (w' : World), Below W1.heap.size W1 w' → W1.heap.size ≤ B6 → Has w' B6 (e4 a1) 36 → W1.heap.size ≤ B7 → Has w' B7 (e4 a2) 36 → W1.heap.size ≤ B8 → HasN w' B8 4 36 → B6 ≠ B7 → B6 ≠ B8 → B7 ≠ B8 → T 1 #[true, true, true, true, true, true, true, true, true, true, true, false] { tmps := #[.agg (k32 n1), .agg (k32 n2), .agg (k32 n3), .pointer (some ⟨w.heap.size, 0, none⟩), .pointer (some ⟨w.heap.size + 1, 0, none⟩), .pointer (some ⟨w.heap.size + 1 + 1, 0, none⟩), .bool false, .pointer (some ⟨B6, 0, none⟩), .pointer (some ⟨B7, 0, none⟩), .pointer (some ⟨B8, 0, none⟩), undef, .agg (k32 n1), .agg (e4 a1), .agg (k32 n2), .agg (e4 a2), .agg (k32 n3), .agg (e4 a3), undef, undef, undef, undef, undef, undef, undef, undef, undef, undef, undef, undef, undef, undef, undef, undef, undef, undef, undef, undef, undef, undef, undef, undef, undef, undef, undef, undef, undef, undef, undef, undef, undef, undef, undef, undef, undef, undef, undef, undef, undef, undef, undef, undef, undef, undef, undef, undef, undef, undef, undef, undef, undef, undef, undef, undef, undef, undef, undef, undef, undef, undef, undef, undef, undef, undef, undef, undef, undef, undef, undef, undef, undef, undef, undef, undef, undef, undef, undef, undef, undef, undef, undef, undef, undef, undef, undef], defers := [] } w' := by
      intro B6 B7 B8 w' hbw hB6 mA6 hB7 mA7 hB8 mA8 hne6_7 hne6_8 hne7_8
      refine (hT _ _ _ _).2 ?_
      refine wpBut_r1 (i := 11) (by kernel_rfl) ?_
      obtain ⟨Z, hZ, mZ⟩ := mA8
      refine go_store2 11 #[true, true, true, true, true, true, true, true, true, true, true, true] rfl rfl rfl (by rfl) 36 _ _ rfl _ _ rfl rfl 36 Z mZ (by rw [e4_size]; kernel_rfl) (hZ.trans (e4_size _).symm) (row_one _ _ _) ?_
      intro w2 hw2
      have hk := below_setRow (hbw) _ (e4 a3) hB8
      have mA6 := mA6.setRow_other B8 (e4 a3) (by omega)
      have mA7 := mA7.setRow_other B8 (e4 a3) (by omega)
      have mA8 := mZ.setRow (e4 a3)
      rw [← hw2] at hk mA6 mA7 mA8
      clear hw2 mZ hZ
      refine ⟨fun _ => hk, ?_⟩
      (try simp only [List.setIfInBounds_toArray, List.set_cons_succ, List.set_cons_zero])
      exact wpBut_done (by kernel_rfl) (NoPanic.normal (HQ.out (_, _, _) _ ⟨hB6, mA6, hB7, mA7, hB8, mA8, hk⟩))
    have St1_3_5_6_7_8_9 : ∀ (B6 B7 B8 : Nat) (w' : World), Below W1.heap.size W1 w' → W1.heap.size ≤ B6 → Has w' B6 (e4 a1) 36 → W1.heap.size ≤ B7 → HasN w' B7 4 36 → W1.heap.size ≤ B8 → HasN w' B8 4 36 → B6 ≠ B7 → B6 ≠ B8 → B7 ≠ B8 → T 2 #[true, true, true, true, true, true, true, true, true, true, false, false] { tmps := #[.agg (k32 n1), .agg (k32 n2), .agg (k32 n3), .pointer (some ⟨w.heap.size, 0, none⟩), .pointer (some ⟨w.heap.size + 1, 0, none⟩), .pointer (some ⟨w.heap.size + 1 + 1, 0, none⟩), .bool false, .pointer (some ⟨B6, 0, none⟩), .pointer (some ⟨B7, 0, none⟩), .pointer (some ⟨B8, 0, none⟩), undef, .agg (k32 n1), .agg (e4 a1), .agg (k32 n2), .agg (e4 a2), .agg (k32 n3), .agg (e4 a3), undef, undef, undef, undef, undef, undef, undef, undef, undef, undef, undef, undef, undef, undef, undef, undef, undef, undef, undef, undef, undef, undef, undef, undef, undef, undef, undef, undef, undef, undef, undef, undef, undef, undef, undef, undef, undef, undef, undef, undef, undef, undef, undef, undef, undef, undef, undef, undef, undef, undef, undef, undef, undef, undef, undef, undef, undef, undef, undef, undef, undef, undef, undef, undef, undef, undef, undef, undef, undef, undef, undef, undef, undef, undef, undef, undef, undef, undef, undef, undef, undef, undef, undef, undef, undef, undef, undef], defers := [] } w' := by
      intro B6 B7 B8 w' hbw hB6 mA6 hB7 mA7 hB8 mA8 hne6_7 hne6_8 hne7_8
      refine (hT _ _ _ _).2 ?_
      refine wpBut_r1 (i := 10) (by kernel_rfl) ?_
      obtain ⟨Z, hZ, mZ⟩ := mA7
      refine go_store2 10 #[true, true, true, true, true, true, true, true, true, true, true, false] rfl rfl rfl (by rfl) 36 _ _ rfl _ _ rfl rfl 36 Z mZ (by rw [e4_size]; kernel_rfl) (hZ.trans (e4_size _).symm) (row_one _ _ _) ?_
      intro w2 hw2
      have hk := below_setRow (hbw) _ (e4 a2) hB7
      have mA6 := mA6.setRow_other B7 (e4 a2) (by omega)
      have mA8 := mA8.setRow_other B7 (e4 a2) (by omega)
      have mA7 := mZ.setRow (e4 a2)
      rw [← hw2] at hk mA6 mA7 mA8
      clear hw2 mZ hZ
      refine ⟨fun _ => hk, ?_⟩
      (try simp only [List.setIfInBounds_toArray, List.set_cons_succ, List.set_cons_zero])
      exact (hT _ _ _ _).1 (St1_3_5_6_7_8_9_10 (B6) (B7) (B8) w2 hk hB6 mA6 hB7 mA7 hB8 mA8 hne6_7 hne6_8 hne7_8)
    have St1_3_5_6_7_8 : ∀ (B6 B7 B8 : Nat) (w' : World), Below W1.heap.size W1 w' → W1.heap.size ≤ B6 → HasN w' B6 4 36 → W1.heap.size ≤ B7 → HasN w' B7 4 36 → W1.heap.size ≤ B8 → HasN w' B8 4 36 → B6 ≠ B7 → B6 ≠ B8 → B7 ≠ B8 → T 3 #[true, true, true, true, true, true, true, true, true, false, false, false] { tmps := #[.agg (k32 n1), .agg (k32 n2), .agg (k32 n3), .pointer (some ⟨w.heap.size, 0, none⟩), .pointer (some ⟨w.heap.size + 1, 0, none⟩), .pointer (some ⟨w.heap.size + 1 + 1, 0, none⟩), .bool false, .pointer (some ⟨B6, 0, none⟩), .pointer (some ⟨B7, 0, none⟩), .pointer (some ⟨B8, 0, none⟩), undef, .agg (k32 n1), .agg (e4 a1), .agg (k32 n2), .agg (e4 a2), .agg (k32 n3), .agg (e4 a3), undef, undef, undef, undef, undef, undef, undef, undef, undef, undef, undef, undef, undef, undef, undef, undef, undef, undef, undef, undef, undef, undef, undef, undef, undef, undef, undef, undef, undef, undef, undef, undef, undef, undef, undef, undef, undef, undef, undef, undef, undef, undef, undef, undef, undef, undef, undef, undef, undef, undef, undef, undef, undef, undef, undef, undef, undef, undef, undef, undef, undef, undef, undef, undef, undef, undef, undef, undef, undef, undef, undef, undef, undef, undef, undef, undef, undef, undef, undef, undef, undef, undef, undef, undef, undef, undef, undef], defers := [] } w' := by
      intro B6 B7 B8 w' hbw hB6 mA6 hB7 mA7 hB8 mA8 hne6_7 hne6_8 hne7_8
      refine (hT _ _ _ _).2 ?_
      refine wpBut_r1 (i := 9) (by kernel_rfl) ?_
      obtain ⟨Z, hZ, mZ⟩ := mA6
      refine go_store2 9 #[true, true, true, true, true, true, true, true, true, true, false, false] rfl rfl rfl (by rfl) 36 _ _ rfl _ _ rfl rfl 36 Z mZ (by rw [e4_size]; kernel_rfl) (hZ.trans (e4_size _).symm) (row_one _ _ _) ?_
      intro w2 hw2
      have hk := below_setRow (hbw) _ (e4 a1) hB6
      have mA7 := mA7.setRow_other B6 (e4 a1) (by omega)
      have mA8 := mA8.setRow_other B6 (e4 a1) (by omega)
      have mA6 := mZ.setRow (e4 a1)
      rw [← hw2] at hk mA6 mA7 mA8
      clear hw2 mZ hZ
      refine ⟨fun _ => hk, ?_⟩
      (try simp only [List.setIfInBounds_toArray, List.set_cons_succ, List.set_cons_zero])
      exact (hT _ _ _ _).1 (St1_3_5_6_7_8_9 (B6) (B7) (B8) w2 hk hB6 mA6 hB7 mA7 hB8 mA8 hne6_7 hne6_8 hne7_8)
    have St1_3_6_7_8 : ∀ (B6 B7 B8 : Nat) (w' : World), Below W1.heap.size W1 w' → W1.heap.size ≤ B6 → HasN w' B6 4 36 → W1.heap.size ≤ B7 → HasN w' B7 4 36 → W1.heap.size ≤ B8 → HasN w' B8 4 36 → B6 ≠ B7 → B6 ≠ B8 → B7 ≠ B8 → T 4 #[true, true, true, true, true, false, true, true, true, false, false, false] { tmps := #[.agg (k32 n1), .agg (k32 n2), .agg (k32 n3), .pointer (some ⟨w.heap.size, 0, none⟩), .pointer (some ⟨w.heap.size + 1, 0, none⟩), .pointer (some ⟨w.heap.size + 1 + 1, 0, none⟩), .bool false, .pointer (some ⟨B6, 0, none⟩), .pointer (some ⟨B7, 0, none⟩), .pointer (some ⟨B8, 0, none⟩), undef, .agg (k32 n1), .agg (e4 a1), .agg (k32 n2), .agg (e4 a2), .agg (k32 n3), undef, undef, undef, undef, undef, undef, undef, undef, undef, undef, undef, undef, undef, undef, undef, undef, undef, undef, undef, undef, undef, undef, undef, undef, undef, undef, undef, undef, undef, undef, undef, undef, undef, undef, undef, undef, undef, undef, undef, undef, undef, undef, undef, undef, undef, undef, undef, undef, undef, undef, undef, undef, undef, undef, undef, undef, undef, undef, undef, undef, undef, undef, undef, undef, undef, undef, undef, undef, undef, undef, undef, undef, undef, undef, undef, undef, undef, undef, undef, undef, undef, undef, undef, undef, undef, undef, undef, undef], defers := [] } w' := by
      intro B6 B7 B8 w' hbw hB6 mA6 hB7 mA7 hB8 mA8 hne6_7 hne6_8 hne7_8
      refine (hT _ _ _ _).2 ?_
      refine wpBut_r1 (i := 5) (by kernel_rfl) ?_
      refine go_call 5 16 #[true, true, true, true, true, true, true, true, true, false, false, false] rfl rfl rfl (by rfl) rfl rfl (by rfl) ent30 (by rfl) (Hf3.out _) ?_
      rintro e w2 ⟨rfl, hb⟩
      have hk := held_next hbw hb
      have mA6 := mA6.call hb
      have mA7 := mA7.call hb
      have mA8 := mA8.call hb
      refine ⟨_, rfl, fun _ => hk, ?_⟩
      (try simp only [List.setIfInBounds_toArray, List.set_cons_succ, List.set_cons_zero])
      exact (hT _ _ _ _).1 (St1_3_5_6_7_8 (B6) (B7) (B8) w2 hk hB6 mA6 hB7 mA7 hB8 mA8 hne6_7 hne6_8 hne7_8)
    have St1_3_5_7_8 : ∀ (B7 B8 : Nat) (w' : World), Below W1.heap.size W1 w' → W1.heap.size ≤ B7 → HasN w' B7 4 36 → W1.heap.size ≤ B8 → HasN w' B8 4 36 → B7 ≠ B8 → T 4 #[true, true, true, true, true, true, false, true, true, false, false, false] { tmps := #[.agg (k32 n1), .agg (k32 n2), .agg (k32 n3), .pointer (some ⟨w.heap.size, 0, none⟩), .pointer (some ⟨w.heap.size + 1, 0, none⟩), .pointer (some ⟨w.heap.size + 1 + 1, 0, none⟩), .bool false, undef, .pointer (some ⟨B7, 0, none⟩), .pointer (some ⟨B8, 0, none⟩), undef, .agg (k32 n1), .agg (e4 a1), .agg (k32 n2), .agg (e4 a2), .agg (k32 n3), .agg (e4 a3), undef, undef, undef, undef, undef, undef, undef, undef, undef, undef, undef, undef, undef, undef, undef, undef, undef, undef, undef, undef, undef, undef, undef, undef, undef, undef, undef, undef, undef, undef, undef, undef, undef, undef, undef, undef, undef, undef, undef, undef, undef, undef, undef, undef, undef, undef, undef, undef, undef, undef, undef, undef, undef, undef, undef, undef, undef, undef, undef, undef, undef, undef, undef, undef, undef, undef, undef, undef, undef, undef, undef, undef, undef, undef, undef, undef, undef, undef, undef, undef, undef, undef, undef, undef, undef, undef, undef], defers := [] } w' := by
      intro B7 B8 w' hbw hB7 mA7 hB8 mA8 hne7_8
      refine (hT _ _ _ _).2 ?_
      refine wpBut_r1 (i := 6) (by kernel_rfl) ?_
      refine go_alloc 6 7 #[true, true, true, true, true, true, true, true, true, false, false, false] rfl rfl rfl (by rfl) 36 rfl _ al36 ?_
      intro w2 hw2
      have hk := (hbw).alloc (hbw).size (.cells (#[.int .u64 0, .int .u64 0, .int .u64 0, .int .u64 0] : Array Value) 36)
      have hlt7 := mA7.lt
      have mA7 := mA7.alloc (.cells (#[.int .u64 0, .int .u64 0, .int .u64 0, .int .u64 0] : Array Value) 36)
      have hlt8 := mA8.lt
      have mA8 := mA8.alloc (.cells (#[.int .u64 0, .int .u64 0, .int .u64 0, .int .u64 0] : Array Value) 36)
      have mA6 := HasN.new (w') (#[.int .u64 0, .int .u64 0, .int .u64 0, .int .u64 0] : Array Value) 36 4 rfl
      have hB6 := (hbw).size
      rw [← hw2] at hk mA7 mA8 mA6
      have hne6_7 : w'.heap.size ≠ B7 := by omega
      have hne6_8 : w'.heap.size ≠ B8 := by omega
      clear hw2
      refine ⟨fun _ => hk, ?_⟩
      (try simp only [List.setIfInBounds_toArray, List.set_cons_succ, List.set_cons_zero])
      exact (hT _ _ _ _).1 (St1_3_5_6_7_8 (w'.heap.size) (B7) (B8) w2 hk hB6 mA6 hB7 mA7 hB8 mA8 hne6_7 hne6_8 hne7_8)
    have St1_3_5_6_8 : ∀ (B6 B8 : Nat) (w' : World), Below W1.heap.size W1 w' → W1.heap.size ≤ B6 → HasN w' B6 4 36 → W1.heap.size ≤ B8 → HasN w' B8 4 36 → B6 ≠ B8 → T 4 #[true, true, true, true, true, true, true, false, true, false, false, false] { tmps := #[.agg (k32 n1), .agg (k32 n2), .agg (k32 n3), .pointer (some ⟨w.heap.size, 0, none⟩), .pointer (some ⟨w.heap.size + 1, 0, none⟩), .pointer (some ⟨w.heap.size + 1 + 1, 0, none⟩), .bool false, .pointer (some ⟨B6, 0, none⟩), undef, .pointer (some ⟨B8, 0, none⟩), undef, .agg (k32 n1), .agg (e4 a1), .agg (k32 n2), .agg (e4 a2), .agg (k32 n3), .agg (e4 a3), undef, undef, undef, undef, undef, undef, undef, undef, undef, undef, undef, undef, undef, undef, undef, undef, undef, undef, undef, undef, undef, undef, undef, undef, undef, undef, undef, undef, undef, undef, undef, undef, undef, undef, undef, undef, undef, undef, undef, undef, undef, undef, undef, undef, undef, undef, undef, undef, undef, undef, undef, undef, undef, undef, undef, undef, undef, undef, undef, undef, undef, undef, undef, undef, undef, undef, undef, undef, undef, undef, undef, undef, undef, undef, undef, undef, undef, undef, undef, undef, undef, undef, undef, undef, undef, undef, undef], defers := [] } w' := by
      intro B6 B8 w' hbw hB6 mA6 hB8 mA8 hne6_8
      refine (hT _ _ _ _).2 ?_
      refine wpBut_r1 (i := 7) (by kernel_rfl) ?_
      refine go_alloc 7 8 #[true, true, true, true, true, true, true, true, true, false, false, false] rfl rfl rfl (by rfl) 36 rfl _ al36 ?_
      intro w2 hw2
      have hk := (hbw).alloc (hbw).size (.cells (#[.int .u64 0, .int .u64 0, .int .u64 0, .int .u64 0] : Array Value) 36)
      have hlt6 := mA6.lt
      have mA6 := mA6.alloc (.cells (#[.int .u64 0, .int .u64 0, .int .u64 0, .int .u64 0] : Array Value) 36)
      have hlt8 := mA8.lt
      have mA8 := mA8.alloc (.cells (#[.int .u64 0, .int .u64 0, .int .u64 0, .int .u64 0] : Array Value) 36)
      have mA7 := HasN.new (w') (#[.int .u64 0, .int .u64 0, .int .u64 0, .int .u64 0] : Array Value) 36 4 rfl
      have hB7 := (hbw).size
      rw [← hw2] at hk mA6 mA8 mA7
      have hne6_7 : B6 ≠ w'.heap.size := by omega
      have hne7_8 : w'.heap.size ≠ B8 := by omega
      clear hw2
      refine ⟨fun _ => hk, ?_⟩
      (try simp only [List.setIfInBounds_toArray, List.set_cons_succ, List.set_cons_zero])
      exact (hT _ _ _ _).1 (St1_3_5_6_7_8 (B6) (w'.heap.size) (B8) w2 hk hB6 mA6 hB7 mA7 hB8 mA8 hne6_7 hne6_8 hne7_8)
    have St1_3_5_6_7 : ∀ (B6 B7 : Nat) (w' : World), Below W1.heap.size W1 w' → W1.heap.size ≤ B6 → HasN w' B6 4 36 → W1.heap.size ≤ B7 → HasN w' B7 4 36 → B6 ≠ B7 → T 4 #[true, true, true, true, true, true, true, true, false, false, false, false] { tmps := #[.agg (k32 n1), .agg (k32 n2), .agg (k32 n3), .pointer (some ⟨w.heap.size, 0, none⟩), .pointer (some ⟨w.heap.size + 1, 0, none⟩), .pointer (some ⟨w.heap.size + 1 + 1, 0, none⟩), .bool false, .pointer (some ⟨B6, 0, none⟩), .pointer (some ⟨B7, 0, none⟩), undef, undef, .agg (k32 n1), .agg (e4 a1), .agg (k32 n2), .agg (e4 a2), .agg (k32 n3), .agg (e4 a3), undef, undef, undef, undef, undef, undef, undef, undef, undef, undef, undef, undef, undef, undef, undef, undef, undef, undef, undef, undef, undef, undef, undef, undef, undef, undef, undef, undef, undef, undef, undef, undef, undef, undef, undef, undef, undef, undef, undef, undef, undef, undef, undef, undef, undef, undef, undef, undef, undef, undef, undef, undef, undef, undef, undef, undef, undef, undef, undef, undef, undef, undef, undef, undef, undef, undef, undef, undef, undef, undef, undef, undef, undef, undef, undef, undef, undef, undef, undef, undef, undef, undef, undef, undef, undef, undef, undef], defers := [] } w' := by
      intro B6 B7 w' hbw hB6 mA6 hB7 mA7 hne6_7
      refine (hT _ _ _ _).2 ?_
      refine wpBut_r1 (i := 8) (by kernel_rfl) ?_
      refine go_alloc 8 9 #[true, true, true, true, true, true, true, true, true, false, false, false] rfl rfl rfl (by rfl) 36 rfl _ al36 ?_
      intro w2 hw2
      have hk := (hbw).alloc (hbw).size (.cells (#[.int .u64 0, .int .u64 0, .int .u64 0, .int .u64 0] : Array Value) 36)
      have hlt6 := mA6.lt
      have mA6 := mA6.alloc (.cells (#[.int .u64 0, .int .u64 0, .int .u64 0, .int .u64 0] : Array Value) 36)
      have hlt7 := mA7.lt
      have mA7 := mA7.alloc (.cells (#[.int .u64 0, .int .u64 0, .int .u64 0, .int .u64 0] : Array Value) 36)
      have mA8 := HasN.new (w') (#[.int .u64 0, .int .u64 0, .int .u64 0, .int .u64 0] : Array Value) 36 4 rfl
      have hB8 := (hbw).size
      rw [← hw2] at hk mA6 mA7 mA8
      have hne6_8 : B6 ≠ w'.heap.size := by omega
      have hne7_8 : B7 ≠ w'.heap.size := by omega
      clear hw2
      refine ⟨fun _ => hk, ?_⟩
      (try simp only [List.setIfInBounds_toArray, List.set_cons_succ, List.set_cons_zero])
      exact (hT _ _ _ _).1 (St1_3_5_6_7_8 (B6) (B7) (w'.heap.size) w2 hk hB6 mA6 hB7 mA7 hB8 mA8 hne6_7 hne6_8 hne7_8)
    have St1_6_7_8 : ∀ (B6 B7 B8 : Nat) (w' : World), Below W1.heap.size W1 w' → W1.heap.size ≤ B6 → HasN w' B6 4 36 → W1.heap.size ≤ B7 → HasN w' B7 4 36 → W1.heap.size ≤ B8 → HasN w' B8 4 36 → B6 ≠ B7 → B6 ≠ B8 → B7 ≠ B8 → T 5 #[true, true, true, false, true, false, true, true, true, false, false, false] { tmps := #[.agg (k32 n1), .agg (k32 n2), .agg (k32 n3), .pointer (some ⟨w.heap.size, 0, none⟩), .pointer (some ⟨w.heap.size + 1, 0, none⟩), .pointer (some ⟨w.heap.size + 1 + 1, 0, none⟩), .bool false, .pointer (some ⟨B6, 0, none⟩), .pointer (some ⟨B7, 0, none⟩), .pointer (some ⟨B8, 0, none⟩), undef, .agg (k32 n1), .agg (e4 a1), .agg (k32 n2), undef, .agg (k32 n3), undef, undef, undef, undef, undef, undef, undef, undef, undef, undef, undef, undef, undef, undef, undef, undef, undef, undef, undef, undef, undef, undef, undef, undef, undef, undef, undef, undef, undef, undef, undef, undef, undef, undef, undef, undef, undef, undef, undef, undef, undef, undef, undef, undef, undef, undef, undef, undef, undef, undef, undef, undef, undef, undef, undef, undef, undef, undef, undef, undef, undef, undef, undef, undef, undef, undef, undef, undef, undef, undef, undef, undef, undef, undef, undef, undef, undef, undef, undef, undef, undef, undef, undef, undef, undef, undef, undef, undef], defers := [] } w' := by
      intro B6 B7 B8 w' hbw hB6 mA6 hB7 mA7 hB8 mA8 hne6_7 hne6_8 hne7_8
      refine (hT _ _ _ _).2 ?_
      refine wpBut_r1 (i := 3) (by kernel_rfl) ?_
      refine go_call 3 14 #[true, true, true, true, true, false, true, true, true, false, false, false] rfl rfl rfl (by rfl) rfl rfl (by rfl) ent30 (by rfl) (Hf2.out _) ?_
      rintro e w2 ⟨rfl, hb⟩
      have hk := held_next hbw hb
      have mA6 := mA6.call hb
      have mA7 := mA7.call hb
      have mA8 := mA8.call hb
      refine ⟨_, rfl, fun _ => hk, ?_⟩
      (try simp only [List.setIfInBounds_toArray, List.set_cons_succ, List.set_cons_zero])
      exact (hT _ _ _ _).1 (St1_3_6_7_8 (B6) (B7) (B8) w2 hk hB6 mA6 hB7 mA7 hB8 mA8 hne6_7 hne6_8 hne7_8)
    have St1_3_7_8 : ∀ (B7 B8 : Nat) (w' : World), Below W1.heap.size W1 w' → W1.heap.size ≤ B7 → HasN w' B7 4 36 → W1.heap.size ≤ B8 → HasN w' B8 4 36 → B7 ≠ B8 → T 5 #[true, true, true, true, true, false, false, true, true, false, false, false] { tmps := #[.agg (k32 n1), .agg (k32 n2), .agg (k32 n3), .pointer (some ⟨w.heap.size, 0, none⟩), .pointer (some ⟨w.heap.size + 1, 0, none⟩), .pointer (some ⟨w.heap.size + 1 + 1, 0, none⟩), .bool false, undef, .pointer (some ⟨B7, 0, none⟩), .pointer (some ⟨B8, 0, none⟩), undef, .agg (k32 n1), .agg (e4 a1), .agg (k32 n2), .agg (e4 a2), .agg (k32 n3), undef, undef, undef, undef, undef, undef, undef, undef, undef, undef, undef, undef, undef, undef, undef, undef, undef, undef, undef, undef, undef, undef, undef, undef, undef, undef, undef, undef, undef, undef, undef, undef, undef, undef, undef, undef, undef, undef, undef, undef, undef, undef, undef, undef, undef, undef, undef, undef, undef, undef, undef, undef, undef, undef, undef, undef, undef, undef, undef, undef, undef, undef, undef, undef, undef, undef, undef, undef, undef, undef, undef, undef, undef, undef, undef, undef, undef, undef, undef, undef, undef, undef, undef, undef, undef, undef, undef, undef], defers := [] } w' := by
      intro B7 B8 w' hbw hB7 mA7 hB8 mA8 hne7_8
      refine (hT _ _ _ _).2 ?_
      refine wpBut_r2 (i := 5) (j := 6) (by kernel_rfl) ?_ ?_
      · refine go_call 5 16 #[true, true, true, true, true, true, false, true, true, false, false, false] rfl rfl rfl (by rfl) rfl rfl (by rfl) ent30 (by rfl) (Hf3.out _) ?_
        rintro e w2 ⟨rfl, hb⟩
        have hk := held_next hbw hb
        have mA7 := mA7.call hb
        have mA8 := mA8.call hb
        refine ⟨_, rfl, fun _ => hk, ?_⟩
        (try simp only [List.setIfInBounds_toArray, List.set_cons_succ, List.set_cons_zero])
        exact (hT _ _ _ _).1 (St1_3_5_7_8 (B7) (B8) w2 hk hB7 mA7 hB8 mA8 hne7_8)
      · refine go_alloc 6 7 #[true, true, true, true, true, false, true, true, true, false, false, false] rfl rfl rfl (by rfl) 36 rfl _ al36 ?_
        intro w2 hw2
        have hk := (hbw).alloc (hbw).size (.cells (#[.int .u64 0, .int .u64 0, .int .u64 0, .int .u64 0] : Array Value) 36)
        have hlt7 := mA7.lt
        have mA7 := mA7.alloc (.cells (#[.int .u64 0, .int .u64 0, .int .u64 0, .int .u64 0] : Array Value) 36)
        have hlt8 := mA8.lt
        have mA8 := mA8.alloc (.cells (#[.int .u64 0, .int .u64 0, .int .u64 0, .int .u64 0] : Array Value) 36)
        have mA6 := HasN.new (w') (#[.int .u64 0, .int .u64 0, .int .u64 0, .int .u64 0] : Array Value) 36 4 rfl
        have hB6 := (hbw).size
        rw [← hw2] at hk mA7 mA8 mA6
        have hne6_7 : w'.heap.size ≠ B7 := by omega
        have hne6_8 : w'.heap.size ≠ B8 := by omega
        clear hw2
        refine ⟨fun _ => hk, ?_⟩
        (try simp only [List.setIfInBounds_toArray, List.set_cons_succ, List.set_cons_zero])
        exact (hT _ _ _ _).1 (St1_3_6_7_8 (w'.heap.size) (B7) (B8) w2 hk hB6 mA6 hB7 mA7 hB8 mA8 hne6_7 hne6_8 hne7_8)
    have St1_3_6_8 : ∀ (B6 B8 : Nat) (w' : World), Below W1.heap.size W1 w' → W1.heap.size ≤ B6 → HasN w' B6 4 36 → W1.heap.size ≤ B8 → HasN w' B8 4 36 → B6 ≠ B8 → T 5 #[true, true, true, true, true, false, true, false, true, false, false, false] { tmps := #[.agg (k32 n1), .agg (k32 n2), .agg (k32 n3), .pointer (some ⟨w.heap.size, 0, none⟩), .pointer (some ⟨w.heap.size + 1, 0, none⟩), .pointer (some ⟨w.heap.size + 1 + 1, 0, none⟩), .bool false, .pointer (some ⟨B6, 0, none⟩), undef, .pointer (some ⟨B8, 0, none⟩), undef, .agg (k32 n1), .agg (e4 a1), .agg (k32 n2), .agg (e4 a2), .agg (k32 n3), undef, undef, undef, undef, undef, undef, undef, undef, undef, undef, undef, undef, undef, undef, undef, undef, undef, undef, undef, undef, undef, undef, undef, undef, undef, undef, undef, undef, undef, undef, undef, undef, undef, undef, undef, undef, undef, undef, undef, undef, undef, undef, undef, undef, undef, undef, undef, undef, undef, undef, undef, undef, undef, undef, undef, undef, undef, undef, undef, undef, undef, undef, undef, undef, undef, undef, undef, undef, undef, undef, undef, undef, undef, undef, undef, undef, undef, undef, undef, undef, undef, undef, undef, undef, undef, undef, undef, undef], defers := [] } w' := by
      intro B6 B8 w' hbw hB6 mA6 hB8 mA8 hne6_8
      refine (hT _ _ _ _).2 ?_
      refine wpBut_r2 (i := 5) (j := 7) (by kernel_rfl) ?_ ?_
      · refine go_call 5 16 #[true, true, true, true, true, true, true, false, true, false, false, false] rfl rfl rfl (by rfl) rfl rfl (by rfl) ent30 (by rfl) (Hf3.out _) ?_
        rintro e w2 ⟨rfl, hb⟩
        have hk := held_next hbw hb
        have mA6 := mA6.call hb
        have mA8 := mA8.call hb
        refine ⟨_, rfl, fun _ => hk, ?_⟩
        (try simp only [List.setIfInBounds_toArray, List.set_cons_succ, List.set_cons_zero])
        exact (hT _ _ _ _).1 (St1_3_5_6_8 (B6) (B8) w2 hk hB6 mA6 hB8 mA8 hne6_8)
      · refine go_alloc 7 8 #[true, true, true, true, true, false, true, true, true, false, false, false] rfl rfl rfl (by rfl) 36 rfl _ al36 ?_
        intro w2 hw2
        have hk := (hbw).alloc (hbw).size (.cells (#[.int .u64 0, .int .u64 0, .int .u64 0, .int .u64 0] : Array Value) 36)
        have hlt6 := mA6.lt
        have mA6 := mA6.alloc (.cells (#[.int .u64 0, .int .u64 0, .int .u64 0, .int .u64 0] : Array Value) 36)
        have hlt8 := mA8.lt
        have mA8 := mA8.alloc (.cells (#[.int .u64 0, .int .u64 0, .int .u64 0, .int .u64 0] : Array Value) 36)
        have mA7 := HasN.new (w') (#[.int .u64 0, .int .u64 0, .int .u64 0, .int .u64 0] : Array Value) 36 4 rfl
        have hB7 := (hbw).size
        rw [← hw2] at hk mA6 mA8 mA7
        have hne6_7 : B6 ≠ w'.heap.size := by omega
        have hne7_8 : w'.heap.size ≠ B8 := by omega
        clear hw2
        refine ⟨fun _ => hk, ?_⟩
        (try simp only [List.setIfInBounds_toArray, List.set_cons_succ, List.set_cons_zero])
        exact (hT _ _ _ _).1 (St1_3_6_7_8 (B6) (w'.heap.size) (B8) w2 hk hB6 mA6 hB7 mA7 hB8 mA8 hne6_7 hne6_8 hne7_8)
    have St1_3_6_7 : ∀ (B6 B7 : Nat) (w' : World), Below W1.heap.size W1 w' → W1.heap.size ≤ B6 → HasN w' B6 4 36 → W1.heap.size ≤ B7 → HasN w' B7 4 36 → B6 ≠ B7 → T 5 #[true, true, true, true, true, false, true, true, false, false, false, false] { tmps := #[.agg (k32 n1), .agg (k32 n2), .agg (k32 n3), .pointer (some ⟨w.heap.size, 0, none⟩), .pointer (some ⟨w.heap.size + 1, 0, none⟩), .pointer (some ⟨w.heap.size + 1 + 1, 0, none⟩), .bool false, .pointer (some ⟨B6, 0, none⟩), .pointer (some ⟨B7, 0, none⟩), undef, undef, .agg (k32 n1), .agg (e4 a1), .agg (k32 n2), .agg (e4 a2), .agg (k32 n3), undef, undef, undef, undef, undef, undef, undef, undef, undef, undef, undef, undef, undef, undef, undef, undef, undef, undef, undef, undef, undef, undef, undef, undef, undef, undef, undef, undef, undef, undef, undef, undef, undef, undef, undef, undef, undef, undef, undef, undef, undef, undef, undef, undef, undef, undef, undef, undef, undef, undef, undef, undef, undef, undef, undef, undef, undef, undef, undef, undef, undef, undef, undef, undef, undef, undef, undef, undef, undef, undef, undef, undef, undef, undef, undef, undef, undef, undef, undef, undef, undef, undef, undef, undef, undef, undef, undef, undef], defers := [] } w' := by
      intro B6 B7 w' hbw hB6 mA6 hB7 mA7 hne6_7
      refine (hT _ _ _ _).2 ?_
      refine wpBut_r2 (i := 5) (j := 8) (by kernel_rfl) ?_ ?_
      · refine go_call 5 16 #[true, true, true, true, true, true, true, true, false, false, false, false] rfl rfl rfl (by rfl) rfl rfl (by rfl) ent30 (by rfl) (Hf3.out _) ?_
        rintro e w2 ⟨rfl, hb⟩
        have hk := held_next hbw hb
        have mA6 := mA6.call hb
        have mA7 := mA7.call hb
        refine ⟨_, rfl, fun _ => hk, ?_⟩
        (try simp only [List.setIfInBounds_toArray, List.set_cons_succ, List.set_cons_zero])
        exact (hT _ _ _ _).1 (St1_3_5_6_7 (B6) (B7) w2 hk hB6 mA6 hB7 mA7 hne6_7)
      · refine go_alloc 8 9 #[true, true, true, true, true, false, true, true, true, false, false, false] rfl rfl rfl (by rfl) 36 rfl _ al36 ?_
        intro w2 hw2
        have hk := (hbw).alloc (hbw).size (.cells (#[.int .u64 0, .int .u64 0, .int .u64 0, .int .u64 0] : Array Value) 36)
        have hlt6 := mA6.lt
        have mA6 := mA6.alloc (.cells (#[.int .u64 0, .int .u64 0, .int .u64 0, .int .u64 0] : Array Value) 36)
        have hlt7 := mA7.lt
        have mA7 := mA7.alloc (.cells (#[.int .u64 0, .int .u64 0, .int .u64 0, .int .u64 0] : Array Value) 36)
        have mA8 := HasN.new (w') (#[.int .u64 0, .int .u64 0, .int .u64 0, .int .u64 0] : Array Value) 36 4 rfl
        have hB8 := (hbw).size
        rw [← hw2] at hk mA6 mA7 mA8
        have hne6_8 : B6 ≠ w'.heap.size := by omega
        have hne7_8 : B7 ≠ w'.heap.size := by omega
        clear hw2
        refine ⟨fun _ => hk, ?_⟩
        (try simp only [List.setIfInBounds_toArray, List.set_cons_succ, List.set_cons_zero])
        exact (hT _ _ _ _).1 (St1_3_6_7_8 (B6) (B7) (w'.heap.size) w2 hk hB6 mA6 hB7 mA7 hB8 mA8 hne6_7 hne6_8 hne7_8)
    have St1_3_5_8 : ∀ (B8 : Nat) (w' : World), Below W1.heap.size W1 w' → W1.heap.size ≤ B8 → HasN w' B8 4 36 → T 5 #[true, true, true, true, true, true, false, false, true, false, false, false] { tmps := #[.agg (k32 n1), .agg (k32 n2), .agg (k32 n3), .pointer (some ⟨w.heap.size, 0, none⟩), .pointer (some ⟨w.heap.size + 1, 0, none⟩), .pointer (some ⟨w.heap.size + 1 + 1, 0, none⟩), .bool false, undef, undef, .pointer (some ⟨B8, 0, none⟩), undef, .agg (k32 n1), .agg (e4 a1), .agg (k32 n2), .agg (e4 a2), .agg (k32 n3), .agg (e4 a3), undef, undef, undef, undef, undef, undef, undef, undef, undef, undef, undef, undef, undef, undef, undef, undef, undef, undef, undef, undef, undef, undef, undef, undef, undef, undef, undef, undef, undef, undef, undef, undef, undef, undef, undef, undef, undef, undef, undef, undef, undef, undef, undef, undef, undef, undef, undef, undef, undef, undef, undef, undef, undef, undef, undef, undef, undef, undef, undef, undef, undef, undef, undef, undef, undef, undef, undef, undef, undef, undef, undef, undef, undef, undef, undef, undef, undef, undef, undef, undef, undef, undef, undef, undef, undef, undef, undef], defers := [] } w' := by
      intro B8 w' hbw hB8 mA8
      refine (hT _ _ _ _).2 ?_
      refine wpBut_r2 (i := 6) (j := 7) (by kernel_rfl) ?_ ?_
      · refine go_alloc 6 7 #[true, true, true, true, true, true, true, false, true, false, false, false] rfl rfl rfl (by rfl) 36 rfl _ al36 ?_
        intro w2 hw2
        have hk := (hbw).alloc (hbw).size (.cells (#[.int .u64 0, .int .u64 0, .int .u64 0, .int .u64 0] : Array Value) 36)
        have hlt8 := mA8.lt
        have mA8 := mA8.alloc (.cells (#[.int .u64 0, .int .u64 0, .int .u64 0, .int .u64 0] : Array Value) 36)
        have mA6 := HasN.new (w') (#[.int .u64 0, .int .u64 0, .int .u64 0, .int .u64 0] : Array Value) 36 4 rfl
        have hB6 := (hbw).size
        rw [← hw2] at hk mA8 mA6
        have hne6_8 : w'.heap.size ≠ B8 := by omega
        clear hw2
        refine ⟨fun _ => hk, ?_⟩
        (try simp only [List.setIfInBounds_toArray, List.set_cons_succ, List.set_cons_zero])
        exact (hT _ _ _ _).1 (St1_3_5_6_8 (w'.heap.size) (B8) w2 hk hB6 mA6 hB8 mA8 hne6_8)
      · refine go_alloc 7 8 #[true, true, true, true, true, true, false, true, true, false, false, false] rfl rfl rfl (by rfl) 36 rfl _ al36 ?_
        intro w2 hw2
        have hk := (hbw).alloc (hbw).size (.cells (#[.int .u64 0, .int .u64 0, .int .u64 0, .int .u64 0] : Array Value) 36)
        have hlt8 := mA8.lt
        have mA8 := mA8.alloc (.cells (#[.int .u64 0, .int .u64 0, .int .u64 0, .int .u64 0] : Array Value) 36)
        have mA7 := HasN.new (w') (#[.int .u64 0, .int .u64 0, .int .u64 0, .int .u64 0] : Array Value) 36 4 rfl
        have hB7 := (hbw).size
        rw [← hw2] at hk mA8 mA7
        have hne7_8 : w'.heap.size ≠ B8 := by omega
        clear hw2
        refine ⟨fun _ => hk, ?_⟩
        (try simp only [List.setIfInBounds_toArray, List.set_cons_succ, List.set_cons_zero])
        exact (hT _ _ _ _).1 (St1_3_5_7_8 (w'.heap.size) (B8) w2 hk hB7 mA7 hB8 mA8 hne7_8)
    have St1_3_5_7 : ∀ (B7 : Nat) (w' : World), Below W1.heap.size W1 w' → W1.heap.size ≤ B7 → HasN w' B7 4 36 → T 5 #[true, true, true, true, true, true, false, true, false, false, false, false] { tmps := #[.agg (k32 n1), .agg (k32 n2), .agg (k32 n3), .pointer (some ⟨w.heap.size, 0, none⟩), .pointer (some ⟨w.heap.size + 1, 0, none⟩), .pointer (some ⟨w.heap.size + 1 + 1, 0, none⟩), .bool false, undef, .pointer (some ⟨B7, 0, none⟩), undef, undef, .agg (k32 n1), .agg (e4 a1), .agg (k32 n2), .agg (e4 a2), .agg (k32 n3), .agg (e4 a3), undef, undef, undef, undef, undef, undef, undef, undef, undef, undef, undef, undef, undef, undef, undef, undef, undef, undef, undef, undef, undef, undef, undef, undef, undef, undef, undef, undef, undef, undef, undef, undef, undef, undef, undef, undef, undef, undef, undef, undef, undef, undef, undef, undef, undef, undef, undef, undef, undef, undef, undef, undef, undef, undef, undef, undef, undef, undef, undef, undef, undef, undef, undef, undef, undef, undef, undef, undef, undef, undef, undef, undef, undef, undef, undef, undef, undef, undef, undef, undef, undef, undef, undef, undef, undef, undef, undef], defers := [] } w' := by
      intro B7 w' hbw hB7 mA7
      refine (hT _ _ _ _).2 ?_
      refine wpBut_r2 (i := 6) (j := 8) (by kernel_rfl) ?_ ?_
      · refine go_alloc 6 7 #[true, true, true, true, true, true, true, true, false, false, false, false] rfl rfl rfl (by rfl) 36 rfl _ al36 ?_
        intro w2 hw2
        have hk := (hbw).alloc (hbw).size (.cells (#[.int .u64 0, .int .u64 0, .int .u64 0, .int .u64 0] : Array Value) 36)
        have hlt7 := mA7.lt
        have mA7 := mA7.alloc (.cells (#[.int .u64 0, .int .u64 0, .int .u64 0, .int .u64 0] : Array Value) 36)
        have mA6 := HasN.new (w') (#[.int .u64 0, .int .u64 0, .int .u64 0, .int .u64 0] : Array Value) 36 4 rfl
        have hB6 := (hbw).size
        rw [← hw2] at hk mA7 mA6
        have hne6_7 : w'.heap.size ≠ B7 := by omega
        clear hw2
        refine ⟨fun _ => hk, ?_⟩
        (try simp only [List.setIfInBounds_toArray, List.set_cons_succ, List.set_cons_zero])
        exact (hT _ _ _ _).1 (St1_3_5_6_7 (w'.heap.size) (B7) w2 hk hB6 mA6 hB7 mA7 hne6_7)
      · refine go_alloc 8 9 #[true, true, true, true, true, true, false, true, true, false, false, false] rfl rfl rfl (by rfl) 36 rfl _ al36 ?_
        intro w2 hw2
        have hk := (hbw).alloc (hbw).size (.cells (#[.int .u64 0, .int .u64 0, .int .u64 0, .int .u64 0] : Array Value) 36)
        have hlt7 := mA7.lt
        have mA7 := mA7.alloc (.cells (#[.int .u64 0, .int .u64 0, .int .u64 0, .int .u64 0] : Array Value) 36)
        have mA8 := HasN.new (w') (#[.int .u64 0, .int .u64 0, .int .u64 0, .int .u64 0] : Array Value) 36 4 rfl
        have hB8 := (hbw).size
        rw [← hw2] at hk mA7 mA8
        have hne7_8 : B7 ≠ w'.heap.size := by omega
        clear hw2
        refine ⟨fun _ => hk, ?_⟩
        (try simp only [List.setIfInBounds_toArray, List.set_cons_succ, List.set_cons_zero])
        exact (hT _ _ _ _).1 (St1_3_5_7_8 (B7) (w'.heap.size) w2 hk hB7 mA7 hB8 mA8 hne7_8)
    have St1_3_5_6 : ∀ (B6 : Nat) (w' : World), Below W1.heap.size W1 w' → W1.heap.size ≤ B6 → HasN w' B6 4 36 → T 5 #[true, true, true, true, true, true, true, false, false, false, false, false] { tmps := #[.agg (k32 n1), .agg (k32 n2), .agg (k32 n3), .pointer (some ⟨w.heap.size, 0, none⟩), .pointer (some ⟨w.heap.size + 1, 0, none⟩), .pointer (some ⟨w.heap.size + 1 + 1, 0, none⟩), .bool false, .pointer (some ⟨B6, 0, none⟩), undef, undef, undef, .agg (k32 n1), .agg (e4 a1), .agg (k32 n2), .agg (e4 a2), .agg (k32 n3), .agg (e4 a3), undef, undef, undef, undef, undef, undef, undef, undef, undef, undef, undef, undef, undef, undef, undef, undef, undef, undef, undef, undef, undef, undef, undef, undef, undef, undef, undef, undef, undef, undef, undef, undef, undef, undef, undef, undef, undef, undef, undef, undef, undef, undef, undef, undef, undef, undef, undef, undef, undef, undef, undef, undef, undef, undef, undef, undef, undef, undef, undef, undef, undef, undef, undef, undef, undef, undef, undef, undef, undef, undef, undef, undef, undef, undef, undef, undef, undef, undef, undef, undef, undef, undef, undef, undef, undef, undef, undef], defers := [] } w' := by
      intro B6 w' hbw hB6 mA6
      refine (hT _ _ _ _).2 ?_
      refine wpBut_r2 (i := 7) (j := 8) (by kernel_rfl) ?_ ?_
      · refine go_alloc 7 8 #[true, true, true, true, true, true, true, true, false, false, false, false] rfl rfl rfl (by rfl) 36 rfl _ al36 ?_
        intro w2 hw2
        have hk := (hbw).alloc (hbw).size (.cells (#[.int .u64 0, .int .u64 0, .int .u64 0, .int .u64 0] : Array Value) 36)
        have hlt6 := mA6.lt
        have mA6 := mA6.alloc (.cells (#[.int .u64 0, .int .u64 0, .int .u64 0, .int .u64 0] : Array Value) 36)
        have mA7 := HasN.new (w') (#[.int .u64 0, .int .u64 0, .int .u64 0, .int .u64 0] : Array Value) 36 4 rfl
        have hB7 := (hbw).size
        rw [← hw2] at hk mA6 mA7
        have hne6_7 : B6 ≠ w'.heap.size := by omega
        clear hw2
        refine ⟨fun _ => hk, ?_⟩
        (try simp only [List.setIfInBounds_toArray, List.set_cons_succ, List.set_cons_zero])
        exact (hT _ _ _ _).1 (St1_3_5_6_7 (B6) (w'.heap.size) w2 hk hB6 mA6 hB7 mA7 hne6_7)
      · refine go_alloc 8 9 #[true, true, true, true, true, true, true, false, true, false, false, false] rfl rfl rfl (by rfl) 36 rfl _ al36 ?_
        intro w2 hw2
        have hk := (hbw).alloc (hbw).size (.cells (#[.int .u64 0, .int .u64 0, .int .u64 0, .int .u64 0] : Array Value) 36)
        have hlt6 := mA6.lt
        have mA6 := mA6.alloc (.cells (#[.int .u64 0, .int .u64 0, .int .u64 0, .int .u64 0] : Array Value) 36)
        have mA8 := HasN.new (w') (#[.int .u64 0, .int .u64 0, .int .u64 0, .int .u64 0] : Array Value) 36 4 rfl
        have hB8 := (hbw).size
        rw [← hw2] at hk mA6 mA8
        have hne6_8 : B6 ≠ w'.heap.size := by omega
        clear hw2
        refine ⟨fun _ => hk, ?_⟩
        (try simp only [List.setIfInBounds_toArray, List.set_cons_succ, List.set_cons_zero])
        exact (hT _ _ _ _).1 (St1_3_5_6_8 (B6) (w'.heap.size) w2 hk hB6 mA6 hB8 mA8 hne6_8)
    have St6_7_8 : ∀ (B6 B7 B8 : Nat) (w' : World), Below W1.heap.size W1 w' → W1.heap.size ≤ B6 → HasN w' B6 4 36 → W1.heap.size ≤ B7 → HasN w' B7 4 36 → W1.heap.size ≤ B8 → HasN w' B8 4 36 → B6 ≠ B7 → B6 ≠ B8 → B7 ≠ B8 → T 6 #[true, false, true, false, true, false, true, true, true, false, false, false] { tmps := #[.agg (k32 n1), .agg (k32 n2), .agg (k32 n3), .pointer (some ⟨w.heap.size, 0, none⟩), .pointer (some ⟨w.heap.size + 1, 0, none⟩), .pointer (some ⟨w.heap.size + 1 + 1, 0, none⟩), .bool false, .pointer (some ⟨B6, 0, none⟩), .pointer (some ⟨B7, 0, none⟩), .pointer (some ⟨B8, 0, none⟩), undef, .agg (k32 n1), undef, .agg (k32 n2), undef, .agg (k32 n3), undef, undef, undef, undef, undef, undef, undef, undef, undef, undef, undef, undef, undef, undef, undef, undef, undef, undef, undef, undef, undef, undef, undef, undef, undef, undef, undef, undef, undef, undef, undef, undef, undef, undef, undef, undef, undef, undef, undef, undef, undef, undef, undef, undef, undef, undef, undef, undef, undef, undef, undef, undef, undef, undef, undef, undef, undef, undef, undef, undef, undef, undef, undef, undef, undef, undef, undef, undef, undef, undef, undef, undef, undef, undef, undef, undef, undef, undef, undef, undef, undef, undef, undef, undef, undef, undef, undef, undef], defers := [] } w' := by
      intro B6 B7 B8 w' hbw hB6 mA6 hB7 mA7 hB8 mA8 hne6_7 hne6_8 hne7_8
      refine (hT _ _ _ _).2 ?_
      refine wpBut_r1 (i := 1) (by kernel_rfl) ?_
      refine go_call 1 12 #[true, true, true, false, true, false, true, true, true, false, false, false] rfl rfl rfl (by rfl) rfl rfl (by rfl) ent30 (by rfl) (Hf1.out _) ?_
      rintro e w2 ⟨rfl, hb⟩
      have hk := held_next hbw hb
      have mA6 := mA6.call hb
      have mA7 := mA7.call hb
      have mA8 := mA8.call hb
      refine ⟨_, rfl, fun _ => hk, ?_⟩
      (try simp only [List.setIfInBounds_toArray, List.set_cons_succ, List.set_cons_zero])
      exact (hT _ _ _ _).1 (St1_6_7_8 (B6) (B7) (B8) w2 hk hB6 mA6 hB7 mA7 hB8 mA8 hne6_7 hne6_8 hne7_8)
    have St1_7_8 : ∀ (B7 B8 : Nat) (w' : World), Below W1.heap.size W1 w' → W1.heap.size ≤ B7 → HasN w' B7 4 36 → W1.heap.size ≤ B8 → HasN w' B8 4 36 → B7 ≠ B8 → T 6 #[true, true, true, false, true, false, false, true, true, false, false, false] { tmps := #[.agg (k32 n1), .agg (k32 n2), .agg (k32 n3), .pointer (some ⟨w.heap.size, 0, none⟩), .pointer (some ⟨w.heap.size + 1, 0, none⟩), .pointer (some ⟨w.heap.size + 1 + 1, 0, none⟩), .bool false, undef, .pointer (some ⟨B7, 0, none⟩), .pointer (some ⟨B8, 0, none⟩), undef, .agg (k32 n1), .agg (e4 a1), .agg (k32 n2), undef, .agg (k32 n3), undef, undef, undef, undef, undef, undef, undef, undef, undef, undef, undef, undef, undef, undef, undef, undef, undef, undef, undef, undef, undef, undef, undef, undef, undef, undef, undef, undef, undef, undef, undef, undef, undef, undef, undef, undef, undef, undef, undef, undef, undef, undef, undef, undef, undef, undef, undef, undef, undef, undef, undef, undef, undef, undef, undef, undef, undef, undef, undef, undef, undef, undef, undef, undef, undef, undef, undef, undef, undef, undef, undef, undef, undef, undef, undef, undef, undef, undef, undef, undef, undef, undef, undef, undef, undef, undef, undef, undef], defers := [] } w' := by
      intro B7 B8 w' hbw hB7 mA7 hB8 mA8 hne7_8
      refine (hT _ _ _ _).2 ?_
      refine wpBut_r2 (i := 3) (j := 6) (by kernel_rfl) ?_ ?_
      · refine go_call 3 14 #[true, true, true, true, true, false, false, true, true, false, false, false] rfl rfl rfl (by rfl) rfl rfl (by rfl) ent30 (by rfl) (Hf2.out _) ?_
        rintro e w2 ⟨rfl, hb⟩
        have hk := held_next hbw hb
        have mA7 := mA7.call hb
        have mA8 := mA8.call hb
        refine ⟨_, rfl, fun _ => hk, ?_⟩
        (try simp only [List.setIfInBounds_toArray, List.set_cons_succ, List.set_cons_zero])
        exact (hT _ _ _ _).1 (St1_3_7_8 (B7) (B8) w2 hk hB7 mA7 hB8 mA8 hne7_8)
      · refine go_alloc 6 7 #[true, true, true, false, true, false, true, true, true, false, false, false] rfl rfl rfl (by rfl) 36 rfl _ al36 ?_
        intro w2 hw2
        have hk := (hbw).alloc (hbw).size (.cells (#[.int .u64 0, .int .u64 0, .int .u64 0, .int .u64 0] : Array Value) 36)
        have hlt7 := mA7.lt
        have mA7 := mA7.alloc (.cells (#[.int .u64 0, .int .u64 0, .int .u64 0, .int .u64 0] : Array Value) 36)
        have hlt8 := mA8.lt
        have mA8 := mA8.alloc (.cells (#[.int .u64 0, .int .u64 0, .int .u64 0, .int .u64 0] : Array Value) 36)
        have mA6 := HasN.new (w') (#[.int .u64 0, .int .u64 0, .int .u64 0, .int .u64 0] : Array Value) 36 4 rfl
        have hB6 := (hbw).size
        rw [← hw2] at hk mA7 mA8 mA6
        have hne6_7 : w'.heap.size ≠ B7 := by omega
        have hne6_8 : w'.heap.size ≠ B8 := by omega
        clear hw2
        refine ⟨fun _ => hk, ?_⟩
        (try simp only [List.setIfInBounds_toArray, List.set_cons_succ, List.set_cons_zero])
        exact (hT _ _ _ _).1 (St1_6_7_8 (w'.heap.size) (B7) (B8) w2 hk hB6 mA6 hB7 mA7 hB8 mA8 hne6_7 hne6_8 hne7_8)
    have St1_6_8 : ∀ (B6 B8 : Nat) (w' : World), Below W1.heap.size W1 w' → W1.heap.size ≤ B6 → HasN w' B6 4 36 → W1.heap.size ≤ B8 → HasN w' B8 4 36 → B6 ≠ B8 → T 6 #[true, true, true, false, true, false, true, false, true, false, false, false] { tmps := #[.agg (k32 n1), .agg (k32 n2), .agg (k32 n3), .pointer (some ⟨w.heap.size, 0, none⟩), .pointer (some ⟨w.heap.size + 1, 0, none⟩), .pointer (some ⟨w.heap.size + 1 + 1, 0, none⟩), .bool false, .pointer (some ⟨B6, 0, none⟩), undef, .pointer (some ⟨B8, 0, none⟩), undef, .agg (k32 n1), .agg (e4 a1), .agg (k32 n2), undef, .agg (k32 n3), undef, undef, undef, undef, undef, undef, undef, undef, undef, undef, undef, undef, undef, undef, undef, undef, undef, undef, undef, undef, undef, undef, undef, undef, undef, undef, undef, undef, undef, undef, undef, undef, undef, undef, undef, undef, undef, undef, undef, undef, undef, undef, undef, undef, undef, undef, undef, undef, undef, undef, undef, undef, undef, undef, undef, undef, undef, undef, undef, undef, undef, undef, undef, undef, undef, undef, undef, undef, undef, undef, undef, undef, undef, undef, undef, undef, undef, undef, undef, undef, undef, undef, undef, undef, undef, undef, undef, undef], defers := [] } w' := by
      intro B6 B8 w' hbw hB6 mA6 hB8 mA8 hne6_8
      refine (hT _ _ _ _).2 ?_
      refine wpBut_r2 (i := 3) (j := 7) (by kernel_rfl) ?_ ?_
      · refine go_call 3 14 #[true, true, true, true, true, false, true, false, true, false, false, false] rfl rfl rfl (by rfl) rfl rfl (by rfl) ent30 (by rfl) (Hf2.out _) ?_
        rintro e w2 ⟨rfl, hb⟩
        have hk := held_next hbw hb
        have mA6 := mA6.call hb
        have mA8 := mA8.call hb
        refine ⟨_, rfl, fun _ => hk, ?_⟩
        (try simp only [List.setIfInBounds_toArray, List.set_cons_succ, List.set_cons_zero])
        exact (hT _ _ _ _).1 (St1_3_6_8 (B6) (B8) w2 hk hB6 mA6 hB8 mA8 hne6_8)
      · refine go_alloc 7 8 #[true, true, true, false, true, false, true, true, true, false, false, false] rfl rfl rfl (by rfl) 36 rfl _ al36 ?_
        intro w2 hw2
        have hk := (hbw).alloc (hbw).size (.cells (#[.int .u64 0, .int .u64 0, .int .u64 0, .int .u64 0] : Array Value) 36)
        have hlt6 := mA6.lt
        have mA6 := mA6.alloc (.cells (#[.int .u64 0, .int .u64 0, .int .u64 0, .int .u64 0] : Array Value) 36)
        have hlt8 := mA8.lt
        have mA8 := mA8.alloc (.cells (#[.int .u64 0, .int .u64 0, .int .u64 0, .int .u64 0] : Array Value) 36)
        have mA7 := HasN.new (w') (#[.int .u64 0, .int .u64 0, .int .u64 0, .int .u64 0] : Array Value) 36 4 rfl
        have hB7 := (hbw).size
        rw [← hw2] at hk mA6 mA8 mA7
        have hne6_7 : B6 ≠ w'.heap.size := by omega
        have hne7_8 : w'.heap.size ≠ B8 := by omega
        clear hw2
        refine ⟨fun _ => hk, ?_⟩
        (try simp only [List.setIfInBounds_toArray, List.set_cons_succ, List.set_cons_zero])
        exact (hT _ _ _ _).1 (St1_6_7_8 (B6) (w'.heap.size) (B8) w2 hk hB6 mA6 hB7 mA7 hB8 mA8 hne6_7 hne6_8 hne7_8)
    have St1_6_7 : ∀ (B6 B7 : Nat) (w' : World), Below W1.heap.size W1 w' → W1.heap.size ≤ B6 → HasN w' B6 4 36 → W1.heap.size ≤ B7 → HasN w' B7 4 36 → B6 ≠ B7 → T 6 #[true, true, true, false, true, false, true, true, false, false, false, false] { tmps := #[.agg (k32 n1), .agg (k32 n2), .agg (k32 n3), .pointer (some ⟨w.heap.size, 0, none⟩), .pointer (some ⟨w.heap.size + 1, 0, none⟩), .pointer (some ⟨w.heap.size + 1 + 1, 0, none⟩), .bool false, .pointer (some ⟨B6, 0, none⟩), .pointer (some ⟨B7, 0, none⟩), undef, undef, .agg (k32 n1), .agg (e4 a1), .agg (k32 n2), undef, .agg (k32 n3), undef, undef, undef, undef, undef, undef, undef, undef, undef, undef, undef, undef, undef, undef, undef, undef, undef, undef, undef, undef, undef, undef, undef, undef, undef, undef, undef, undef, undef, undef, undef, undef, undef, undef, undef, undef, undef, undef, undef, undef, undef, undef, undef, undef, undef, undef, undef, undef, undef, undef, undef, undef, undef, undef, undef, undef, undef, undef, undef, undef, undef, undef, undef, undef, undef, undef, undef, undef, undef, undef, undef, undef, undef, undef, undef, undef, undef, undef, undef, undef, undef, undef, undef, undef, undef, undef, undef, undef], defers := [] } w' := by
      intro B6 B7 w' hbw hB6 mA6 hB7 mA7 hne6_7
      refine (hT _ _ _ _).2 ?_
      refine wpBut_r2 (i := 3) (j := 8) (by kernel_rfl) ?_ ?_
      · refine go_call 3 14 #[true, true, true, true, true, false, true, true, false, false, false, false] rfl rfl rfl (by rfl) rfl rfl (by rfl) ent30 (by rfl) (Hf2.out _) ?_
        rintro e w2 ⟨rfl, hb⟩
        have hk := held_next hbw hb
        have mA6 := mA6.call hb
        have mA7 := mA7.call hb
        refine ⟨_, rfl, fun _ => hk, ?_⟩
        (try simp only [List.setIfInBounds_toArray, List.set_cons_succ, List.set_cons_zero])
        exact (hT _ _ _ _).1 (St1_3_6_7 (B6) (B7) w2 hk hB6 mA6 hB7 mA7 hne6_7)
      · refine go_alloc 8 9 #[true, true, true, false, true, false, true, true, true, false, false, false] rfl rfl rfl (by rfl) 36 rfl _ al36 ?_
        intro w2 hw2
        have hk := (hbw).alloc (hbw).size (.cells (#[.int .u64 0, .int .u64 0, .int .u64 0, .int .u64 0] : Array Value) 36)
        have hlt6 := mA6.lt
        have mA6 := mA6.alloc (.cells (#[.int .u64 0, .int .u64 0, .int .u64 0, .int .u64 0] : Array Value) 36)
        have hlt7 := mA7.lt
        have mA7 := mA7.alloc (.cells (#[.int .u64 0, .int .u64 0, .int .u64 0, .int .u64 0] : Array Value) 36)
        have mA8 := HasN.new (w') (#[.int .u64 0, .int .u64 0, .int .u64 0, .int .u64 0] : Array Value) 36 4 rfl
        have hB8 := (hbw).size
        rw [← hw2] at hk mA6 mA7 mA8
        have hne6_8 : B6 ≠ w'.heap.size := by omega
        have hne7_8 : B7 ≠ w'.heap.size := by omega
        clear hw2
        refine ⟨fun _ => hk, ?_⟩
        (try simp only [List.setIfInBounds_toArray, List.set_cons_succ, List.set_cons_zero])
        exact (hT _ _ _ _).1 (St1_6_7_8 (B6) (B7) (w'.heap.size) w2 hk hB6 mA6 hB7 mA7 hB8 mA8 hne6_7 hne6_8 hne7_8)
    have St1_3_8 : ∀ (B8 : Nat) (w' : World), Below W1.heap.size W1 w' → W1.heap.size ≤ B8 → HasN w' B8 4 36 → T 6 #[true, true, true, true, true, false, false, false, true, false, false, false] { tmps := #[.agg (k32 n1), .agg (k32 n2), .agg (k32 n3), .pointer (some ⟨w.heap.size, 0, none⟩), .pointer (some ⟨w.heap.size + 1, 0, none⟩), .pointer (some ⟨w.heap.size + 1 + 1, 0, none⟩), .bool false, undef, undef, .pointer (some ⟨B8, 0, none⟩), undef, .agg (k32 n1), .agg (e4 a1), .agg (k32 n2), .agg (e4 a2), .agg (k32 n3), undef, undef, undef, undef, undef, undef, undef, undef, undef, undef, undef, undef, undef, undef, undef, undef, undef, undef, undef, undef, undef, undef, undef, undef, undef, undef, undef, undef, undef, undef, undef, undef, undef, undef, undef, undef, undef, undef, undef, undef, undef, undef, undef, undef, undef, undef, undef, undef, undef, undef, undef, undef, undef, undef, undef, undef, undef, undef, undef, undef, undef, undef, undef, undef, undef, undef, undef, undef, undef, undef, undef, undef, undef, undef, undef, undef, undef, undef, undef, undef, undef, undef, undef, undef, undef, undef, undef, undef], defers := [] } w' := by
      intro B8 w' hbw hB8 mA8
      refine (hT _ _ _ _).2 ?_
      refine wpBut_r3 (i := 5) (j := 6) (l := 7) (by kernel_rfl) ?_ ?_ ?_
      · refine go_call 5 16 #[true, true, true, true, true, true, false, false, true, false, false, false] rfl rfl rfl (by rfl) rfl rfl (by rfl) ent30 (by rfl) (Hf3.out _) ?_
        rintro e w2 ⟨rfl, hb⟩
        have hk := held_next hbw hb
        have mA8 := mA8.call hb
        refine ⟨_, rfl, fun _ => hk, ?_⟩
        (try simp only [List.setIfInBounds_toArray, List.set_cons_succ, List.set_cons_zero])
        exact (hT _ _ _ _).1 (St1_3_5_8 (B8) w2 hk hB8 mA8)
      · refine go_alloc 6 7 #[true, true, true, true, true, false, true, false, true, false, false, false] rfl rfl rfl (by rfl) 36 rfl _ al36 ?_
        intro w2 hw2
        have hk := (hbw).alloc (hbw).size (.cells (#[.int .u64 0, .int .u64 0, .int .u64 0, .int .u64 0] : Array Value) 36)
        have hlt8 := mA8.lt
        have mA8 := mA8.alloc (.cells (#[.int .u64 0, .int .u64 0, .int .u64 0, .int .u64 0] : Array Value) 36)
        have mA6 := HasN.new (w') (#[.int .u64 0, .int .u64 0, .int .u64 0, .int .u64 0] : Array Value) 36 4 rfl
        have hB6 := (hbw).size
        rw [← hw2] at hk mA8 mA6
        have hne6_8 : w'.heap.size ≠ B8 := by omega
        clear hw2
        refine ⟨fun _ => hk, ?_⟩
        (try simp only [List.setIfInBounds_toArray, List.set_cons_succ, List.set_cons_zero])
        exact (hT _ _ _ _).1 (St1_3_6_8 (w'.heap.size) (B8) w2 hk hB6 mA6 hB8 mA8 hne6_8)
      · refine go_alloc 7 8 #[true, true, true, true, true, false, false, true, true, false, false, false] rfl rfl rfl (by rfl) 36 rfl _ al36 ?_
        intro w2 hw2
        have hk := (hbw).alloc (hbw).size (.cells (#[.int .u64 0, .int .u64 0, .int .u64 0, .int .u64 0] : Array Value) 36)
        have hlt8 := mA8.lt
        have mA8 := mA8.alloc (.cells (#[.int .u64 0, .int .u64 0, .int .u64 0, .int .u64 0] : Array Value) 36)
        have mA7 := HasN.new (w') (#[.int .u64 0, .int .u64 0, .int .u64 0, .int .u64 0] : Array Value) 36 4 rfl
        have hB7 := (hbw).size
        rw [← hw2] at hk mA8 mA7
        have hne7_8 : w'.heap.size ≠ B8 := by omega
        clear hw2
        refine ⟨fun _ => hk, ?_⟩
        (try simp only [List.setIfInBounds_toArray, List.set_cons_succ, List.set_cons_zero])
        exact (hT _ _ _ _).1 (St1_3_7_8 (w'.heap.size) (B8) w2 hk hB7 mA7 hB8 mA8 hne7_8)
    have St1_3_7 : ∀ (B7 : Nat) (w' : World), Below W1.heap.size W1 w' → W1.heap.size ≤ B7 → HasN w' B7 4 36 → T 6 #[true, true, true, true, true, false, false, true, false, false, false, false] { tmps := #[.agg (k32 n1), .agg (k32 n2), .agg (k32 n3), .pointer (some ⟨w.heap.size, 0, none⟩), .pointer (some ⟨w.heap.size + 1, 0, none⟩), .pointer (some ⟨w.heap.size + 1 + 1, 0, none⟩), .bool false, undef, .pointer (some ⟨B7, 0, none⟩), undef, undef, .agg (k32 n1), .agg (e4 a1), .agg (k32 n2), .agg (e4 a2), .agg (k32 n3), undef, undef, undef, undef, undef, undef, undef, undef, undef, undef, undef, undef, undef, undef, undef, undef, undef, undef, undef, undef, undef, undef, undef, undef, undef, undef, undef, undef, undef, undef, undef, undef, undef, undef, undef, undef, undef, undef, undef, undef, undef, undef, undef, undef, undef, undef, undef, undef, undef, undef, undef, undef, undef, undef, undef, undef, undef, undef, undef, undef, undef, undef, undef, undef, undef, undef, undef, undef, undef, undef, undef, undef, undef, undef, undef, undef, undef, undef, undef, undef, undef, undef, undef, undef, undef, undef, undef, undef], defers := [] } w' := by
      intro B7 w' hbw hB7 mA7
      refine (hT _ _ _ _).2 ?_
      refine wpBut_r3 (i := 5) (j := 6) (l := 8) (by kernel_rfl) ?_ ?_ ?_
      · refine go_call 5 16 #[true, true, true, true, true, true, false, true, false, false, false, false] rfl rfl rfl (by rfl) rfl rfl (by rfl) ent30 (by rfl) (Hf3.out _) ?_
        rintro e w2 ⟨rfl, hb⟩
        have hk := held_next hbw hb
        have mA7 := mA7.call hb
        refine ⟨_, rfl, fun _ => hk, ?_⟩
        (try simp only [List.setIfInBounds_toArray, List.set_cons_succ, List.set_cons_zero])
        exact (hT _ _ _ _).1 (St1_3_5_7 (B7) w2 hk hB7 mA7)
      · refine go_alloc 6 7 #[true, true, true, true, true, false, true, true, false, false, false, false] rfl rfl rfl (by rfl) 36 rfl _ al36 ?_
        intro w2 hw2
        have hk := (hbw).alloc (hbw).size (.cells (#[.int .u64 0, .int .u64 0, .int .u64 0, .int .u64 0] : Array Value) 36)
        have hlt7 := mA7.lt
        have mA7 := mA7.alloc (.cells (#[.int .u64 0, .int .u64 0, .int .u64 0, .int .u64 0] : Array Value) 36)
        have mA6 := HasN.new (w') (#[.int .u64 0, .int .u64 0, .int .u64 0, .int .u64 0] : Array Value) 36 4 rfl
        have hB6 := (hbw).size
        rw [← hw2] at hk mA7 mA6
        have hne6_7 : w'.heap.size ≠ B7 := by omega
        clear hw2
        refine ⟨fun _ => hk, ?_⟩
        (try simp only [List.setIfInBounds_toArray, List.set_cons_succ, List.set_cons_zero])
        exact (hT _ _ _ _).1 (St1_3_6_7 (w'.heap.size) (B7) w2 hk hB6 mA6 hB7 mA7 hne6_7)
      · refine go_alloc 8 9 #[true, true, true, true, true, false, false, true, true, false, false, false] rfl rfl rfl (by rfl) 36 rfl _ al36 ?_
        intro w2 hw2
        have hk := (hbw).alloc (hbw).size (.cells (#[.int .u64 0, .int .u64 0, .int .u64 0, .int .u64 0] : Array Value) 36)
        have hlt7 := mA7.lt
        have mA7 := mA7.alloc (.cells (#[.int .u64 0, .int .u64 0, .int .u64 0, .int .u64 0] : Array Value) 36)
        have mA8 := HasN.new (w') (#[.int .u64 0, .int .u64 0, .int .u64 0, .int .u64 0] : Array Value) 36 4 rfl
        have hB8 := (hbw).size
        rw [← hw2] at hk mA7 mA8
        have hne7_8 : B7 ≠ w'.heap.size := by omega
        clear hw2
        refine ⟨fun _ => hk, ?_⟩
        (try simp only [List.setIfInBounds_toArray, List.set_cons_succ, List.set_cons_zero])
        exact (hT _ _ _ _).1 (St1_3_7_8 (B7) (w'.heap.size) w2 hk hB7 mA7 hB8 mA8 hne7_8)
    have St1_3_6 : ∀ (B6 : Nat) (w' : World), Below W1.heap.size W1 w' → W1.heap.size ≤ B6 → HasN w' B6 4 36 → T 6 #[true, true, true, true, true, false, true, false, false, false, false, false] { tmps := #[.agg (k32 n1), .agg (k32 n2), .agg (k32 n3), .pointer (some ⟨w.heap.size, 0, none⟩), .pointer (some ⟨w.heap.size + 1, 0, none⟩), .pointer (some ⟨w.heap.size + 1 + 1, 0, none⟩), .bool false, .pointer (some ⟨B6, 0, none⟩), undef, undef, undef, .agg (k32 n1), .agg (e4 a1), .agg (k32 n2), .agg (e4 a2), .agg (k32 n3), undef, undef, undef, undef, undef, undef, undef, undef, undef, undef, undef, undef, undef, undef, undef, undef, undef, undef, undef, undef, undef, undef, undef, undef, undef, undef, undef, undef, undef, undef, undef, undef, undef, undef, undef, undef, undef, undef, undef, undef, undef, undef, undef, undef, undef, undef, undef, undef, undef, undef, undef, undef, undef, undef, undef, undef, undef, undef, undef, undef, undef, undef, undef, undef, undef, undef, undef, undef, undef, undef, undef, undef, undef, undef, undef, undef, undef, undef, undef, undef, undef, undef, undef, undef, undef, undef, undef, undef], defers := [] } w' := by
      intro B6 w' hbw hB6 mA6
      refine (hT _ _ _ _).2 ?_
      refine wpBut_r3 (i := 5) (j := 7) (l := 8) (by kernel_rfl) ?_ ?_ ?_
      · refine go_call 5 16 #[true, true, true, true, true, true, true, false, false, false, false, false] rfl rfl rfl (by rfl) rfl rfl (by rfl) ent30 (by rfl) (Hf3.out _) ?_
        rintro e w2 ⟨rfl, hb⟩
        have hk := held_next hbw hb
        have mA6 := mA6.call hb
        refine ⟨_, rfl, fun _ => hk, ?_⟩
        (try simp only [List.setIfInBounds_toArray, List.set_cons_succ, List.set_cons_zero])
        exact (hT _ _ _ _).1 (St1_3_5_6 (B6) w2 hk hB6 mA6)
      · refine go_alloc 7 8 #[true, true, true, true, true, false, true, true, false, false, false, false] rfl rfl rfl (by rfl) 36 rfl _ al36 ?_
        intro w2 hw2
        have hk := (hbw).alloc (hbw).size (.cells (#[.int .u64 0, .int .u64 0, .int .u64 0, .int .u64 0] : Array Value) 36)
        have hlt6 := mA6.lt
        have mA6 := mA6.alloc (.cells (#[.int .u64 0, .int .u64 0, .int .u64 0, .int .u64 0] : Array Value) 36)
        have mA7 := HasN.new (w') (#[.int .u64 0, .int .u64 0, .int .u64 0, .int .u64 0] : Array Value) 36 4 rfl
        have hB7 := (hbw).size
        rw [← hw2] at hk mA6 mA7
        have hne6_7 : B6 ≠ w'.heap.size := by omega
        clear hw2
        refine ⟨fun _ => hk, ?_⟩
        (try simp only [List.setIfInBounds_toArray, List.set_cons_succ, List.set_cons_zero])
        exact (hT _ _ _ _).1 (St1_3_6_7 (B6) (w'.heap.size) w2 hk hB6 mA6 hB7 mA7 hne6_7)
      · refine go_alloc 8 9 #[true, true, true, true, true, false, true, false, true, false, false, false] rfl rfl rfl (by rfl) 36 rfl _ al36 ?_
        intro w2 hw2
        have hk := (hbw).alloc (hbw).size (.cells (#[.int .u64 0, .int .u64 0, .int .u64 0, .int .u64 0] : Array Value) 36)
        have hlt6 := mA6.lt
        have mA6 := mA6.alloc (.cells (#[.int .u64 0, .int .u64 0, .int .u64 0, .int .u64 0] : Array Value) 36)
        have mA8 := HasN.new (w') (#[.int .u64 0, .int .u64 0, .int .u64 0, .int .u64 0] : Array Value) 36 4 rfl
        have hB8 := (hbw).size
        rw [← hw2] at hk mA6 mA8
        have hne6_8 : B6 ≠ w'.heap.size := by omega
        clear hw2
        refine ⟨fun _ => hk, ?_⟩
        (try simp only [List.setIfInBounds_toArray, List.set_cons_succ, List.set_cons_zero])
        exact (hT _ _ _ _).1 (St1_3_6_8 (B6) (w'.heap.size) w2 hk hB6 mA6 hB8 mA8 hne6_8)
    have St1_3_5 : ∀  (w' : World), Below W1.heap.size W1 w' → T 6 #[true, true, true, true, true, true, false, false, false, false, false, false] { tmps := #[.agg (k32 n1), .agg (k32 n2), .agg (k32 n3), .pointer (some ⟨w.heap.size, 0, none⟩), .pointer (some ⟨w.heap.size + 1, 0, none⟩), .pointer (some ⟨w.heap.size + 1 + 1, 0, none⟩), .bool false, undef, undef, undef, undef, .agg (k32 n1), .agg (e4 a1), .agg (k32 n2), .agg (e4 a2), .agg (k32 n3), .agg (e4 a3), undef, undef, undef, undef, undef, undef, undef, undef, undef, undef, undef, undef, undef, undef, undef, undef, undef, undef, undef, undef, undef, undef, undef, undef, undef, undef, undef, undef, undef, undef, undef, undef, undef, undef, undef, undef, undef, undef, undef, undef, undef, undef, undef, undef, undef, undef, undef, undef, undef, undef, undef, undef, undef, undef, undef, undef, undef, undef, undef, undef, undef, undef, undef, undef, undef, undef, undef, undef, undef, undef, undef, undef, undef, undef, undef, undef, undef, undef, undef, undef, undef, undef, undef, undef, undef, undef, undef], defers := [] } w' := by
      intro  w' hbw
      refine (hT _ _ _ _).2 ?_
      refine wpBut_r3 (i := 6) (j := 7) (l := 8) (by kernel_rfl) ?_ ?_ ?_
      · refine go_alloc 6 7 #[true, true, true, true, true, true, true, false, false, false, false, false] rfl rfl rfl (by rfl) 36 rfl _ al36 ?_
        intro w2 hw2
        have hk := (hbw).alloc (hbw).size (.cells (#[.int .u64 0, .int .u64 0, .int .u64 0, .int .u64 0] : Array Value) 36)
        have mA6 := HasN.new (w') (#[.int .u64 0, .int .u64 0, .int .u64 0, .int .u64 0] : Array Value) 36 4 rfl
        have hB6 := (hbw).size
        rw [← hw2] at hk mA6
        clear hw2
        refine ⟨fun _ => hk, ?_⟩
        (try simp only [List.setIfInBounds_toArray, List.set_cons_succ, List.set_cons_zero])
        exact (hT _ _ _ _).1 (St1_3_5_6 (w'.heap.size) w2 hk hB6 mA6)
      · refine go_alloc 7 8 #[true, true, true, true, true, true, false, true, false, false, false, false] rfl rfl rfl (by rfl) 36 rfl _ al36 ?_
        intro w2 hw2
        have hk := (hbw).alloc (hbw).size (.cells (#[.int .u64 0, .int .u64 0, .int .u64 0, .int .u64 0] : Array Value) 36)
        have mA7 := HasN.new (w') (#[.int .u64 0, .int .u64 0, .int .u64 0, .int .u64 0] : Array Value) 36 4 rfl
        have hB7 := (hbw).size
        rw [← hw2] at hk mA7
        clear hw2
        refine ⟨fun _ => hk, ?_⟩
        (try simp only [List.setIfInBounds_toArray, List.set_cons_succ, List.set_cons_zero])
        exact (hT _ _ _ _).1 (St1_3_5_7 (w'.heap.size) w2 hk hB7 mA7)
      · refine go_alloc 8 9 #[true, true, true, true, true, true, false, false, true, false, false, false] rfl rfl rfl (by rfl) 36 rfl _ al36 ?_
        intro w2 hw2
        have hk := (hbw).alloc (hbw).size (.cells (#[.int .u64 0, .int .u64 0, .int .u64 0, .int .u64 0] : Array Value) 36)
        have mA8 := HasN.new (w') (#[.int .u64 0, .int .u64 0, .int .u64 0, .int .u64 0] : Array Value) 36 4 rfl
        have hB8 := (hbw).size
        rw [← hw2] at hk mA8
        clear hw2
        refine ⟨fun _ => hk, ?_⟩
        (try simp only [List.setIfInBounds_toArray, List.set_cons_succ, List.set_cons_zero])
        exact (hT _ _ _ _).1 (St1_3_5_8 (w'.heap.size) w2 hk hB8 mA8)
    have St7_8 : ∀ (B7 B8 : Nat) (w' : World), Below W1.heap.size W1 w' → W1.heap.size ≤ B7 → HasN w' B7 4 36 → W1.heap.size ≤ B8 → HasN w' B8 4 36 → B7 ≠ B8 → T 7 #[true, false, true, false, true, false, false, true, true, false, false, false] { tmps := #[.agg (k32 n1), .agg (k32 n2), .agg (k32 n3), .pointer (some ⟨w.heap.size, 0, none⟩), .pointer (some ⟨w.heap.size + 1, 0, none⟩), .pointer (some ⟨w.heap.size + 1 + 1, 0, none⟩), .bool false, undef, .pointer (some ⟨B7, 0, none⟩), .pointer (some ⟨B8, 0, none⟩), undef, .agg (k32 n1), undef, .agg (k32 n2), undef, .agg (k32 n3), undef, undef, undef, undef, undef, undef, undef, undef, undef, undef, undef, undef, undef, undef, undef, undef, undef, undef, undef, undef, undef, undef, undef, undef, undef, undef, undef, undef, undef, undef, undef, undef, undef, undef, undef, undef, undef, undef, undef, undef, undef, undef, undef, undef, undef, undef, undef, undef, undef, undef, undef, undef, undef, undef, undef, undef, undef, undef, undef, undef, undef, undef, undef, undef, undef, undef, undef, undef, undef, undef, undef, undef, undef, undef, undef, undef, undef, undef, undef, undef, undef, undef, undef, undef, undef, undef, undef, undef], defers := [] } w' := by
      intro B7 B8 w' hbw hB7 mA7 hB8 mA8 hne7_8
      refine (hT _ _ _ _).2 ?_
      refine wpBut_r2 (i := 1) (j := 6) (by kernel_rfl) ?_ ?_
      · refine go_call 1 12 #[true, true, true, false, true, false, false, true, true, false, false, false] rfl rfl rfl (by rfl) rfl rfl (by rfl) ent30 (by rfl) (Hf1.out _) ?_
        rintro e w2 ⟨rfl, hb⟩
        have hk := held_next hbw hb
        have mA7 := mA7.call hb
        have mA8 := mA8.call hb
        refine ⟨_, rfl, fun _ => hk, ?_⟩
        (try simp only [List.setIfInBounds_toArray, List.set_cons_succ, List.set_cons_zero])
        exact (hT _ _ _ _).1 (St1_7_8 (B7) (B8) w2 hk hB7 mA7 hB8 mA8 hne7_8)
      · refine go_alloc 6 7 #[true, false, true, false, true, false, true, true, true, false, false, false] rfl rfl rfl (by rfl) 36 rfl _ al36 ?_
        intro w2 hw2
        have hk := (hbw).alloc (hbw).size (.cells (#[.int .u64 0, .int .u64 0, .int .u64 0, .int .u64 0] : Array Value) 36)
        have hlt7 := mA7.lt
        have mA7 := mA7.alloc (.cells (#[.int .u64 0, .int .u64 0, .int .u64 0, .int .u64 0] : Array Value) 36)
        have hlt8 := mA8.lt
        have mA8 := mA8.alloc (.cells (#[.int .u64 0, .int .u64 0, .int .u64 0, .int .u64 0] : Array Value) 36)
        have mA6 := HasN.new (w') (#[.int .u64 0, .int .u64 0, .int .u64 0, .int .u64 0] : Array Value) 36 4 rfl
        have hB6 := (hbw).size
        rw [← hw2] at hk mA7 mA8 mA6
        have hne6_7 : w'.heap.size ≠ B7 := by omega
        have hne6_8 : w'.heap.size ≠ B8 := by omega
        clear hw2
        refine ⟨fun _ => hk, ?_⟩
        (try simp only [List.setIfInBounds_toArray, List.set_cons_succ, List.set_cons_zero])
        exact (hT _ _ _ _).1 (St6_7_8 (w'.heap.size) (B7) (B8) w2 hk hB6 mA6 hB7 mA7 hB8 mA8 hne6_7 hne6_8 hne7_8)
    have St6_8 : ∀ (B6 B8 : Nat) (w' : World), Below W1.heap.size W1 w' → W1.heap.size ≤ B6 → HasN w' B6 4 36 → W1.heap.size ≤ B8 → HasN w' B8 4 36 → B6 ≠ B8 → T 7 #[true, false, true, false, true, false, true, false, true, false, false, false] { tmps := #[.agg (k32 n1), .agg (k32 n2), .agg (k32 n3), .pointer (some ⟨w.heap.size, 0, none⟩), .pointer (some ⟨w.heap.size + 1, 0, none⟩), .pointer (some ⟨w.heap.size + 1 + 1, 0, none⟩), .bool false, .pointer (some ⟨B6, 0, none⟩), undef, .pointer (some ⟨B8, 0, none⟩), undef, .agg (k32 n1), undef, .agg (k32 n2), undef, .agg (k32 n3), undef, undef, undef, undef, undef, undef, undef, undef, undef, undef, undef, undef, undef, undef, undef, undef, undef, undef, undef, undef, undef, undef, undef, undef, undef, undef, undef, undef, undef, undef, undef, undef, undef, undef, undef, undef, undef, undef, undef, undef, undef, undef, undef, undef, undef, undef, undef, undef, undef, undef, undef, undef, undef, undef, undef, undef, undef, undef, undef, undef, undef, undef, undef, undef, undef, undef, undef, undef, undef, undef, undef, undef, undef, undef, undef, undef, undef, undef, undef, undef, undef, undef, undef, undef, undef, undef, undef, undef], defers := [] } w' := by
      intro B6 B8 w' hbw hB6 mA6 hB8 mA8 hne6_8
      refine (hT _ _ _ _).2 ?_
      refine wpBut_r2 (i := 1) (j := 7) (by kernel_rfl) ?_ ?_
      · refine go_call 1 12 #[true, true, true, false, true, false, true, false, true, false, false, false] rfl rfl rfl (by rfl) rfl rfl (by rfl) ent30 (by rfl) (Hf1.out _) ?_
        rintro e w2 ⟨rfl, hb⟩
        have hk := held_next hbw hb
        have mA6 := mA6.call hb
        have mA8 := mA8.call hb
        refine ⟨_, rfl, fun _ => hk, ?_⟩
        (try simp only [List.setIfInBounds_toArray, List.set_cons_succ, List.set_cons_zero])
        exact (hT _ _ _ _).1 (St1_6_8 (B6) (B8) w2 hk hB6 mA6 hB8 mA8 hne6_8)
      · refine go_alloc 7 8 #[true, false, true, false, true, false, true, true, true, false, false, false] rfl rfl rfl (by rfl) 36 rfl _ al36 ?_
        intro w2 hw2
        have hk := (hbw).alloc (hbw).size (.cells (#[.int .u64 0, .int .u64 0, .int .u64 0, .int .u64 0] : Array Value) 36)
        have hlt6 := mA6.lt
        have mA6 := mA6.alloc (.cells (#[.int .u64 0, .int .u64 0, .int .u64 0, .int .u64 0] : Array Value) 36)
        have hlt8 := mA8.lt
        have mA8 := mA8.alloc (.cells (#[.int .u64 0, .int .u64 0, .int .u64 0, .int .u64 0] : Array Value) 36)
        have mA7 := HasN.new (w') (#[.int .u64 0, .int .u64 0, .int .u64 0, .int .u64 0] : Array Value) 36 4 rfl
        have hB7 := (hbw).size
        rw [← hw2] at hk mA6 mA8 mA7
        have hne6_7 : B6 ≠ w'.heap.size := by omega
        have hne7_8 : w'.heap.size ≠ B8 := by omega
        clear hw2
        refine ⟨fun _ => hk, ?_⟩
        (try simp only [List.setIfInBounds_toArray, List.set_cons_succ, List.set_cons_zero])
        exact (hT _ _ _ _).1 (St6_7_8 (B6) (w'.heap.size) (B8) w2 hk hB6 mA6 hB7 mA7 hB8 mA8 hne6_7 hne6_8 hne7_8)
    have St6_7 : ∀ (B6 B7 : Nat) (w' : World), Below W1.heap.size W1 w' → W1.heap.size ≤ B6 → HasN w' B6 4 36 → W1.heap.size ≤ B7 → HasN w' B7 4 36 → B6 ≠ B7 → T 7 #[true, false, true, false, true, false, true, true, false, false, false, false] { tmps := #[.agg (k32 n1), .agg (k32 n2), .agg (k32 n3), .pointer (some ⟨w.heap.size, 0, none⟩), .pointer (some ⟨w.heap.size + 1, 0, none⟩), .pointer (some ⟨w.heap.size + 1 + 1, 0, none⟩), .bool false, .pointer (some ⟨B6, 0, none⟩), .pointer (some ⟨B7, 0, none⟩), undef, undef, .agg (k32 n1), undef, .agg (k32 n2), undef, .agg (k32 n3), undef, undef, undef, undef, undef, undef, undef, undef, undef, undef, undef, undef, undef, undef, undef, undef, undef, undef, undef, undef, undef, undef, undef, undef, undef, undef, undef, undef, undef, undef, undef, undef, undef, undef, undef, undef, undef, undef, undef, undef, undef, undef, undef, undef, undef, undef, undef, undef, undef, undef, undef, undef, undef, undef, undef, undef, undef, undef, undef, undef, undef, undef, undef, undef, undef, undef, undef, undef, undef, undef, undef, undef, undef, undef, undef, undef, undef, undef, undef, undef, undef, undef, undef, undef, undef, undef, undef, undef], defers := [] } w' := by
      intro B6 B7 w' hbw hB6 mA6 hB7 mA7 hne6_7
      refine (hT _ _ _ _).2 ?_
      refine wpBut_r2 (i := 1) (j := 8) (by kernel_rfl) ?_ ?_
      · refine go_call 1 12 #[true, true, true, false, true, false, true, true, false, false, false, false] rfl rfl rfl (by rfl) rfl rfl (by rfl) ent30 (by rfl) (Hf1.out _) ?_
        rintro e w2 ⟨rfl, hb⟩
        have hk := held_next hbw hb
        have mA6 := mA6.call hb
        have mA7 := mA7.call hb
        refine ⟨_, rfl, fun _ => hk, ?_⟩
        (try simp only [List.setIfInBounds_toArray, List.set_cons_succ, List.set_cons_zero])
        exact (hT _ _ _ _).1 (St1_6_7 (B6) (B7) w2 hk hB6 mA6 hB7 mA7 hne6_7)
      · refine go_alloc 8 9 #[true, false, true, false, true, false, true, true, true, false, false, false] rfl rfl rfl (by rfl) 36 rfl _ al36 ?_
        intro w2 hw2
        have hk := (hbw).alloc (hbw).size (.cells (#[.int .u64 0, .int .u64 0, .int .u64 0, .int .u64 0] : Array Value) 36)
        have hlt6 := mA6.lt
        have mA6 := mA6.alloc (.cells (#[.int .u64 0, .int .u64 0, .int .u64 0, .int .u64 0] : Array Value) 36)
        have hlt7 := mA7.lt
        have mA7 := mA7.alloc (.cells (#[.int .u64 0, .int .u64 0, .int .u64 0, .int .u64 0] : Array Value) 36)
        have mA8 := HasN.new (w') (#[.int .u64 0, .int .u64 0, .int .u64 0, .int .u64 0] : Array Value) 36 4 rfl
        have hB8 := (hbw).size
        rw [← hw2] at hk mA6 mA7 mA8
        have hne6_8 : B6 ≠ w'.heap.size := by omega
        have hne7_8 : B7 ≠ w'.heap.size := by omega
        clear hw2
        refine ⟨fun _ => hk, ?_⟩
        (try simp only [List.setIfInBounds_toArray, List.set_cons_succ, List.set_cons_zero])
        exact (hT _ _ _ _).1 (St6_7_8 (B6) (B7) (w'.heap.size) w2 hk hB6 mA6 hB7 mA7 hB8 mA8 hne6_7 hne6_8 hne7_8)
    have St1_8 : ∀ (B8 : Nat) (w' : World), Below W1.heap.size W1 w' → W1.heap.size ≤ B8 → HasN w' B8 4 36 → T 7 #[true, true, true, false, true, false, false, false, true, false, false, false] { tmps := #[.agg (k32 n1), .agg (k32 n2), .agg (k32 n3), .pointer (some ⟨w.heap.size, 0, none⟩), .pointer (some ⟨w.heap.size + 1, 0, none⟩), .pointer (some ⟨w.heap.size + 1 + 1, 0, none⟩), .bool false, undef, undef, .pointer (some ⟨B8, 0, none⟩), undef, .agg (k32 n1), .agg (e4 a1), .agg (k32 n2), undef, .agg (k32 n3), undef, undef, undef, undef, undef, undef, undef, undef, undef, undef, undef, undef, undef, undef, undef, undef, undef, undef, undef, undef, undef, undef, undef, undef, undef, undef, undef, undef, undef, undef, undef, undef, undef, undef, undef, undef, undef, undef, undef, undef, undef, undef, undef, undef, undef, undef, undef, undef, undef, undef, undef, undef, undef, undef, undef, undef, undef, undef, undef, undef, undef, undef, undef, undef, undef, undef, undef, undef, undef, undef, undef, undef, undef, undef, undef, undef, undef, undef, undef, undef, undef, undef, undef, undef, undef, undef, undef, undef], defers := [] } w' := by
      intro B8 w' hbw hB8 mA8
      refine (hT _ _ _ _).2 ?_
      refine wpBut_r3 (i := 3) (j := 6) (l := 7) (by kernel_rfl) ?_ ?_ ?_
      · refine go_call 3 14 #[true, true, true, true, true, false, false, false, true, false, false, false] rfl rfl rfl (by rfl) rfl rfl (by rfl) ent30 (by rfl) (Hf2.out _) ?_
        rintro e w2 ⟨rfl, hb⟩
        have hk := held_next hbw hb
        have mA8 := mA8.call hb
        refine ⟨_, rfl, fun _ => hk, ?_⟩
        (try simp only [List.setIfInBounds_toArray, List.set_cons_succ, List.set_cons_zero])
        exact (hT _ _ _ _).1 (St1_3_8 (B8) w2 hk hB8 mA8)
      · refine go_alloc 6 7 #[true, true, true, false, true, false, true, false, true, false, false, false] rfl rfl rfl (by rfl) 36 rfl _ al36 ?_
        intro w2 hw2
        have hk := (hbw).alloc (hbw).size (.cells (#[.int .u64 0, .int .u64 0, .int .u64 0, .int .u64 0] : Array Value) 36)
        have hlt8 := mA8.lt
        have mA8 := mA8.alloc (.cells (#[.int .u64 0, .int .u64 0, .int .u64 0, .int .u64 0] : Array Value) 36)
        have mA6 := HasN.new (w') (#[.int .u64 0, .int .u64 0, .int .u64 0, .int .u64 0] : Array Value) 36 4 rfl
        have hB6 := (hbw).size
        rw [← hw2] at hk mA8 mA6
        have hne6_8 : w'.heap.size ≠ B8 := by omega
        clear hw2
        refine ⟨fun _ => hk, ?_⟩
        (try simp only [List.setIfInBounds_toArray, List.set_cons_succ, List.set_cons_zero])
        exact (hT _ _ _ _).1 (St1_6_8 (w'.heap.size) (B8) w2 hk hB6 mA6 hB8 mA8 hne6_8)
      · refine go_alloc 7 8 #[true, true, true, false, true, false, false, true, true, false, false, false] rfl rfl rfl (by rfl) 36 rfl _ al36 ?_
        intro w2 hw2
        have hk := (hbw).alloc (hbw).size (.cells (#[.int .u64 0, .int .u64 0, .int .u64 0, .int .u64 0] : Array Value) 36)
        have hlt8 := mA8.lt
        have mA8 := mA8.alloc (.cells (#[.int .u64 0, .int .u64 0, .int .u64 0, .int .u64 0] : Array Value) 36)
        have mA7 := HasN.new (w') (#[.int .u64 0, .int .u64 0, .int .u64 0, .int .u64 0] : Array Value) 36 4 rfl
        have hB7 := (hbw).size
        rw [← hw2] at hk mA8 mA7
        have hne7_8 : w'.heap.size ≠ B8 := by omega
        clear hw2
        refine ⟨fun _ => hk, ?_⟩
        (try simp only [List.setIfInBounds_toArray, List.set_cons_succ, List.set_cons_zero])
        exact (hT _ _ _ _).1 (St1_7_8 (w'.heap.size) (B8) w2 hk hB7 mA7 hB8 mA8 hne7_8)
    have St1_7 : ∀ (B7 : Nat) (w' : World), Below W1.heap.size W1 w' → W1.heap.size ≤ B7 → HasN w' B7 4 36 → T 7 #[true, true, true, false, true, false, false, true, false, false, false, false] { tmps := #[.agg (k32 n1), .agg (k32 n2), .agg (k32 n3), .pointer (some ⟨w.heap.size, 0, none⟩), .pointer (some ⟨w.heap.size + 1, 0, none⟩), .pointer (some ⟨w.heap.size + 1 + 1, 0, none⟩), .bool false, undef, .pointer (some ⟨B7, 0, none⟩), undef, undef, .agg (k32 n1), .agg (e4 a1), .agg (k32 n2), undef, .agg (k32 n3), undef, undef, undef, undef, undef, undef, undef, undef, undef, undef, undef, undef, undef, undef, undef, undef, undef, undef, undef, undef, undef, undef, undef, undef, undef, undef, undef, undef, undef, undef, undef, undef, undef, undef, undef, undef, undef, undef, undef, undef, undef, undef, undef, undef, undef, undef, undef, undef, undef, undef, undef, undef, undef, undef, undef, undef, undef, undef, undef, undef, undef, undef, undef, undef, undef, undef, undef, undef, undef, undef, undef, undef, undef, undef, undef, undef, undef, undef, undef, undef, undef, undef, undef, undef, undef, undef, undef, undef], defers := [] } w' := by
      intro B7 w' hbw hB7 mA7
      refine (hT _ _ _ _).2 ?_
      refine wpBut_r3 (i := 3) (j := 6) (l := 8) (by kernel_rfl) ?_ ?_ ?_
      · refine go_call 3 14 #[true, true, true, true, true, false, false, true, false, false, false, false] rfl rfl rfl (by rfl) rfl rfl (by rfl) ent30 (by rfl) (Hf2.out _) ?_
        rintro e w2 ⟨rfl, hb⟩
        have hk := held_next hbw hb
        have mA7 := mA7.call hb
        refine ⟨_, rfl, fun _ => hk, ?_⟩
        (try simp only [List.setIfInBounds_toArray, List.set_cons_succ, List.set_cons_zero])
        exact (hT _ _ _ _).1 (St1_3_7 (B7) w2 hk hB7 mA7)
      · refine go_alloc 6 7 #[true, true, true, false, true, false, true, true, false, false, false, false] rfl rfl rfl (by rfl) 36 rfl _ al36 ?_
        intro w2 hw2
        have hk := (hbw).alloc (hbw).size (.cells (#[.int .u64 0, .int .u64 0, .int .u64 0, .int .u64 0] : Array Value) 36)
        have hlt7 := mA7.lt
        have mA7 := mA7.alloc (.cells (#[.int .u64 0, .int .u64 0, .int .u64 0, .int .u64 0] : Array Value) 36)
        have mA6 := HasN.new (w') (#[.int .u64 0, .int .u64 0, .int .u64 0, .int .u64 0] : Array Value) 36 4 rfl
        have hB6 := (hbw).size
        rw [← hw2] at hk mA7 mA6
        have hne6_7 : w'.heap.size ≠ B7 := by omega
        clear hw2
        refine ⟨fun _ => hk, ?_⟩
        (try simp only [List.setIfInBounds_toArray, List.set_cons_succ, List.set_cons_zero])
        exact (hT _ _ _ _).1 (St1_6_7 (w'.heap.size) (B7) w2 hk hB6 mA6 hB7 mA7 hne6_7)
      · refine go_alloc 8 9 #[true, true, true, false, true, false, false, true, true, false, false, false] rfl rfl rfl (by rfl) 36 rfl _ al36 ?_
        intro w2 hw2
        have hk := (hbw).alloc (hbw).size (.cells (#[.int .u64 0, .int .u64 0, .int .u64 0, .int .u64 0] : Array Value) 36)
        have hlt7 := mA7.lt
        have mA7 := mA7.alloc (.cells (#[.int .u64 0, .int .u64 0, .int .u64 0, .int .u64 0] : Array Value) 36)
        have mA8 := HasN.new (w') (#[.int .u64 0, .int .u64 0, .int .u64 0, .int .u64 0] : Array Value) 36 4 rfl
        have hB8 := (hbw).size
        rw [← hw2] at hk mA7 mA8
        have hne7_8 : B7 ≠ w'.heap.size := by omega
        clear hw2
        refine ⟨fun _ => hk, ?_⟩
        (try simp only [List.setIfInBounds_toArray, List.set_cons_succ, List.set_cons_zero])
        exact (hT _ _ _ _).1 (St1_7_8 (B7) (w'.heap.size) w2 hk hB7 mA7 hB8 mA8 hne7_8)
    have St1_6 : ∀ (B6 : Nat) (w' : World), Below W1.heap.size W1 w' → W1.heap.size ≤ B6 → HasN w' B6 4 36 → T 7 #[true, true, true, false, true, false, true, false, false, false, false, false] { tmps := #[.agg (k32 n1), .agg (k32 n2), .agg (k32 n3), .pointer (some ⟨w.heap.size, 0, none⟩), .pointer (some ⟨w.heap.size + 1, 0, none⟩), .pointer (some ⟨w.heap.size + 1 + 1, 0, none⟩), .bool false, .pointer (some ⟨B6, 0, none⟩), undef, undef, undef, .agg (k32 n1), .agg (e4 a1), .agg (k32 n2), undef, .agg (k32 n3), undef, undef, undef, undef, undef, undef, undef, undef, undef, undef, undef, undef, undef, undef, undef, undef, undef, undef, undef, undef, undef, undef, undef, undef, undef, undef, undef, undef, undef, undef, undef, undef, undef, undef, undef, undef, undef, undef, undef, undef, undef, undef, undef, undef, undef, undef, undef, undef, undef, undef, undef, undef, undef, undef, undef, undef, undef, undef, undef, undef, undef, undef, undef, undef, undef, undef, undef, undef, undef, undef, undef, undef, undef, undef, undef, undef, undef, undef, undef, undef, undef, undef, undef, undef, undef, undef, undef, undef], defers := [] } w' := by
      intro B6 w' hbw hB6 mA6
      refine (hT _ _ _ _).2 ?_
      refine wpBut_r3 (i := 3) (j := 7) (l := 8) (by kernel_rfl) ?_ ?_ ?_
      · refine go_call 3 14 #[true, true, true, true, true, false, true, false, false, false, false, false] rfl rfl rfl (by rfl) rfl rfl (by rfl) ent30 (by rfl) (Hf2.out _) ?_
        rintro e w2 ⟨rfl, hb⟩
        have hk := held_next hbw hb
        have mA6 := mA6.call hb
        refine ⟨_, rfl, fun _ => hk, ?_⟩
        (try simp only [List.setIfInBounds_toArray, List.set_cons_succ, List.set_cons_zero])
        exact (hT _ _ _ _).1 (St1_3_6 (B6) w2 hk hB6 mA6)
      · refine go_alloc 7 8 #[true, true, true, false, true, false, true, true, false, false, false, false] rfl rfl rfl (by rfl) 36 rfl _ al36 ?_
        intro w2 hw2
        have hk := (hbw).alloc (hbw).size (.cells (#[.int .u64 0, .int .u64 0, .int .u64 0, .int .u64 0] : Array Value) 36)
        have hlt6 := mA6.lt
        have mA6 := mA6.alloc (.cells (#[.int .u64 0, .int .u64 0, .int .u64 0, .int .u64 0] : Array Value) 36)
        have mA7 := HasN.new (w') (#[.int .u64 0, .int .u64 0, .int .u64 0, .int .u64 0] : Array Value) 36 4 rfl
        have hB7 := (hbw).size
        rw [← hw2] at hk mA6 mA7
        have hne6_7 : B6 ≠ w'.heap.size := by omega
        clear hw2
        refine ⟨fun _ => hk, ?_⟩
        (try simp only [List.setIfInBounds_toArray, List.set_cons_succ, List.set_cons_zero])
        exact (hT _ _ _ _).1 (St1_6_7 (B6) (w'.heap.size) w2 hk hB6 mA6 hB7 mA7 hne6_7)
      · refine go_alloc 8 9 #[true, true, true, false, true, false, true, false, true, false, false, false] rfl rfl rfl (by rfl) 36 rfl _ al36 ?_
        intro w2 hw2
        have hk := (hbw).alloc (hbw).size (.cells (#[.int .u64 0, .int .u64 0, .int .u64 0, .int .u64 0] : Array Value) 36)
        have hlt6 := mA6.lt
        have mA6 := mA6.alloc (.cells (#[.int .u64 0, .int .u64 0, .int .u64 0, .int .u64 0] : Array Value) 36)
        have mA8 := HasN.new (w') (#[.int .u64 0, .int .u64 0, .int .u64 0, .int .u64 0] : Array Value) 36 4 rfl
        have hB8 := (hbw).size
        rw [← hw2] at hk mA6 mA8
        have hne6_8 : B6 ≠ w'.heap.size := by omega
        clear hw2
        refine ⟨fun _ => hk, ?_⟩
        (try simp only [List.setIfInBounds_toArray, List.set_cons_succ, List.set_cons_zero])
        exact (hT _ _ _ _).1 (St1_6_8 (B6) (w'.heap.size) w2 hk hB6 mA6 hB8 mA8 hne6_8)
    have St1_3 : ∀  (w' : World), Below W1.heap.size W1 w' → T 7 #[true, true, true, true, true, false, false, false, false, false, false, false] { tmps := #[.agg (k32 n1), .agg (k32 n2), .agg (k32 n3), .pointer (some ⟨w.heap.size, 0, none⟩), .pointer (some ⟨w.heap.size + 1, 0, none⟩), .pointer (some ⟨w.heap.size + 1 + 1, 0, none⟩), .bool false, undef, undef, undef, undef, .agg (k32 n1), .agg (e4 a1), .agg (k32 n2), .agg (e4 a2), .agg (k32 n3), undef, undef, undef, undef, undef, undef, undef, undef, undef, undef, undef, undef, undef, undef, undef, undef, undef, undef, undef, undef, undef, undef, undef, undef, undef, undef, undef, undef, undef, undef, undef, undef, undef, undef, undef, undef, undef, undef, undef, undef, undef, undef, undef, undef, undef, undef, undef, undef, undef, undef, undef, undef, undef, undef, undef, undef, undef, undef, undef, undef, undef, undef, undef, undef, undef, undef, undef, undef, undef, undef, undef, undef, undef, undef, undef, undef, undef, undef, undef, undef, undef, undef, undef, undef, undef, undef, undef, undef], defers := [] } w' := by
      intro  w' hbw
      refine (hT _ _ _ _).2 ?_
      refine wpBut_r4 (i := 5) (j := 6) (l := 7) (m := 8) (by kernel_rfl) ?_ ?_ ?_ ?_
      · refine go_call 5 16 #[true, true, true, true, true, true, false, false, false, false, false, false] rfl rfl rfl (by rfl) rfl rfl (by rfl) ent30 (by rfl) (Hf3.out _) ?_
        rintro e w2 ⟨rfl, hb⟩
        have hk := held_next hbw hb
        refine ⟨_, rfl, fun _ => hk, ?_⟩
        (try simp only [List.setIfInBounds_toArray, List.set_cons_succ, List.set_cons_zero])
        exact (hT _ _ _ _).1 (St1_3_5  w2 hk)
      · refine go_alloc 6 7 #[true, true, true, true, true, false, true, false, false, false, false, false] rfl rfl rfl (by rfl) 36 rfl _ al36 ?_
        intro w2 hw2
        have hk := (hbw).alloc (hbw).size (.cells (#[.int .u64 0, .int .u64 0, .int .u64 0, .int .u64 0] : Array Value) 36)
        have mA6 := HasN.new (w') (#[.int .u64 0, .int .u64 0, .int .u64 0, .int .u64 0] : Array Value) 36 4 rfl
        have hB6 := (hbw).size
        rw [← hw2] at hk mA6
        clear hw2
        refine ⟨fun _ => hk, ?_⟩
        (try simp only [List.setIfInBounds_toArray, List.set_cons_succ, List.set_cons_zero])
        exact (hT _ _ _ _).1 (St1_3_6 (w'.heap.size) w2 hk hB6 mA6)
      · refine go_alloc 7 8 #[true, true, true, true, true, false, false, true, false, false, false, false] rfl rfl rfl (by rfl) 36 rfl _ al36 ?_
        intro w2 hw2
        have hk := (hbw).alloc (hbw).size (.cells (#[.int .u64 0, .int .u64 0, .int .u64 0, .int .u64 0] : Array Value) 36)
        have mA7 := HasN.new (w') (#[.int .u64 0, .int .u64 0, .int .u64 0, .int .u64 0] : Array Value) 36 4 rfl
        have hB7 := (hbw).size
        rw [← hw2] at hk mA7
        clear hw2
        refine ⟨fun _ => hk, ?_⟩
        (try simp only [List.setIfInBounds_toArray, List.set_cons_succ, List.set_cons_zero])
        exact (hT _ _ _ _).1 (St1_3_7 (w'.heap.size) w2 hk hB7 mA7)
      · refine go_alloc 8 9 #[true, true, true, true, true, false, false, false, true, false, false, false] rfl rfl rfl (by rfl) 36 rfl _ al36 ?_
        intro w2 hw2
        have hk := (hbw).alloc (hbw).size (.cells (#[.int .u64 0, .int .u64 0, .int .u64 0, .int .u64 0] : Array Value) 36)
        have mA8 := HasN.new (w') (#[.int .u64 0, .int .u64 0, .int .u64 0, .int .u64 0] : Array Value) 36 4 rfl
        have hB8 := (hbw).size
        rw [← hw2] at hk mA8
        clear hw2
        refine ⟨fun _ => hk, ?_⟩
        (try simp only [List.setIfInBounds_toArray, List.set_cons_succ, List.set_cons_zero])
        exact (hT _ _ _ _).1 (St1_3_8 (w'.heap.size) w2 hk hB8 mA8)
    have St8 : ∀ (B8 : Nat) (w' : World), Below W1.heap.size W1 w' → W1.heap.size ≤ B8 → HasN w' B8 4 36 → T 8 #[true, false, true, false, true, false, false, false, true, false, false, false] { tmps := #[.agg (k32 n1), .agg (k32 n2), .agg (k32 n3), .pointer (some ⟨w.heap.size, 0, none⟩), .pointer (some ⟨w.heap.size + 1, 0, none⟩), .pointer (some ⟨w.heap.size + 1 + 1, 0, none⟩), .bool false, undef, undef, .pointer (some ⟨B8, 0, none⟩), undef, .agg (k32 n1), undef, .agg (k32 n2), undef, .agg (k32 n3), undef, undef, undef, undef, undef, undef, undef, undef, undef, undef, undef, undef, undef, undef, undef, undef, undef, undef, undef, undef, undef, undef, undef, undef, undef, undef, undef, undef, undef, undef, undef, undef, undef, undef, undef, undef, undef, undef, undef, undef, undef, undef, undef, undef, undef, undef, undef, undef, undef, undef, undef, undef, undef, undef, undef, undef, undef, undef, undef, undef, undef, undef, undef, undef, undef, undef, undef, undef, undef, undef, undef, undef, undef, undef, undef, undef, undef, undef, undef, undef, undef, undef, undef, undef, undef, undef, undef, undef], defers := [] } w' := by
      intro B8 w' hbw hB8 mA8
      refine (hT _ _ _ _).2 ?_
      refine wpBut_r3 (i := 1) (j := 6) (l := 7) (by kernel_rfl) ?_ ?_ ?_
      · refine go_call 1 12 #[true, true, true, false, true, false, false, false, true, false, false, false] rfl rfl rfl (by rfl) rfl rfl (by rfl) ent30 (by rfl) (Hf1.out _) ?_
        rintro e w2 ⟨rfl, hb⟩
        have hk := held_next hbw hb
        have mA8 := mA8.call hb
        refine ⟨_, rfl, fun _ => hk, ?_⟩
        (try simp only [List.setIfInBounds_toArray, List.set_cons_succ, List.set_cons_zero])
        exact (hT _ _ _ _).1 (St1_8 (B8) w2 hk hB8 mA8)
      · refine go_alloc 6 7 #[true, false, true, false, true, false, true, false, true, false, false, false] rfl rfl rfl (by rfl) 36 rfl _ al36 ?_
        intro w2 hw2
        have hk := (hbw).alloc (hbw).size (.cells (#[.int .u64 0, .int .u64 0, .int .u64 0, .int .u64 0] : Array Value) 36)
        have hlt8 := mA8.lt
        have mA8 := mA8.alloc (.cells (#[.int .u64 0, .int .u64 0, .int .u64 0, .int .u64 0] : Array Value) 36)
        have mA6 := HasN.new (w') (#[.int .u64 0, .int .u64 0, .int .u64 0, .int .u64 0] : Array Value) 36 4 rfl
        have hB6 := (hbw).size
        rw [← hw2] at hk mA8 mA6
        have hne6_8 : w'.heap.size ≠ B8 := by omega
        clear hw2
        refine ⟨fun _ => hk, ?_⟩
        (try simp only [List.setIfInBounds_toArray, List.set_cons_succ, List.set_cons_zero])
        exact (hT _ _ _ _).1 (St6_8 (w'.heap.size) (B8) w2 hk hB6 mA6 hB8 mA8 hne6_8)
      · refine go_alloc 7 8 #[true, false, true, false, true, false, false, true, true, false, false, false] rfl rfl rfl (by rfl) 36 rfl _ al36 ?_
        intro w2 hw2
        have hk := (hbw).alloc (hbw).size (.cells (#[.int .u64 0, .int .u64 0, .int .u64 0, .int .u64 0] : Array Value) 36)
        have hlt8 := mA8.lt
        have mA8 := mA8.alloc (.cells (#[.int .u64 0, .int .u64 0, .int .u64 0, .int .u64 0] : Array Value) 36)
        have mA7 := HasN.new (w') (#[.int .u64 0, .int .u64 0, .int .u64 0, .int .u64 0] : Array Value) 36 4 rfl
        have hB7 := (hbw).size
        rw [← hw2] at hk mA8 mA7
        have hne7_8 : w'.heap.size ≠ B8 := by omega
        clear hw2
        refine ⟨fun _ => hk, ?_⟩
        (try simp only [List.setIfInBounds_toArray, List.set_cons_succ, List.set_cons_zero])
        exact (hT _ _ _ _).1 (St7_8 (w'.heap.size) (B8) w2 hk hB7 mA7 hB8 mA8 hne7_8)
    have St7 : ∀ (B7 : Nat) (w' : World), Below W1.heap.size W1 w' → W1.heap.size ≤ B7 → HasN w' B7 4 36 → T 8 #[true, false, true, false, true, false, false, true, false, false, false, false] { tmps := #[.agg (k32 n1), .agg (k32 n2), .agg (k32 n3), .pointer (some ⟨w.heap.size, 0, none⟩), .pointer (some ⟨w.heap.size + 1, 0, none⟩), .pointer (some ⟨w.heap.size + 1 + 1, 0, none⟩), .bool false, undef, .pointer (some ⟨B7, 0, none⟩), undef, undef, .agg (k32 n1), undef, .agg (k32 n2), undef, .agg (k32 n3), undef, undef, undef, undef, undef, undef, undef, undef, undef, undef, undef, undef, undef, undef, undef, undef, undef, undef, undef, undef, undef, undef, undef, undef, undef, undef, undef, undef, undef, undef, undef, undef, undef, undef, undef, undef, undef, undef, undef, undef, undef, undef, undef, undef, undef, undef, undef, undef, undef, undef, undef, undef, undef, undef, undef, undef, undef, undef, undef, undef, undef, undef, undef, undef, undef, undef, undef, undef, undef, undef, undef, undef, undef, undef, undef, undef, undef, undef, undef, undef, undef, undef, undef, undef, undef, undef, undef, undef], defers := [] } w' := by
      intro B7 w' hbw hB7 mA7
      refine (hT _ _ _ _).2 ?_
      refine wpBut_r3 (i := 1) (j := 6) (l := 8) (by kernel_rfl) ?_ ?_ ?_
      · refine go_call 1 12 #[true, true, true, false, true, false, false, true, false, false, false, false] rfl rfl rfl (by rfl) rfl rfl (by rfl) ent30 (by rfl) (Hf1.out _) ?_
        rintro e w2 ⟨rfl, hb⟩
        have hk := held_next hbw hb
        have mA7 := mA7.call hb
        refine ⟨_, rfl, fun _ => hk, ?_⟩
        (try simp only [List.setIfInBounds_toArray, List.set_cons_succ, List.set_cons_zero])
        exact (hT _ _ _ _).1 (St1_7 (B7) w2 hk hB7 mA7)
      · refine go_alloc 6 7 #[true, false, true, false, true, false, true, true, false, false, false, false] rfl rfl rfl (by rfl) 36 rfl _ al36 ?_
        intro w2 hw2
        have hk := (hbw).alloc (hbw).size (.cells (#[.int .u64 0, .int .u64 0, .int .u64 0, .int .u64 0] : Array Value) 36)
        have hlt7 := mA7.lt
        have mA7 := mA7.alloc (.cells (#[.int .u64 0, .int .u64 0, .int .u64 0, .int .u64 0] : Array Value) 36)
        have mA6 := HasN.new (w') (#[.int .u64 0, .int .u64 0, .int .u64 0, .int .u64 0] : Array Value) 36 4 rfl
        have hB6 := (hbw).size
        rw [← hw2] at hk mA7 mA6
        have hne6_7 : w'.heap.size ≠ B7 := by omega
        clear hw2
        refine ⟨fun _ => hk, ?_⟩
        (try simp only [List.setIfInBounds_toArray, List.set_cons_succ, List.set_cons_zero])
        exact (hT _ _ _ _).1 (St6_7 (w'.heap.size) (B7) w2 hk hB6 mA6 hB7 mA7 hne6_7)
      · refine go_alloc 8 9 #[true, false, true, false, true, false, false, true, true, false, false, false] rfl rfl rfl (by rfl) 36 rfl _ al36 ?_
        intro w2 hw2
        have hk := (hbw).alloc (hbw).size (.cells (#[.int .u64 0, .int .u64 0, .int .u64 0, .int .u64 0] : Array Value) 36)
        have hlt7 := mA7.lt
        have mA7 := mA7.alloc (.cells (#[.int .u64 0, .int .u64 0, .int .u64 0, .int .u64 0] : Array Value) 36)
        have mA8 := HasN.new (w') (#[.int .u64 0, .int .u64 0, .int .u64 0, .int .u64 0] : Array Value) 36 4 rfl
        have hB8 := (hbw).size
        rw [← hw2] at hk mA7 mA8
        have hne7_8 : B7 ≠ w'.heap.size := by omega
        clear hw2
        refine ⟨fun _ => hk, ?_⟩
        (try simp only [List.setIfInBounds_toArray, List.set_cons_succ, List.set_cons_zero])
        exact (hT _ _ _ _).1 (St7_8 (B7) (w'.heap.size) w2 hk hB7 mA7 hB8 mA8 hne7_8)
    have St6 : ∀ (B6 : Nat) (w' : World), Below W1.heap.size W1 w' → W1.heap.size ≤ B6 → HasN w' B6 4 36 → T 8 #[true, false, true, false, true, false, true, false, false, false, false, false] { tmps := #[.agg (k32 n1), .agg (k32 n2), .agg (k32 n3), .pointer (some ⟨w.heap.size, 0, none⟩), .pointer (some ⟨w.heap.size + 1, 0, none⟩), .pointer (some ⟨w.heap.size + 1 + 1, 0, none⟩), .bool false, .pointer (some ⟨B6, 0, none⟩), undef, undef, undef, .agg (k32 n1), undef, .agg (k32 n2), undef, .agg (k32 n3), undef, undef, undef, undef, undef, undef, undef, undef, undef, undef, undef, undef, undef, undef, undef, undef, undef, undef, undef, undef, undef, undef, undef, undef, undef, undef, undef, undef, undef, undef, undef, undef, undef, undef, undef, undef, undef, undef, undef, undef, undef, undef, undef, undef, undef, undef, undef, undef, undef, undef, undef, undef, undef, undef, undef, undef, undef, undef, undef, undef, undef, undef, undef, undef, undef, undef, undef, undef, undef, undef, undef, undef, undef, undef, undef, undef, undef, undef, undef, undef, undef, undef, undef, undef, undef, undef, undef, undef], defers := [] } w' := by
      intro B6 w' hbw hB6 mA6
      refine (hT _ _ _ _).2 ?_
      refine wpBut_r3 (i := 1) (j := 7) (l := 8) (by kernel_rfl) ?_ ?_ ?_
      · refine go_call 1 12 #[true, true, true, false, true, false, true, false, false, false, false, false] rfl rfl rfl (by rfl) rfl rfl (by rfl) ent30 (by rfl) (Hf1.out _) ?_
        rintro e w2 ⟨rfl, hb⟩
        have hk := held_next hbw hb
        have mA6 := mA6.call hb
        refine ⟨_, rfl, fun _ => hk, ?_⟩
        (try simp only [List.setIfInBounds_toArray, List.set_cons_succ, List.set_cons_zero])
        exact (hT _ _ _ _).1 (St1_6 (B6) w2 hk hB6 mA6)
      · refine go_alloc 7 8 #[true, false, true, false, true, false, true, true, false, false, false, false] rfl rfl rfl (by rfl) 36 rfl _ al36 ?_
        intro w2 hw2
        have hk := (hbw).alloc (hbw).size (.cells (#[.int .u64 0, .int .u64 0, .int .u64 0, .int .u64 0] : Array Value) 36)
        have hlt6 := mA6.lt
        have mA6 := mA6.alloc (.cells (#[.int .u64 0, .int .u64 0, .int .u64 0, .int .u64 0] : Array Value) 36)
        have mA7 := HasN.new (w') (#[.int .u64 0, .int .u64 0, .int .u64 0, .int .u64 0] : Array Value) 36 4 rfl
        have hB7 := (hbw).size
        rw [← hw2] at hk mA6 mA7
        have hne6_7 : B6 ≠ w'.heap.size := by omega
        clear hw2
        refine ⟨fun _ => hk, ?_⟩
        (try simp only [List.setIfInBounds_toArray, List.set_cons_succ, List.set_cons_zero])
        exact (hT _ _ _ _).1 (St6_7 (B6) (w'.heap.size) w2 hk hB6 mA6 hB7 mA7 hne6_7)
      · refine go_alloc 8 9 #[true, false, true, false, true, false, true, false, true, false, false, false] rfl rfl rfl (by rfl) 36 rfl _ al36 ?_
        intro w2 hw2
        have hk := (hbw).alloc (hbw).size (.cells (#[.int .u64 0, .int .u64 0, .int .u64 0, .int .u64 0] : Array Value) 36)
        have hlt6 := mA6.lt
        have mA6 := mA6.alloc (.cells (#[.int .u64 0, .int .u64 0, .int .u64 0, .int .u64 0] : Array Value) 36)
        have mA8 := HasN.new (w') (#[.int .u64 0, .int .u64 0, .int .u64 0, .int .u64 0] : Array Value) 36 4 rfl
        have hB8 := (hbw).size
        rw [← hw2] at hk mA6 mA8
        have hne6_8 : B6 ≠ w'.heap.size := by omega
        clear hw2
        refine ⟨fun _ => hk, ?_⟩
        (try simp only [List.setIfInBounds_toArray, List.set_cons_succ, List.set_cons_zero])
        exact (hT _ _ _ _).1 (St6_8 (B6) (w'.heap.size) w2 hk hB6 mA6 hB8 mA8 hne6_8)
    have St1 : ∀  (w' : World), Below W1.heap.size W1 w' → T 8 #[true, true, true, false, true, false, false, false, false, false, false, false] { tmps := #[.agg (k32 n1), .agg (k32 n2), .agg (k32 n3), .pointer (some ⟨w.heap.size, 0, none⟩), .pointer (some ⟨w.heap.size + 1, 0, none⟩), .pointer (some ⟨w.heap.size + 1 + 1, 0, none⟩), .bool false, undef, undef, undef, undef, .agg (k32 n1), .agg (e4 a1), .agg (k32 n2), undef, .agg (k32 n3), undef, undef, undef, undef, undef, undef, undef, undef, undef, undef, undef, undef, undef, undef, undef, undef, undef, undef, undef, undef, undef, undef, undef, undef, undef, undef, undef, undef, undef, undef, undef, undef, undef, undef, undef, undef, undef, undef, undef, undef, undef, undef, undef, undef, undef, undef, undef, undef, undef, undef, undef, undef, undef, undef, undef, undef, undef, undef, undef, undef, undef, undef, undef, undef, undef, undef, undef, undef, undef, undef, undef, undef, undef, undef, undef, undef, undef, undef, undef, undef, undef, undef, undef, undef, undef, undef, undef, undef], defers := [] } w' := by
      intro  w' hbw
      refine (hT _ _ _ _).2 ?_
      refine wpBut_r4 (i := 3) (j := 6) (l := 7) (m := 8) (by kernel_rfl) ?_ ?_ ?_ ?_
      · refine go_call 3 14 #[true, true, true, true, true, false, false, false, false, false, false, false] rfl rfl rfl (by rfl) rfl rfl (by rfl) ent30 (by rfl) (Hf2.out _) ?_
        rintro e w2 ⟨rfl, hb⟩
        have hk := held_next hbw hb
        refine ⟨_, rfl, fun _ => hk, ?_⟩
        (try simp only [List.setIfInBounds_toArray, List.set_cons_succ, List.set_cons_zero])
        exact (hT _ _ _ _).1 (St1_3  w2 hk)
      · refine go_alloc 6 7 #[true, true, true, false, true, false, true, false, false, false, false, false] rfl rfl rfl (by rfl) 36 rfl _ al36 ?_
        intro w2 hw2
        have hk := (hbw).alloc (hbw).size (.cells (#[.int .u64 0, .int .u64 0, .int .u64 0, .int .u64 0] : Array Value) 36)
        have mA6 := HasN.new (w') (#[.int .u64 0, .int .u64 0, .int .u64 0, .int .u64 0] : Array Value) 36 4 rfl
        have hB6 := (hbw).size
        rw [← hw2] at hk mA6
        clear hw2
        refine ⟨fun _ => hk, ?_⟩
        (try simp only [List.setIfInBounds_toArray, List.set_cons_succ, List.set_cons_zero])
        exact (hT _ _ _ _).1 (St1_6 (w'.heap.size) w2 hk hB6 mA6)
      · refine go_alloc 7 8 #[true, true, true, false, true, false, false, true, false, false, false, false] rfl rfl rfl (by rfl) 36 rfl _ al36 ?_
        intro w2 hw2
        have hk := (hbw).alloc (hbw).size (.cells (#[.int .u64 0, .int .u64 0, .int .u64 0, .int .u64 0] : Array Value) 36)
        have mA7 := HasN.new (w') (#[.int .u64 0, .int .u64 0, .int .u64 0, .int .u64 0] : Array Value) 36 4 rfl
        have hB7 := (hbw).size
        rw [← hw2] at hk mA7
        clear hw2
        refine ⟨fun _ => hk, ?_⟩
        (try simp only [List.setIfInBounds_toArray, List.set_cons_succ, List.set_cons_zero])
        exact (hT _ _ _ _).1 (St1_7 (w'.heap.size) w2 hk hB7 mA7)
      · refine go_alloc 8 9 #[true, true, true, false, true, false, false, false, true, false, false, false] rfl rfl rfl (by rfl) 36 rfl _ al36 ?_
        intro w2 hw2
        have hk := (hbw).alloc (hbw).size (.cells (#[.int .u64 0, .int .u64 0, .int .u64 0, .int .u64 0] : Array Value) 36)
        have mA8 := HasN.new (w') (#[.int .u64 0, .int .u64 0, .int .u64 0, .int .u64 0] : Array Value) 36 4 rfl
        have hB8 := (hbw).size
        rw [← hw2] at hk mA8
        clear hw2
        refine ⟨fun _ => hk, ?_⟩
        (try simp only [List.setIfInBounds_toArray, List.set_cons_succ, List.set_cons_zero])
        exact (hT _ _ _ _).1 (St1_8 (w'.heap.size) w2 hk hB8 mA8)
    refine (hT _ _ _ _).2 ?_
    refine wpBut_r4 (i := 1) (j := 6) (l := 7) (m := 8) (by kernel_rfl) ?_ ?_ ?_ ?_
    · refine go_call 1 12 #[true, true, true, false, true, false, false, false, false, false, false, false] rfl rfl rfl (by rfl) rfl rfl (by rfl) ent30 (by rfl) (Hf1.out _) ?_
      rintro e w2 ⟨rfl, hb⟩
      have hk := held_next (show Below W1.heap.size W1 W1.drew from (Below.refl _ _).drew) hb
      refine ⟨_, rfl, fun _ => hk, ?_⟩
      (try simp only [List.setIfInBounds_toArray, List.set_cons_succ, List.set_cons_zero])
      exact (hT _ _ _ _).1 (St1  w2 hk)
    · refine go_alloc 6 7 #[true, false, true, false, true, false, true, false, false, false, false, false] rfl rfl rfl (by rfl) 36 rfl _ al36 ?_
      intro w2 hw2
      have hk := ((show Below W1.heap.size W1 W1.drew from (Below.refl _ _).drew)).alloc ((show Below W1.heap.size W1 W1.drew from (Below.refl _ _).drew)).size (.cells (#[.int .u64 0, .int .u64 0, .int .u64 0, .int .u64 0] : Array Value) 36)
      have mA6 := HasN.new (W1.drew) (#[.int .u64 0, .int .u64 0, .int .u64 0, .int .u64 0] : Array Value) 36 4 rfl
      have hB6 := ((show Below W1.heap.size W1 W1.drew from (Below.refl _ _).drew)).size
      rw [← hw2] at hk mA6
      clear hw2
      refine ⟨fun _ => hk, ?_⟩
      (try simp only [List.setIfInBounds_toArray, List.set_cons_succ, List.set_cons_zero])
      exact (hT _ _ _ _).1 (St6 (W1.drew.heap.size) w2 hk hB6 mA6)
    · refine go_alloc 7 8 #[true, false, true, false, true, false, false, true, false, false, false, false] rfl rfl rfl (by rfl) 36 rfl _ al36 ?_
      intro w2 hw2
      have hk := ((show Below W1.heap.size W1 W1.drew from (Below.refl _ _).drew)).alloc ((show Below W1.heap.size W1 W1.drew from (Below.refl _ _).drew)).size (.cells (#[.int .u64 0, .int .u64 0, .int .u64 0, .int .u64 0] : Array Value) 36)
      have mA7 := HasN.new (W1.drew) (#[.int .u64 0, .int .u64 0, .int .u64 0, .int .u64 0] : Array Value) 36 4 rfl
      have hB7 := ((show Below W1.heap.size W1 W1.drew from (Below.refl _ _).drew)).size
      rw [← hw2] at hk mA7
      clear hw2
      refine ⟨fun _ => hk, ?_⟩
      (try simp only [List.setIfInBounds_toArray, List.set_cons_succ, List.set_cons_zero])
      exact (hT _ _ _ _).1 (St7 (W1.drew.heap.size) w2 hk hB7 mA7)
    · refine go_alloc 8 9 #[true, false, true, false, true, false, false, false, true, false, false, false] rfl rfl rfl (by rfl) 36 rfl _ al36 ?_
      intro w2 hw2
      have hk := ((show Below W1.heap.size W1 W1.drew from (Below.refl _ _).drew)).alloc ((show Below W1.heap.size W1 W1.drew from (Below.refl _ _).drew)).size (.cells (#[.int .u64 0, .int .u64 0, .int .u64 0, .int .u64 0] : Array Value) 36)
      have mA8 := HasN.new (W1.drew) (#[.int .u64 0, .int .u64 0, .int .u64 0, .int .u64 0] : Array Value) 36 4 rfl
      have hB8 := ((show Below W1.heap.size W1 W1.drew from (Below.refl _ _).drew)).size
      rw [← hw2] at hk mA8
      clear hw2
      refine ⟨fun _ => hk, ?_⟩
      (try simp only [List.setIfInBounds_toArray, List.set_cons_succ, List.set_cons_zero])
      exact (hT _ _ _ _).1 (St8 (W1.drew.heap.size) w2 hk hB8 mA8)
  · rintro W1 ⟨B7, B8, B9⟩ v1 hW1 ⟨hBq0, mBq0, hBq1, mBq1, hBq2, mBq2, hbw⟩
    simp only [Act.put, List.setIfInBounds_toArray, List.set_cons_succ, List.set_cons_zero] at  hBq0  mBq0 hBq1  mBq1 hBq2  mBq2 ⊢
    have kq := M3.out; rw [← hW1] at kq; clear M3; have M3 := Lib.hid kq; clear kq
    have kq := M4.out; rw [← hW1] at kq; clear M4; have M4 := Lib.hid kq; clear kq
    have kq := M5.out; rw [← hW1] at kq; clear M5; have M5 := Lib.hid kq; clear kq
    have kq := HB.out; rw [← hW1] at kq; clear HB; have HB := Lib.hid kq; clear kq
    clear hW1
    have hltM3_1 := M3.out.lt
    have hltM4_1 := M4.out.lt
    have hltM5_1 := M5.out.lt
    have kq := M3.out.call hbw; clear M3; have M3 := Lib.hid kq; clear kq
    have kq := M4.out.call hbw; clear M4; have M4 := Lib.hid kq; clear kq
    have kq := M5.out.call hbw; clear M5; have M5 := Lib.hid kq; clear kq
    have hBq := held_next HB.out hbw; clear HB; have HB := Lib.hid hBq; clear hBq
    have M7 := Lib.hid mBq0; clear mBq0
    have M8 := Lib.hid mBq1; clear mBq1
    have M9 := Lib.hid mBq2; clear mBq2
    clear hbw
    clear M3 M4 M5
    repeat ((fail_if_success (with_reducible (show wpList _ _ _ _ _ _))); go_step)
    refine wpList_call (by rfl) rfl rfl (by rfl) ent34 (by rfl) (Hint.out _) 17 rfl ?_
    rintro e u1 ⟨rfl, hb⟩
    have kq := M7.out.call hb; clear M7; have M7 := Lib.hid kq; clear kq
    have kq := M8.out.call hb; clear M8; have M8 := Lib.hid kq; clear kq
    have kq := M9.out.call hb; clear M9; have M9 := Lib.hid kq; clear kq
    have hBq := held_next HB.out hb; clear HB; have HB := Lib.hid hBq; clear hBq
    refine ⟨_, rfl, ?_⟩
    clear hb
    (try simp only [Act.put, List.setIfInBounds_toArray, List.set_cons_succ, List.set_cons_zero])
    refine wpList_step (fun K hK => ?_)
    go_simp
    have hlt2 := M7.out.lt
    have hlt3 := M8.out.lt
    have hlt4 := M9.out.lt
    have kq := M7.out.alloc (.cells (#[.int .u64 0, .int .u64 0, .int .u64 0, .int .u64 0] : Array Value) 36); clear M7; have M7 := Lib.hid kq; clear kq
    have kq := M8.out.alloc (.cells (#[.int .u64 0, .int .u64 0, .int .u64 0, .int .u64 0] : Array Value) 36); clear M8; have M8 := Lib.hid kq; clear kq
    have kq := M9.out.alloc (.cells (#[.int .u64 0, .int .u64 0, .int .u64 0, .int .u64 0] : Array Value) 36); clear M9; have M9 := Lib.hid kq; clear kq
    have M10 := Lib.hid (HasN.new u1 (#[.int .u64 0, .int .u64 0, .int .u64 0, .int .u64 0] : Array Value) 36 4 rfl)
    have hsz := HB.out.size
    have hBq := HB.out.alloc hsz (.cells (#[.int .u64 0, .int .u64 0, .int .u64 0, .int .u64 0] : Array Value) 36); clear HB; have HB := Lib.hid hBq; clear hBq
    refine hK _ _ ?_
    clear hK K
    first | (obtain ⟨Z, hZ, mZ⟩ := M10.out) | (obtain ⟨Z, hZ, mZ⟩ := M10.out.toN (e4_size _))
    clear M10
    have hZ' := Lib.hid hZ; clear hZ
    have mZ' := Lib.hid mZ; clear mZ
    refine wpList_store_row rfl 36 _ _ rfl (u1.heap.size) _ rfl rfl 36 Z mZ'.out (by rw [e4_size]; kernel_rfl) (hZ'.out.trans (e4_size _).symm) (row_one _ _ _) ?_
    (try simp only [Act.put, List.setIfInBounds_toArray, List.set_cons_succ, List.set_cons_zero])
    have kq := M7.out.setRow_other (u1.heap.size) (e4 1) (by omega); clear M7; have M7 := Lib.hid kq; clear kq
    have kq := M8.out.setRow_other (u1.heap.size) (e4 1) (by omega); clear M8; have M8 := Lib.hid kq; clear kq
    have kq := M9.out.setRow_other (u1.heap.size) (e4 1) (by omega); clear M9; have M9 := Lib.hid kq; clear kq
    have M10 := Lib.hid (mZ'.out.setRow (e4 1))
    clear mZ' hZ'
    have hBq := below_setRow HB.out (u1.heap.size) (e4 1) (by omega); clear HB; have HB := Lib.hid hBq; clear hBq
    refine wpList_nil ?_
    repeat ((fail_if_success (with_reducible (show wpList _ _ _ _ _ _))); go_step)
    refine wp_region_noPanic ?_
    refine wp_region_go 99 44 #[false, false, false, false, false, false, false, false, false, false, false, false, false, false, false, false, false, false, false, false, false, false, false, false, false, false, false, false, false, false, false, false, false, false, false, false, false, false, false, false, false, false, false, false] (by kernel_rfl) rfl rfl ?_
    intro W5 hW5
    have kq := M7.out; rw [← hW5] at kq; clear M7; have M7 := Lib.hid kq; clear kq
    have kq := M8.out; rw [← hW5] at kq; clear M8; have M8 := Lib.hid kq; clear kq
    have kq := M9.out; rw [← hW5] at kq; clear M9; have M9 := Lib.hid kq; clear kq
    have kq := M10.out; rw [← hW5] at kq; clear M10; have M10 := Lib.hid kq; clear kq
    have kq := HB.out; rw [← hW5] at kq; clear HB; have HB := Lib.hid kq; clear kq
    clear hW5
    refine wpBut_r1 (i := 0) (by kernel_rfl) ?_
    refine go_call 0 18 #[true, false, false, false, false, false, false, false, false, false, false, false, false, false, false, false, false, false, false, false, false, false, false, false, false, false, false, false, false, false, false, false, false, false, false, false, false, false, false, false, false, false, false, false] rfl rfl rfl (by rfl) rfl rfl (by rfl) ent28 (by rfl) (Hal.out _) ?_
    rintro e wW51 ⟨rfl, hb⟩
    have hkW51 := held_next (show Below W5.heap.size W5 W5.drew from (Below.refl _ _).drew) hb
    refine ⟨_, rfl, fun _ => hkW51, ?_⟩
    clear hb
    (try simp only [List.setIfInBounds_toArray, List.set_cons_succ, List.set_cons_zero])
    refine go_take 1 19 #[true, true, false, false, false, false, false, false, false, false, false, false, false, false, false, false, false, false, false, false, false, false, false, false, false, false, false, false, false, false, false, false, false, false, false, false, false, false, false, false, false, false, false, false] (v := ?uv1) rfl rfl rfl (by kernel_rfl) (by kernel_rfl) (by kernel_rfl) (by kernel_rfl) (by kernel_rfl) (Or.inl ⟨by rfl, ?uy1⟩) (hkW51) ?urest1
    case uy1 => (intro _ _; go_simp; try with_reducible rfl)
    (try simp only [List.setIfInBounds_toArray, List.set_cons_succ, List.set_cons_zero])
    refine go_take 2 20 #[true, true, true, false, false, false, false, false, false, false, false, false, false, false, false, false, false, false, false, false, false, false, false, false, false, false, false, false, false, false, false, false, false, false, false, false, false, false, false, false, false, false, false, false] (v := ?uv2) rfl rfl rfl (by kernel_rfl) (by kernel_rfl) (by kernel_rfl) (by kernel_rfl) (by kernel_rfl) (Or.inl ⟨by rfl, ?uy2⟩) (hkW51) ?urest2
    case uy2 => (intro _ _; go_simp; try with_reducible rfl)
    (try simp only [List.setIfInBounds_toArray, List.set_cons_succ, List.set_cons_zero])
    refine go_take 3 21 #[true, true, true, true, false, false, false, false, false, false, false, false, false, false, false, false, false, false, false, false, false, false, false, false, false, false, false, false, false, false, false, false, false, false, false, false, false, false, false, false, false, false, false, false] rfl rfl rfl (by kernel_rfl) (by kernel_rfl) (by kernel_rfl) (by kernel_rfl) (by kernel_rfl) (yieldsIf_load_row (by rfl) 36 _ rfl (B7) rfl 36 (e4 a1) (fun _ h => M7.out.below h M7.out.lt) Try.underlying36 rfl (by rw [e4_size]; kernel_rfl)) (hkW51) ?_
    (try simp only [List.setIfInBounds_toArray, List.set_cons_succ, List.set_cons_zero])
    refine go_take 4 22 #[true, true, true, true, true, false, false, false, false, false, false, false, false, false, false, false, false, false, false, false, false, false, false, false, false, false, false, false, false, false, false, false, false, false, false, false, false, false, false, false, false, false, false, false] rfl rfl rfl (by kernel_rfl) (by kernel_rfl) (by kernel_rfl) (by kernel_rfl) (by kernel_rfl) (yieldsIf_load_row (by rfl) 36 _ rfl (B8) rfl 36 (e4 a2) (fun _ h => M8.out.below h M8.out.lt) Try.underlying36 rfl (by rw [e4_size]; kernel_rfl)) (hkW51) ?_
    (try simp only [List.setIfInBounds_toArray, List.set_cons_succ, List.set_cons_zero])
    refine go_take 5 23 #[true, true, true, true, true, true, false, false, false, false, false, false, false, false, false, false, false, false, false, false, false, false, false, false, false, false, false, false, false, false, false, false, false, false, false, false, false, false, false, false, false, false, false, false] rfl rfl rfl (by kernel_rfl) (by kernel_rfl) (by kernel_rfl) (by kernel_rfl) (by kernel_rfl) (yieldsIf_load_row (by rfl) 36 _ rfl (B9) rfl 36 (e4 a3) (fun _ h => M9.out.below h M9.out.lt) Try.underlying36 rfl (by rw [e4_size]; kernel_rfl)) (hkW51) ?_
    (try simp only [List.setIfInBounds_toArray, List.set_cons_succ, List.set_cons_zero])
    refine go_take 8 26 #[true, true, true, true, true, true, false, false, true, false, false, false, false, false, false, false, false, false, false, false, false, false, false, false, false, false, false, false, false, false, false, false, false, false, false, false, false, false, false, false, false, false, false, false] rfl rfl rfl (by kernel_rfl) (by kernel_rfl) (by kernel_rfl) (by kernel_rfl) (by kernel_rfl) (yieldsIf_load_row (by rfl) 36 _ rfl (B7) rfl 36 (e4 a1) (fun _ h => M7.out.below h M7.out.lt) Try.underlying36 rfl (by rw [e4_size]; kernel_rfl)) (hkW51) ?_
    (try simp only [List.setIfInBounds_toArray, List.set_cons_succ, List.set_cons_zero])
    refine go_take 9 27 #[true, true, true, true, true, true, false, false, true, true, false, false, false, false, false, false, false, false, false, false, false, false, false, false, false, false, false, false, false, false, false, false, false, false, false, false, false, false, false, false, false, false, false, false] rfl rfl rfl (by kernel_rfl) (by kernel_rfl) (by kernel_rfl) (by kernel_rfl) (by kernel_rfl) (yieldsIf_load_row (by rfl) 36 _ rfl (B8) rfl 36 (e4 a2) (fun _ h => M8.out.below h M8.out.lt) Try.underlying36 rfl (by rw [e4_size]; kernel_rfl)) (hkW51) ?_
    (try simp only [List.setIfInBounds_toArray, List.set_cons_succ, List.set_cons_zero])
    refine go_take 11 29 #[true, true, true, true, true, true, false, false, true, true, false, true, false, false, false, false, false, false, false, false, false, false, false, false, false, false, false, false, false, false, false, false, false, false, false, false, false, false, false, false, false, false, false, false] rfl rfl rfl (by kernel_rfl) (by kernel_rfl) (by kernel_rfl) (by kernel_rfl) (by kernel_rfl) (yieldsIf_load_row (by rfl) 36 _ rfl (B9) rfl 36 (e4 a3) (fun _ h => M9.out.below h M9.out.lt) Try.underlying36 rfl (by rw [e4_size]; kernel_rfl)) (hkW51) ?_
    (try simp only [List.setIfInBounds_toArray, List.set_cons_succ, List.set_cons_zero])
    refine wpBut_r1 (i := 6) (by kernel_rfl) ?_
    refine go_call 6 24 #[true, true, true, true, true, true, true, false, true, true, false, true, false, false, false, false, false, false, false, false, false, false, false, false, false, false, false, false, false, false, false, false, false, false, false, false, false, false, false, false, false, false, false, false] rfl rfl rfl (by rfl) rfl rfl (by rfl) ent37 (by rfl) (Hp.out a2 a3 Hal2.out Hal3.out _) ?_
    rintro e wW52 ⟨p1, hp1, hp1r, rfl, hb⟩
    have hkW52 := held_next hkW51 hb
    refine ⟨_, rfl, fun _ => hkW52, ?_⟩
    clear hb
    (try simp only [List.setIfInBounds_toArray, List.set_cons_succ, List.set_cons_zero])
    refine wpBut_r1 (i := 7) (by kernel_rfl) ?_
    refine go_call 7 25 #[true, true, true, true, true, true, true, true, true, true, false, true, false, false, false, false, false, false, false, false, false, false, false, false, false, false, false, false, false, false, false, false, false, false, false, false, false, false, false, false, false, false, false, false] rfl rfl rfl (by rfl) rfl rfl (by rfl) ent37 (by rfl) (Hp.out a1 p1 Hal1.out hp1 _) ?_
    rintro e wW53 ⟨p2, hp2, hp2r, rfl, hb⟩
    have hkW53 := held_next hkW52 hb
    refine ⟨_, rfl, fun _ => hkW53, ?_⟩
    clear hb
    (try simp only [List.setIfInBounds_toArray, List.set_cons_succ, List.set_cons_zero])
    refine wpBut_r1 (i := 10) (by kernel_rfl) ?_
    refine go_call 10 28 #[true, true, true, true, true, true, true, true, true, true, true, true, false, false, false, false, false, false, false, false, false, false, false, false, false, false, false, false, false, false, false, false, false, false, false, false, false, false, false, false, false, false, false, false] rfl rfl rfl (by rfl) rfl rfl (by rfl) ent37 (by rfl) (Hp.out a1 a2 Hal1.out Hal2.out _) ?_
    rintro e wW54 ⟨p3, hp3, hp3r, rfl, hb⟩
    have hkW54 := held_next hkW53 hb
    refine ⟨_, rfl, fun _ => hkW54, ?_⟩
    clear hb
    (try simp only [List.setIfInBounds_toArray, List.set_cons_succ, List.set_cons_zero])
    refine wpBut_r1 (i := 12) (by kernel_rfl) ?_
    refine go_call 12 30 #[true, true, true, true, true, true, true, true, true, true, true, true, true, false, false, false, false, false, false, false, false, false, false, false, false, false, false, false, false, false, false, false, false, false, false, false, false, false, false, false, false, false, false, false] rfl rfl rfl (by rfl) rfl rfl (by rfl) ent37 (by rfl) (Hp.out p3 a3 hp3 Hal3.out _) ?_
    rintro e wW55 ⟨p4, hp4, hp4r, rfl, hb⟩
    have hkW55 := held_next hkW54 hb
    refine ⟨_, rfl, fun _ => hkW55, ?_⟩
    clear hb
    (try simp only [List.setIfInBounds_toArray, List.set_cons_succ, List.set_cons_zero])
    refine wpBut_r1 (i := 13) (by kernel_rfl) ?_
    refine go_call 13 31 #[true, true, true, true, true, true, true, true, true, true, true, true, true, true, false, false, false, false, false, false, false, false, false, false, false, false, false, false, false, false, false, false, false, false, false, false, false, false, false, false, false, false, false, false] rfl rfl rfl (by rfl) rfl rfl (by rfl) ent41 (by rfl) (Hyes.out p2 p4 hp2 hp4 (ru_1 a1 a2 a3 p1 p2 p3 p4 hp1r hp2r hp3r hp4r) _) ?_
    rintro e wW56 ⟨rfl, hb⟩
    have hkW56 := held_next hkW55 hb
    refine ⟨_, rfl, fun _ => hkW56, ?_⟩
    clear hb
    (try simp only [List.setIfInBounds_toArray, List.set_cons_succ, List.set_cons_zero])
    refine go_take 14 32 #[true, true, true, true, true, true, true, true, true, true, true, true, true, true, true, false, false, false, false, false, false, false, false, false, false, false, false, false, false, false, false, false, false, false, false, false, false, false, false, false, false, false, false, false] (v := ?uv3) rfl rfl rfl (by kernel_rfl) (by kernel_rfl) (by kernel_rfl) (by kernel_rfl) (by kernel_rfl) (Or.inl ⟨by rfl, ?uy3⟩) (hkW56) ?urest3
    case uy3 => (intro _ _; go_simp; try with_reducible rfl)
    (try simp only [List.setIfInBounds_toArray, List.set_cons_succ, List.set_cons_zero])
    refine go_take 15 33 #[true, true, true, true, true, true, true, true, true, true, true, true, true, true, true, true, false, false, false, false, false, false, false, false, false, false, false, false, false, false, false, false, false, false, false, false, false, false, false, false, false, false, false, false] (v := ?uv4) rfl rfl rfl (by kernel_rfl) (by kernel_rfl) (by kernel_rfl) (by kernel_rfl) (by kernel_rfl) (Or.inl ⟨by rfl, ?uy4⟩) (hkW56) ?urest4
    case uy4 => (intro _ _; go_simp; try with_reducible rfl)
    (try simp only [List.setIfInBounds_toArray, List.set_cons_succ, List.set_cons_zero])
    refine go_take 16 34 #[true, true, true, true, true, true, true, true, true, true, true, true, true, true, true, true, true, false, false, false, false, false, false, false, false, false, false, false, false, false, false, false, false, false, false, false, false, false, false, false, false, false, false, false] (v := ?uv5) rfl rfl rfl (by kernel_rfl) (by kernel_rfl) (by kernel_rfl) (by kernel_rfl) (by kernel_rfl) (Or.inl ⟨by rfl, ?uy5⟩) (hkW56) ?urest5
    case uy5 => (intro _ _; go_simp; try with_reducible rfl)
    (try simp only [List.setIfInBounds_toArray, List.set_cons_succ, List.set_cons_zero])
    refine go_take 17 35 #[true, true, true, true, true, true, true, true, true, true, true, true, true, true, true, true, true, true, false, false, false, false, false, false, false, false, false, false, false, false, false, false, false, false, false, false, false, false, false, false, false, false, false, false] rfl rfl rfl (by kernel_rfl) (by kernel_rfl) (by kernel_rfl) (by kernel_rfl) (by kernel_rfl) (yieldsIf_load_row (by rfl) 36 _ rfl (B7) rfl 36 (e4 a1) (fun _ h => M7.out.below h M7.out.lt) Try.underlying36 rfl (by rw [e4_size]; kernel_rfl)) (hkW56) ?_
    (try simp only [List.setIfInBounds_toArray, List.set_cons_succ, List.set_cons_zero])
    refine go_take 18 36 #[true, true, true, true, true, true, true, true, true, true, true, true, true, true, true, true, true, true, true, false, false, false, false, false, false, false, false, false, false, false, false, false, false, false, false, false, false, false, false, false, false, false, false, false] rfl rfl rfl (by kernel_rfl) (by kernel_rfl) (by kernel_rfl) (by kernel_rfl) (by kernel_rfl) (yieldsIf_load_row (by rfl) 36 _ rfl (B8) rfl 36 (e4 a2) (fun _ h => M8.out.below h M8.out.lt) Try.underlying36 rfl (by rw [e4_size]; kernel_rfl)) (hkW56) ?_
    (try simp only [List.setIfInBounds_toArray, List.set_cons_succ, List.set_cons_zero])
    refine go_take 20 38 #[true, true, true, true, true, true, true, true, true, true, true, true, true, true, true, true, true, true, true, false, true, false, false, false, false, false, false, false, false, false, false, false, false, false, false, false, false, false, false, false, false, false, false, false] rfl rfl rfl (by kernel_rfl) (by kernel_rfl) (by kernel_rfl) (by kernel_rfl) (by kernel_rfl) (yieldsIf_load_row (by rfl) 36 _ rfl (B8) rfl 36 (e4 a2) (fun _ h => M8.out.below h M8.out.lt) Try.underlying36 rfl (by rw [e4_size]; kernel_rfl)) (hkW56) ?_
    (try simp only [List.setIfInBounds_toArray, List.set_cons_succ, List.set_cons_zero])
    refine go_take 21 39 #[true, true, true, true, true, true, true, true, true, true, true, true, true, true, true, true, true, true, true, false, true, true, false, false, false, false, false, false, false, false, false, false, false, false, false, false, false, false, false, false, false, false, false, false] rfl rfl rfl (by kernel_rfl) (by kernel_rfl) (by kernel_rfl) (by kernel_rfl) (by kernel_rfl) (yieldsIf_load_row (by rfl) 36 _ rfl (B7) rfl 36 (e4 a1) (fun _ h => M7.out.below h M7.out.lt) Try.underlying36 rfl (by rw [e4_size]; kernel_rfl)) (hkW56) ?_
    (try simp only [List.setIfInBounds_toArray, List.set_cons_succ, List.set_cons_zero])
    refine wpBut_r1 (i := 19) (by kernel_rfl) ?_
    refine go_call 19 37 #[true, true, true, true, true, true, true, true, true, true, true, true, true, true, true, true, true, true, true, true, true, true, false, false, false, false, false, false, false, false, false, false, false, false, false, false, false, false, false, false, false, false, false, false] rfl rfl rfl (by rfl) rfl rfl (by rfl) ent37 (by rfl) (Hp.out a1 a2 Hal1.out Hal2.out _) ?_
    rintro e wW57 ⟨p5, hp5, hp5r, rfl, hb⟩
    have hkW57 := held_next hkW56 hb
    refine ⟨_, rfl, fun _ => hkW57, ?_⟩
    clear hb
    (try simp only [List.setIfInBounds_toArray, List.set_cons_succ, List.set_cons_zero])
    refine wpBut_r1 (i := 22) (by kernel_rfl) ?_
    refine go_call 22 40 #[true, true, true, true, true, true, true, true, true, true, true, true, true, true, true, true, true, true, true, true, true, true, true, false, false, false, false, false, false, false, false, false, false, false, false, false, false, false, false, false, false, false, false, false] rfl rfl rfl (by rfl) rfl rfl (by rfl) ent37 (by rfl) (Hp.out a2 a1 Hal2.out Hal1.out _) ?_
    rintro e wW58 ⟨p6, hp6, hp6r, rfl, hb⟩
    have hkW58 := held_next hkW57 hb
    refine ⟨_, rfl, fun _ => hkW58, ?_⟩
    clear hb
    (try simp only [List.setIfInBounds_toArray, List.set_cons_succ, List.set_cons_zero])
    refine wpBut_r1 (i := 23) (by kernel_rfl) ?_
    refine go_call 23 41 #[true, true, true, true, true, true, true, true, true, true, true, true, true, true, true, true, true, true, true, true, true, true, true, true, false, false, false, false, false, false, false, false, false, false, false, false, false, false, false, false, false, false, false, false] rfl rfl rfl (by rfl) rfl rfl (by rfl) ent41 (by rfl) (Hyes.out p5 p6 hp5 hp6 (ru_2 a1 a2 p5 p6 hp5r hp6r) _) ?_
    rintro e wW59 ⟨rfl, hb⟩
    have hkW59 := held_next hkW58 hb
    refine ⟨_, rfl, fun _ => hkW59, ?_⟩
    clear hb
    (try simp only [List.setIfInBounds_toArray, List.set_cons_succ, List.set_cons_zero])
    refine go_take 24 42 #[true, true, true, true, true, true, true, true, true, true, true, true, true, true, true, true, true, true, true, true, true, true, true, true, true, false, false, false, false, false, false, false, false, false, false, false, false, false, false, false, false, false, false, false] (v := ?uv6) rfl rfl rfl (by kernel_rfl) (by kernel_rfl) (by kernel_rfl) (by kernel_rfl) (by kernel_rfl) (Or.inl ⟨by rfl, ?uy6⟩) (hkW59) ?urest6
    case uy6 => (intro _ _; go_simp; try with_reducible rfl)
    (try simp only [List.setIfInBounds_toArray, List.set_cons_succ, List.set_cons_zero])
    refine go_take 25 43 #[true, true, true, true, true, true, true, true, true, true, true, true, true, true, true, true, true, true, true, true, true, true, true, true, true, true, false, false, false, false, false, false, false, false, false, false, false, false, false, false, false, false, false, false] (v := ?uv7) rfl rfl rfl (by kernel_rfl) (by kernel_rfl) (by kernel_rfl) (by kernel_rfl) (by kernel_rfl) (Or.inl ⟨by rfl, ?uy7⟩) (hkW59) ?urest7
    case uy7 => (intro _ _; go_simp; try with_reducible rfl)
    (try simp only [List.setIfInBounds_toArray, List.set_cons_succ, List.set_cons_zero])
    refine go_take 26 44 #[true, true, true, true, true, true, true, true, true, true, true, true, true, true, true, true, true, true, true, true, true, true, true, true, true, true, true, false, false, false, false, false, false, false, false, false, false, false, false, false, false, false, false, false] (v := ?uv8) rfl rfl rfl (by kernel_rfl) (by kernel_rfl) (by kernel_rfl) (by kernel_rfl) (by kernel_rfl) (Or.inl ⟨by rfl, ?uy8⟩) (hkW59) ?urest8
    case uy8 => (intro _ _; go_simp; try with_reducible rfl)
    (try simp only [List.setIfInBounds_toArray, List.set_cons_succ, List.set_cons_zero])
    refine go_take 27 45 #[true, true, true, true, true, true, true, true, true, true, true, true, true, true, true, true, true, true, true, true, true, true, true, true, true, true, true, true, false, false, false, false, false, false, false, false, false, false, false, false, false, false, false, false] rfl rfl rfl (by kernel_rfl) (by kernel_rfl) (by kernel_rfl) (by kernel_rfl) (by kernel_rfl) (yieldsIf_load_row (by rfl) 36 _ rfl (B7) rfl 36 (e4 a1) (fun _ h => M7.out.below h M7.out.lt) Try.underlying36 rfl (by rw [e4_size]; kernel_rfl)) (hkW59) ?_
    (try simp only [List.setIfInBounds_toArray, List.set_cons_succ, List.set_cons_zero])
    refine go_take 28 46 #[true, true, true, true, true, true, true, true, true, true, true, true, true, true, true, true, true, true, true, true, true, true, true, true, true, true, true, true, true, false, false, false, false, false, false, false, false, false, false, false, false, false, false, false] rfl rfl rfl (by kernel_rfl) (by kernel_rfl) (by kernel_rfl) (by kernel_rfl) (by kernel_rfl) (yieldsIf_load_row (by rfl) 36 _ rfl (B8) rfl 36 (e4 a2) (fun _ h => M8.out.below h M8.out.lt) Try.underlying36 rfl (by rw [e4_size]; kernel_rfl)) (hkW59) ?_
    (try simp only [List.setIfInBounds_toArray, List.set_cons_succ, List.set_cons_zero])
    refine go_take 30 48 #[true, true, true, true, true, true, true, true, true, true, true, true, true, true, true, true, true, true, true, true, true, true, true, true, true, true, true, true, true, false, true, false, false, false, false, false, false, false, false, false, false, false, false, false] rfl rfl rfl (by kernel_rfl) (by kernel_rfl) (by kernel_rfl) (by kernel_rfl) (by kernel_rfl) (yieldsIf_load_row (by rfl) 36 _ rfl (B8) rfl 36 (e4 a2) (fun _ h => M8.out.below h M8.out.lt) Try.underlying36 rfl (by rw [e4_size]; kernel_rfl)) (hkW59) ?_
    (try simp only [List.setIfInBounds_toArray, List.set_cons_succ, List.set_cons_zero])
    refine go_take 32 50 #[true, true, true, true, true, true, true, true, true, true, true, true, true, true, true, true, true, true, true, true, true, true, true, true, true, true, true, true, true, false, true, false, true, false, false, false, false, false, false, false, false, false, false, false] rfl rfl rfl (by kernel_rfl) (by kernel_rfl) (by kernel_rfl) (by kernel_rfl) (by kernel_rfl) (yieldsIf_load_row (by rfl) 36 _ rfl (B7) rfl 36 (e4 a1) (fun _ h => M7.out.below h M7.out.lt) Try.underlying36 rfl (by rw [e4_size]; kernel_rfl)) (hkW59) ?_
    (try simp only [List.setIfInBounds_toArray, List.set_cons_succ, List.set_cons_zero])
    refine wpBut_r1 (i := 29) (by kernel_rfl) ?_
    refine go_call 29 47 #[true, true, true, true, true, true, true, true, true, true, true, true, true, true, true, true, true, true, true, true, true, true, true, true, true, true, true, true, true, true, true, false, true, false, false, false, false, false, false, false, false, false, false, false] rfl rfl rfl (by rfl) rfl rfl (by rfl) ent39 (by rfl) (Hmi.out a1 a2 Hal1.out Hal2.out _) ?_
    rintro e wW510 ⟨p7, hp7, hp7r, rfl, hb⟩
    have hkW510 := held_next hkW59 hb
    refine ⟨_, rfl, fun _ => hkW510, ?_⟩
    clear hb
    (try simp only [List.setIfInBounds_toArray, List.set_cons_succ, List.set_cons_zero])
    refine wpBut_r1 (i := 31) (by kernel_rfl) ?_
    refine go_call 31 49 #[true, true, true, true, true, true, true, true, true, true, true, true, true, true, true, true, true, true, true, true, true, true, true, true, true, true, true, true, true, true, true, true, true, false, false, false, false, false, false, false, false, false, false, false] rfl rfl rfl (by rfl) rfl rfl (by rfl) ent37 (by rfl) (Hp.out p7 a2 hp7 Hal2.out _) ?_
    rintro e wW511 ⟨p8, hp8, hp8r, rfl, hb⟩
    have hkW511 := held_next hkW510 hb
    refine ⟨_, rfl, fun _ => hkW511, ?_⟩
    clear hb
    (try simp only [List.setIfInBounds_toArray, List.set_cons_succ, List.set_cons_zero])
    refine wpBut_r1 (i := 33) (by kernel_rfl) ?_
    refine go_call 33 51 #[true, true, true, true, true, true, true, true, true, true, true, true, true, true, true, true, true, true, true, true, true, true, true, true, true, true, true, true, true, true, true, true, true, true, false, false, false, false, false, false, false, false, false, false] rfl rfl rfl (by rfl) rfl rfl (by rfl) ent41 (by rfl) (Hyes.out p8 a1 hp8 Hal1.out (ru_3 a1 a2 p7 p8 hp7r hp8r) _) ?_
    rintro e wW512 ⟨rfl, hb⟩
    have hkW512 := held_next hkW511 hb
    refine ⟨_, rfl, fun _ => hkW512, ?_⟩
    clear hb
    (try simp only [List.setIfInBounds_toArray, List.set_cons_succ, List.set_cons_zero])
    refine go_take 34 52 #[true, true, true, true, true, true, true, true, true, true, true, true, true, true, true, true, true, true, true, true, true, true, true, true, true, true, true, true, true, true, true, true, true, true, true, false, false, false, false, false, false, false, false, false] (v := ?uv9) rfl rfl rfl (by kernel_rfl) (by kernel_rfl) (by kernel_rfl) (by kernel_rfl) (by kernel_rfl) (Or.inl ⟨by rfl, ?uy9⟩) (hkW512) ?urest9
    case uy9 => (intro _ _; go_simp; try with_reducible rfl)
    (try simp only [List.setIfInBounds_toArray, List.set_cons_succ, List.set_cons_zero])
    refine go_take 35 53 #[true, true, true, true, true, true, true, true, true, true, true, true, true, true, true, true, true, true, true, true, true, true, true, true, true, true, true, true, true, true, true, true, true, true, true, true, false, false, false, false, false, false, false, false] (v := ?uv10) rfl rfl rfl (by kernel_rfl) (by kernel_rfl) (by kernel_rfl) (by kernel_rfl) (by kernel_rfl) (Or.inl ⟨by rfl, ?uy10⟩) (hkW512) ?urest10
    case uy10 => (intro _ _; go_simp; try with_reducible rfl)
    (try simp only [List.setIfInBounds_toArray, List.set_cons_succ, List.set_cons_zero])
    refine go_take 36 54 #[true, true, true, true, true, true, true, true, true, true, true, true, true, true, true, true, true, true, true, true, true, true, true, true, true, true, true, true, true, true, true, true, true, true, true, true, true, false, false, false, false, false, false, false] (v := ?uv11) rfl rfl rfl (by kernel_rfl) (by kernel_rfl) (by kernel_rfl) (by kernel_rfl) (by kernel_rfl) (Or.inl ⟨by rfl, ?uy11⟩) (hkW512) ?urest11
    case uy11 => (intro _ _; go_simp; try with_reducible rfl)
    (try simp only [List.setIfInBounds_toArray, List.set_cons_succ, List.set_cons_zero])
    refine go_take 37 55 #[true, true, true, true, true, true, true, true, true, true, true, true, true, true, true, true, true, true, true, true, true, true, true, true, true, true, true, true, true, true, true, true, true, true, true, true, true, true, false, false, false, false, false, false] rfl rfl rfl (by kernel_rfl) (by kernel_rfl) (by kernel_rfl) (by kernel_rfl) (by kernel_rfl) (yieldsIf_load_row (by rfl) 36 _ rfl (B7) rfl 36 (e4 a1) (fun _ h => M7.out.below h M7.out.lt) Try.underlying36 rfl (by rw [e4_size]; kernel_rfl)) (hkW512) ?_
    (try simp only [List.setIfInBounds_toArray, List.set_cons_succ, List.set_cons_zero])
    refine go_take 38 56 #[true, true, true, true, true, true, true, true, true, true, true, true, true, true, true, true, true, true, true, true, true, true, true, true, true, true, true, true, true, true, true, true, true, true, true, true, true, true, true, false, false, false, false, false] rfl rfl rfl (by kernel_rfl) (by kernel_rfl) (by kernel_rfl) (by kernel_rfl) (by kernel_rfl) (yieldsIf_load_row (by rfl) 36 _ rfl (B7) rfl 36 (e4 a1) (fun _ h => M7.out.below h M7.out.lt) Try.underlying36 rfl (by rw [e4_size]; kernel_rfl)) (hkW512) ?_
    (try simp only [List.setIfInBounds_toArray, List.set_cons_succ, List.set_cons_zero])
    refine go_take 40 58 #[true, true, true, true, true, true, true, true, true, true, true, true, true, true, true, true, true, true, true, true, true, true, true, true, true, true, true, true, true, true, true, true, true, true, true, true, true, true, true, false, true, false, false, false] (v := ?uv12) rfl rfl rfl (by kernel_rfl) (by kernel_rfl) (by kernel_rfl) (by kernel_rfl) (by kernel_rfl) (Or.inl ⟨by rfl, ?uy12⟩) (hkW512) ?urest12
    case uy12 => (intro _ _; go_simp; try with_reducible rfl)
    (try simp only [List.setIfInBounds_toArray, List.set_cons_succ, List.set_cons_zero])
    refine wpBut_r1 (i := 39) (by kernel_rfl) ?_
    refine go_call 39 57 #[true, true, true, true, true, true, true, true, true, true, true, true, true, true, true, true, true, true, true, true, true, true, true, true, true, true, true, true, true, true, true, true, true, true, true, true, true, true, true, true, true, false, false, false] rfl rfl rfl (by rfl) rfl rfl (by rfl) ent39 (by rfl) (Hmi.out a1 a1 Hal1.out Hal1.out _) ?_
    rintro e wW513 ⟨p9, hp9, hp9r, rfl, hb⟩
    have hkW513 := held_next hkW512 hb
    refine ⟨_, rfl, fun _ => hkW513, ?_⟩
    clear hb
    (try simp only [List.setIfInBounds_toArray, List.set_cons_succ, List.set_cons_zero])
    refine wpBut_r1 (i := 41) (by kernel_rfl) ?_
    refine go_call 41 59 #[true, true, true, true, true, true, true, true, true, true, true, true, true, true, true, true, true, true, true, true, true, true, true, true, true, true, true, true, true, true, true, true, true, true, true, true, true, true, true, true, true, true, false, false] rfl rfl rfl (by rfl) rfl rfl (by rfl) ent41 (by rfl) (Hz0.out p9 hp9 (ru_4 a1 p9 hp9r) _) ?_
    rintro e wW514 ⟨rfl, hb⟩
    have hkW514 := held_next hkW513 hb
    refine ⟨_, rfl, fun _ => hkW514, ?_⟩
    clear hb
    (try simp only [List.setIfInBounds_toArray, List.set_cons_succ, List.set_cons_zero])
    refine go_take 42 60 #[true, true, true, true, true, true, true, true, true, true, true, true, true, true, true, true, true, true, true, true, true, true, true, true, true, true, true, true, true, true, true, true, true, true, true, true, true, true, true, true, true, true, true, false] (v := ?uv13) rfl rfl rfl (by kernel_rfl) (by kernel_rfl) (by kernel_rfl) (by kernel_rfl) (by kernel_rfl) (Or.inl ⟨by rfl, ?uy13⟩) (hkW514) ?urest13
    case uy13 => (intro _ _; go_simp; try with_reducible rfl)
    (try simp only [List.setIfInBounds_toArray, List.set_cons_succ, List.set_cons_zero])
    refine go_take 43 61 #[true, true, true, true, true, true, true, true, true, true, true, true, true, true, true, true, true, true, true, true, true, true, true, true, true, true, true, true, true, true, true, true, true, true, true, true, true, true, true, true, true, true, true, true] (v := ?uv14) rfl rfl rfl (by kernel_rfl) (by kernel_rfl) (by kernel_rfl) (by kernel_rfl) (by kernel_rfl) (Or.inl ⟨by rfl, ?uy14⟩) (hkW514) ?urest14
    case uy14 => (intro _ _; go_simp; try with_reducible rfl)
    (try simp only [List.setIfInBounds_toArray, List.set_cons_succ, List.set_cons_zero])
    refine wpBut_done (by kernel_rfl) (NoPanic.normal ?_)
    have kq := M7.out.call hkW514; clear M7; have M7 := Lib.hid kq; clear kq
    have kq := M8.out.call hkW514; clear M8; have M8 := Lib.hid kq; clear kq
    have kq := M9.out.call hkW514; clear M9; have M9 := Lib.hid kq; clear kq
    have kq := M10.out.call hkW514; clear M10; have M10 := Lib.hid kq; clear kq
    have hBq := held_next HB.out hkW514; clear HB; have HB := Lib.hid hBq; clear hBq
    repeat ((fail_if_success (with_reducible (show wpList _ _ _ _ _ _))); go_step)
    refine wp_region_noPanic ?_
    refine wp_region_go 99 43 #[false, false, false, false, false, false, false, false, false, false, false, false, false, false, false, false, false, false, false, false, false, false, false, false, false, false, false, false, false, false, false, false, false, false, false, false, false, false, false, false, false, false, false] (by kernel_rfl) rfl rfl ?_
    intro W6 hW6
    have kq := M7.out; rw [← hW6] at kq; clear M7; have M7 := Lib.hid kq; clear kq
    have kq := M8.out; rw [← hW6] at kq; clear M8; have M8 := Lib.hid kq; clear kq
    have kq := M9.out; rw [← hW6] at kq; clear M9; have M9 := Lib.hid kq; clear kq
    have kq := M10.out; rw [← hW6] at kq; clear M10; have M10 := Lib.hid kq; clear kq
    have kq := HB.out; rw [← hW6] at kq; clear HB; have HB := Lib.hid kq; clear kq
    clear hW6
    refine go_take 0 62 #[true, false, false, false, false, false, false, false, false, false, false, false, false, false, false, false, false, false, false, false, false, false, false, false, false, false, false, false, false, false, false, false, false, false, false, false, false, false, false, false, false, false, false] rfl rfl rfl (by kernel_rfl) (by kernel_rfl) (by kernel_rfl) (by kernel_rfl) (by kernel_rfl) (yieldsIf_load_row (by rfl) 36 _ rfl (B7) rfl 36 (e4 a1) (fun _ h => M7.out.below h M7.out.lt) Try.underlying36 rfl (by rw [e4_size]; kernel_rfl)) ((show Below W6.heap.size W6 W6.drew from (Below.refl _ _).drew)) ?_
    (try simp only [List.setIfInBounds_toArray, List.set_cons_succ, List.set_cons_zero])
    refine go_take 1 63 #[true, true, false, false, false, false, false, false, false, false, false, false, false, false, false, false, false, false, false, false, false, false, false, false, false, false, false, false, false, false, false, false, false, false, false, false, false, false, false, false, false, false, false] rfl rfl rfl (by kernel_rfl) (by kernel_rfl) (by kernel_rfl) (by kernel_rfl) (by kernel_rfl) (yieldsIf_load_row (by rfl) 36 _ rfl (B8) rfl 36 (e4 a2) (fun _ h => M8.out.below h M8.out.lt) Try.underlying36 rfl (by rw [e4_size]; kernel_rfl)) ((show Below W6.heap.size W6 W6.drew from (Below.refl _ _).drew)) ?_
    (try simp only [List.setIfInBounds_toArray, List.set_cons_succ, List.set_cons_zero])
    refine go_take 2 64 #[true, true, true, false, false, false, false, false, false, false, false, false, false, false, false, false, false, false, false, false, false, false, false, false, false, false, false, false, false, false, false, false, false, false, false, false, false, false, false, false, false, false, false] rfl rfl rfl (by kernel_rfl) (by kernel_rfl) (by kernel_rfl) (by kernel_rfl) (by kernel_rfl) (yieldsIf_load_row (by rfl) 36 _ rfl (B9) rfl 36 (e4 a3) (fun _ h => M9.out.below h M9.out.lt) Try.underlying36 rfl (by rw [e4_size]; kernel_rfl)) ((show Below W6.heap.size W6 W6.drew from (Below.refl _ _).drew)) ?_
    (try simp only [List.setIfInBounds_toArray, List.set_cons_succ, List.set_cons_zero])
    refine go_take 5 67 #[true, true, true, false, false, true, false, false, false, false, false, false, false, false, false, false, false, false, false, false, false, false, false, false, false, false, false, false, false, false, false, false, false, false, false, false, false, false, false, false, false, false, false] rfl rfl rfl (by kernel_rfl) (by kernel_rfl) (by kernel_rfl) (by kernel_rfl) (by kernel_rfl) (yieldsIf_load_row (by rfl) 36 _ rfl (B7) rfl 36 (e4 a1) (fun _ h => M7.out.below h M7.out.lt) Try.underlying36 rfl (by rw [e4_size]; kernel_rfl)) ((show Below W6.heap.size W6 W6.drew from (Below.refl _ _).drew)) ?_
    (try simp only [List.setIfInBounds_toArray, List.set_cons_succ, List.set_cons_zero])
    refine go_take 6 68 #[true, true, true, false, false, true, true, false, false, false, false, false, false, false, false, false, false, false, false, false, false, false, false, false, false, false, false, false, false, false, false, false, false, false, false, false, false, false, false, false, false, false, false] rfl rfl rfl (by kernel_rfl) (by kernel_rfl) (by kernel_rfl) (by kernel_rfl) (by kernel_rfl) (yieldsIf_load_row (by rfl) 36 _ rfl (B8) rfl 36 (e4 a2) (fun _ h => M8.out.below h M8.out.lt) Try.underlying36 rfl (by rw [e4_size]; kernel_rfl)) ((show Below W6.heap.size W6 W6.drew from (Below.refl _ _).drew)) ?_
    (try simp only [List.setIfInBounds_toArray, List.set_cons_succ, List.set_cons_zero])
    refine go_take 8 70 #[true, true, true, false, false, true, true, false, true, false, false, false, false, false, false, false, false, false, false, false, false, false, false, false, false, false, false, false, false, false, false, false, false, false, false, false, false, false, false, false, false, false, false] rfl rfl rfl (by kernel_rfl) (by kernel_rfl) (by kernel_rfl) (by kernel_rfl) (by kernel_rfl) (yieldsIf_load_row (by rfl) 36 _ rfl (B9) rfl 36 (e4 a3) (fun _ h => M9.out.below h M9.out.lt) Try.underlying36 rfl (by rw [e4_size]; kernel_rfl)) ((show Below W6.heap.size W6 W6.drew from (Below.refl _ _).drew)) ?_
    (try simp only [List.setIfInBounds_toArray, List.set_cons_succ, List.set_cons_zero])
    refine wpBut_r1 (i := 3) (by kernel_rfl) ?_
    refine go_call 3 65 #[true, true, true, true, false, true, true, false, true, false, false, false, false, false, false, false, false, false, false, false, false, false, false, false, false, false, false, false, false, false, false, false, false, false, false, false, false, false, false, false, false, false, false] rfl rfl rfl (by rfl) rfl rfl (by rfl) ent31 (by rfl) (Ht.out a2 a3 Hal2.out Hal3.out _) ?_
    rintro e wW61 ⟨q1, hq1, hq1r, rfl, hb⟩
    have hkW61 := held_next (show Below W6.heap.size W6 W6.drew from (Below.refl _ _).drew) hb
    refine ⟨_, rfl, fun _ => hkW61, ?_⟩
    clear hb
    (try simp only [List.setIfInBounds_toArray, List.set_cons_succ, List.set_cons_zero])
    refine wpBut_r1 (i := 4) (by kernel_rfl) ?_
    refine go_call 4 66 #[true, true, true, true, true, true, true, false, true, false, false, false, false, false, false, false, false, false, false, false, false, false, false, false, false, false, false, false, false, false, false, false, false, false, false, false, false, false, false, false, false, false, false] rfl rfl rfl (by rfl) rfl rfl (by rfl) ent31 (by rfl) (Ht.out a1 q1 Hal1.out hq1 _) ?_
    rintro e wW62 ⟨q2, hq2, hq2r, rfl, hb⟩
    have hkW62 := held_next hkW61 hb
    refine ⟨_, rfl, fun _ => hkW62, ?_⟩
    clear hb
    (try simp only [List.setIfInBounds_toArray, List.set_cons_succ, List.set_cons_zero])
    refine wpBut_r1 (i := 7) (by kernel_rfl) ?_
    refine go_call 7 69 #[true, true, true, true, true, true, true, true, true, false, false, false, false, false, false, false, false, false, false, false, false, false, false, false, false, false, false, false, false, false, false, false, false, false, false, false, false, false, false, false, false, false, false] rfl rfl rfl (by rfl) rfl rfl (by rfl) ent31 (by rfl) (Ht.out a1 a2 Hal1.out Hal2.out _) ?_
    rintro e wW63 ⟨q3, hq3, hq3r, rfl, hb⟩
    have hkW63 := held_next hkW62 hb
    refine ⟨_, rfl, fun _ => hkW63, ?_⟩
    clear hb
    (try simp only [List.setIfInBounds_toArray, List.set_cons_succ, List.set_cons_zero])
    refine wpBut_r1 (i := 9) (by kernel_rfl) ?_
    refine go_call 9 71 #[true, true, true, true, true, true, true, true, true, true, false, false, false, false, false, false, false, false, false, false, false, false, false, false, false, false, false, false, false, false, false, false, false, false, false, false, false, false, false, false, false, false, false] rfl rfl rfl (by rfl) rfl rfl (by rfl) ent31 (by rfl) (Ht.out q3 a3 hq3 Hal3.out _) ?_
    rintro e wW64 ⟨q4, hq4, hq4r, rfl, hb⟩
    have hkW64 := held_next hkW63 hb
    refine ⟨_, rfl, fun _ => hkW64, ?_⟩
    clear hb
    (try simp only [List.setIfInBounds_toArray, List.set_cons_succ, List.set_cons_zero])
    refine wpBut_r1 (i := 10) (by kernel_rfl) ?_
    refine go_call 10 72 #[true, true, true, true, true, true, true, true, true, true, true, false, false, false, false, false, false, false, false, false, false, false, false, false, false, false, false, false, false, false, false, false, false, false, false, false, false, false, false, false, false, false, false] rfl rfl rfl (by rfl) rfl rfl (by rfl) ent41 (by rfl) (Hyes.out q2 q4 hq2 hq4 (ru_5 a1 a2 a3 q1 q2 q3 q4 hq1r hq2r hq3r hq4r) _) ?_
    rintro e wW65 ⟨rfl, hb⟩
    have hkW65 := held_next hkW64 hb
    refine ⟨_, rfl, fun _ => hkW65, ?_⟩
    clear hb
    (try simp only [List.setIfInBounds_toArray, List.set_cons_succ, List.set_cons_zero])
    refine go_take 11 73 #[true, true, true, true, true, true, true, true, true, true, true, true, false, false, false, false, false, false, false, false, false, false, false, false, false, false, false, false, false, false, false, false, false, false, false, false, false, false, false, false, false, false, false] (v := ?uv15) rfl rfl rfl (by kernel_rfl) (by kernel_rfl) (by kernel_rfl) (by kernel_rfl) (by kernel_rfl) (Or.inl ⟨by rfl, ?uy15⟩) (hkW65) ?urest15
    case uy15 => (intro _ _; go_simp; try with_reducible rfl)
    (try simp only [List.setIfInBounds_toArray, List.set_cons_succ, List.set_cons_zero])
    refine go_take 12 74 #[true, true, true, true, true, true, true, true, true, true, true, true, true, false, false, false, false, false, false, false, false, false, false, false, false, false, false, false, false, false, false, false, false, false, false, false, false, false, false, false, false, false, false] rfl rfl rfl (by kernel_rfl) (by kernel_rfl) (by kernel_rfl) (by kernel_rfl) (by kernel_rfl) (yieldsIf_load_row (by rfl) 36 _ rfl (B7) rfl 36 (e4 a1) (fun _ h => M7.out.below h M7.out.lt) Try.underlying36 rfl (by rw [e4_size]; kernel_rfl)) (hkW65) ?_
    (try simp only [List.setIfInBounds_toArray, List.set_cons_succ, List.set_cons_zero])
    refine go_take 13 75 #[true, true, true, true, true, true, true, true, true, true, true, true, true, true, false, false, false, false, false, false, false, false, false, false, false, false, false, false, false, false, false, false, false, false, false, false, false, false, false, false, false, false, false] rfl rfl rfl (by kernel_rfl) (by kernel_rfl) (by kernel_rfl) (by kernel_rfl) (by kernel_rfl) (yieldsIf_load_row (by rfl) 36 _ rfl (B8) rfl 36 (e4 a2) (fun _ h => M8.out.below h M8.out.lt) Try.underlying36 rfl (by rw [e4_size]; kernel_rfl)) (hkW65) ?_
    (try simp only [List.setIfInBounds_toArray, List.set_cons_succ, List.set_cons_zero])
    refine go_take 15 77 #[true, true, true, true, true, true, true, true, true, true, true, true, true, true, false, true, false, false, false, false, false, false, false, false, false, false, false, false, false, false, false, false, false, false, false, false, false, false, false, false, false, false, false] rfl rfl rfl (by kernel_rfl) (by kernel_rfl) (by kernel_rfl) (by kernel_rfl) (by kernel_rfl) (yieldsIf_load_row (by rfl) 36 _ rfl (B8) rfl 36 (e4 a2) (fun _ h => M8.out.below h M8.out.lt) Try.underlying36 rfl (by rw [e4_size]; kernel_rfl)) (hkW65) ?_
    (try simp only [List.setIfInBounds_toArray, List.set_cons_succ, List.set_cons_zero])
    refine go_take 16 78 #[true, true, true, true, true, true, true, true, true, true, true, true, true, true, false, true, true, false, false, false, false, false, false, false, false, false, false, false, false, false, false, false, false, false, false, false, false, false, false, false, false, false, false] rfl rfl rfl (by kernel_rfl) (by kernel_rfl) (by kernel_rfl) (by kernel_rfl) (by kernel_rfl) (yieldsIf_load_row (by rfl) 36 _ rfl (B7) rfl 36 (e4 a1) (fun _ h => M7.out.below h M7.out.lt) Try.underlying36 rfl (by rw [e4_size]; kernel_rfl)) (hkW65) ?_
    (try simp only [List.setIfInBounds_toArray, List.set_cons_succ, List.set_cons_zero])
    refine wpBut_r1 (i := 14) (by kernel_rfl) ?_
    refine go_call 14 76 #[true, true, true, true, true, true, true, true, true, true, true, true, true, true, true, true, true, false, false, false, false, false, false, false, false, false, false, false, false, false, false, false, false, false, false, false, false, false, false, false, false, false, false] rfl rfl rfl (by rfl) rfl rfl (by rfl) ent31 (by rfl) (Ht.out a1 a2 Hal1.out Hal2.out _) ?_
    rintro e wW66 ⟨q5, hq5, hq5r, rfl, hb⟩
    have hkW66 := held_next hkW65 hb
    refine ⟨_, rfl, fun _ => hkW66, ?_⟩
    clear hb
    (try simp only [List.setIfInBounds_toArray, List.set_cons_succ, List.set_cons_zero])
    refine wpBut_r1 (i := 17) (by kernel_rfl) ?_
    refine go_call 17 79 #[true, true, true, true, true, true, true, true, true, true, true, true, true, true, true, true, true, true, false, false, false, false, false, false, false, false, false, false, false, false, false, false, false, false, false, false, false, false, false, false, false, false, false] rfl rfl rfl (by rfl) rfl rfl (by rfl) ent31 (by rfl) (Ht.out a2 a1 Hal2.out Hal1.out _) ?_
    rintro e wW67 ⟨q6, hq6, hq6r, rfl, hb⟩
    have hkW67 := held_next hkW66 hb
    refine ⟨_, rfl, fun _ => hkW67, ?_⟩
    clear hb
    (try simp only [List.setIfInBounds_toArray, List.set_cons_succ, List.set_cons_zero])
    refine wpBut_r1 (i := 18) (by kernel_rfl) ?_
    refine go_call 18 80 #[true, true, true, true, true, true, true, true, true, true, true, true, true, true, true, true, true, true, true, false, false, false, false, false, false, false, false, false, false, false, false, false, false, false, false, false, false, false, false, false, false, false, false] rfl rfl rfl (by rfl) rfl rfl (by rfl) ent41 (by rfl) (Hyes.out q5 q6 hq5 hq6 (ru_6 a1 a2 q5 q6 hq5r hq6r) _) ?_
    rintro e wW68 ⟨rfl, hb⟩
    have hkW68 := held_next hkW67 hb
    refine ⟨_, rfl, fun _ => hkW68, ?_⟩
    clear hb
    (try simp only [List.setIfInBounds_toArray, List.set_cons_succ, List.set_cons_zero])
    refine go_take 19 81 #[true, true, true, true, true, true, true, true, true, true, true, true, true, true, true, true, true, true, true, true, false, false, false, false, false, false, false, false, false, false, false, false, false, false, false, false, false, false, false, false, false, false, false] (v := ?uv16) rfl rfl rfl (by kernel_rfl) (by kernel_rfl) (by kernel_rfl) (by kernel_rfl) (by kernel_rfl) (Or.inl ⟨by rfl, ?uy16⟩) (hkW68) ?urest16
    case uy16 => (intro _ _; go_simp; try with_reducible rfl)
    (try simp only [List.setIfInBounds_toArray, List.set_cons_succ, List.set_cons_zero])
    refine go_take 20 82 #[true, true, true, true, true, true, true, true, true, true, true, true, true, true, true, true, true, true, true, true, true, false, false, false, false, false, false, false, false, false, false, false, false, false, false, false, false, false, false, false, false, false, false] (v := ?uv17) rfl rfl rfl (by kernel_rfl) (by kernel_rfl) (by kernel_rfl) (by kernel_rfl) (by kernel_rfl) (Or.inl ⟨by rfl, ?uy17⟩) (hkW68) ?urest17
    case uy17 => (intro _ _; go_simp; try with_reducible rfl)
    (try simp only [List.setIfInBounds_toArray, List.set_cons_succ, List.set_cons_zero])
    refine go_take 21 83 #[true, true, true, true, true, true, true, true, true, true, true, true, true, true, true, true, true, true, true, true, true, true, false, false, false, false, false, false, false, false, false, false, false, false, false, false, false, false, false, false, false, false, false] rfl rfl rfl (by kernel_rfl) (by kernel_rfl) (by kernel_rfl) (by kernel_rfl) (by kernel_rfl) (yieldsIf_load_row (by rfl) 36 _ rfl (B7) rfl 36 (e4 a1) (fun _ h => M7.out.below h M7.out.lt) Try.underlying36 rfl (by rw [e4_size]; kernel_rfl)) (hkW68) ?_
    (try simp only [List.setIfInBounds_toArray, List.set_cons_succ, List.set_cons_zero])
    refine go_take 22 84 #[true, true, true, true, true, true, true, true, true, true, true, true, true, true, true, true, true, true, true, true, true, true, true, false, false, false, false, false, false, false, false, false, false, false, false, false, false, false, false, false, false, false, false] rfl rfl rfl (by kernel_rfl) (by kernel_rfl) (by kernel_rfl) (by kernel_rfl) (by kernel_rfl) (yieldsIf_load_row (by rfl) 36 _ rfl (u1.heap.size) rfl 36 (e4 1) (fun _ h => M10.out.below h M10.out.lt) Try.underlying36 rfl (by rw [e4_size]; kernel_rfl)) (hkW68) ?_
    (try simp only [List.setIfInBounds_toArray, List.set_cons_succ, List.set_cons_zero])
    refine go_take 24 86 #[true, true, true, true, true, true, true, true, true, true, true, true, true, true, true, true, true, true, true, true, true, true, true, false, true, false, false, false, false, false, false, false, false, false, false, false, false, false, false, false, false, false, false] rfl rfl rfl (by kernel_rfl) (by kernel_rfl) (by kernel_rfl) (by kernel_rfl) (by kernel_rfl) (yieldsIf_load_row (by rfl) 36 _ rfl (B7) rfl 36 (e4 a1) (fun _ h => M7.out.below h M7.out.lt) Try.underlying36 rfl (by rw [e4_size]; kernel_rfl)) (hkW68) ?_
    (try simp only [List.setIfInBounds_toArray, List.set_cons_succ, List.set_cons_zero])
    refine wpBut_r1 (i := 23) (by kernel_rfl) ?_
    refine go_call 23 85 #[true, true, true, true, true, true, true, true, true, true, true, true, true, true, true, true, true, true, true, true, true, true, true, true, true, false, false, false, false, false, false, false, false, false, false, false, false, false, false, false, false, false, false] rfl rfl rfl (by rfl) rfl rfl (by rfl) ent31 (by rfl) (Ht.out a1 1 Hal1.out H1l.out _) ?_
    rintro e wW69 ⟨q7, hq7, hq7r, rfl, hb⟩
    have hkW69 := held_next hkW68 hb
    refine ⟨_, rfl, fun _ => hkW69, ?_⟩
    clear hb
    (try simp only [List.setIfInBounds_toArray, List.set_cons_succ, List.set_cons_zero])
    refine wpBut_r1 (i := 25) (by kernel_rfl) ?_
    refine go_call 25 87 #[true, true, true, true, true, true, true, true, true, true, true, true, true, true, true, true, true, true, true, true, true, true, true, true, true, true, false, false, false, false, false, false, false, false, false, false, false, false, false, false, false, false, false] rfl rfl rfl (by rfl) rfl rfl (by rfl) ent41 (by rfl) (Hyes.out q7 a1 hq7 Hal1.out (ru_7 a1 q7 hq7r) _) ?_
    rintro e wW610 ⟨rfl, hb⟩
    have hkW610 := held_next hkW69 hb
    refine ⟨_, rfl, fun _ => hkW610, ?_⟩
    clear hb
    (try simp only [List.setIfInBounds_toArray, List.set_cons_succ, List.set_cons_zero])
    refine go_take 26 88 #[true, true, true, true, true, true, true, true, true, true, true, true, true, true, true, true, true, true, true, true, true, true, true, true, true, true, true, false, false, false, false, false, false, false, false, false, false, false, false, false, false, false, false] (v := ?uv18) rfl rfl rfl (by kernel_rfl) (by kernel_rfl) (by kernel_rfl) (by kernel_rfl) (by kernel_rfl) (Or.inl ⟨by rfl, ?uy18⟩) (hkW610) ?urest18
    case uy18 => (intro _ _; go_simp; try with_reducible rfl)
    (try simp only [List.setIfInBounds_toArray, List.set_cons_succ, List.set_cons_zero])
    refine go_take 27 89 #[true, true, true, true, true, true, true, true, true, true, true, true, true, true, true, true, true, true, true, true, true, true, true, true, true, true, true, true, false, false, false, false, false, false, false, false, false, false, false, false, false, false, false] (v := ?uv19) rfl rfl rfl (by kernel_rfl) (by kernel_rfl) (by kernel_rfl) (by kernel_rfl) (by kernel_rfl) (Or.inl ⟨by rfl, ?uy19⟩) (hkW610) ?urest19
    case uy19 => (intro _ _; go_simp; try with_reducible rfl)
    (try simp only [List.setIfInBounds_toArray, List.set_cons_succ, List.set_cons_zero])
    refine go_take 28 90 #[true, true, true, true, true, true, true, true, true, true, true, true, true, true, true, true, true, true, true, true, true, true, true, true, true, true, true, true, true, false, false, false, false, false, false, false, false, false, false, false, false, false, false] rfl rfl rfl (by kernel_rfl) (by kernel_rfl) (by kernel_rfl) (by kernel_rfl) (by kernel_rfl) (yieldsIf_load_row (by rfl) 36 _ rfl (B7) rfl 36 (e4 a1) (fun _ h => M7.out.below h M7.out.lt) Try.underlying36 rfl (by rw [e4_size]; kernel_rfl)) (hkW610) ?_
    (try simp only [List.setIfInBounds_toArray, List.set_cons_succ, List.set_cons_zero])
    refine go_take 29 91 #[true, true, true, true, true, true, true, true, true, true, true, true, true, true, true, true, true, true, true, true, true, true, true, true, true, true, true, true, true, true, false, false, false, false, false, false, false, false, false, false, false, false, false] rfl rfl rfl (by kernel_rfl) (by kernel_rfl) (by kernel_rfl) (by kernel_rfl) (by kernel_rfl) (yieldsIf_load_row (by rfl) 36 _ rfl (B8) rfl 36 (e4 a2) (fun _ h => M8.out.below h M8.out.lt) Try.underlying36 rfl (by rw [e4_size]; kernel_rfl)) (hkW610) ?_
    (try simp only [List.setIfInBounds_toArray, List.set_cons_succ, List.set_cons_zero])
    refine go_take 30 92 #[true, true, true, true, true, true, true, true, true, true, true, true, true, true, true, true, true, true, true, true, true, true, true, true, true, true, true, true, true, true, true, false, false, false, false, false, false, false, false, false, false, false, false] rfl rfl rfl (by kernel_rfl) (by kernel_rfl) (by kernel_rfl) (by kernel_rfl) (by kernel_rfl) (yieldsIf_load_row (by rfl) 36 _ rfl (B9) rfl 36 (e4 a3) (fun _ h => M9.out.below h M9.out.lt) Try.underlying36 rfl (by rw [e4_size]; kernel_rfl)) (hkW610) ?_
    (try simp only [List.setIfInBounds_toArray, List.set_cons_succ, List.set_cons_zero])
    refine go_take 33 95 #[true, true, true, true, true, true, true, true, true, true, true, true, true, true, true, true, true, true, true, true, true, true, true, true, true, true, true, true, true, true, true, false, false, true, false, false, false, false, false, false, false, false, false] rfl rfl rfl (by kernel_rfl) (by kernel_rfl) (by kernel_rfl) (by kernel_rfl) (by kernel_rfl) (yieldsIf_load_row (by rfl) 36 _ rfl (B7) rfl 36 (e4 a1) (fun _ h => M7.out.below h M7.out.lt) Try.underlying36 rfl (by rw [e4_size]; kernel_rfl)) (hkW610) ?_
    (try simp only [List.setIfInBounds_toArray, List.set_cons_succ, List.set_cons_zero])
    refine go_take 34 96 #[true, true, true, true, true, true, true, true, true, true, true, true, true, true, true, true, true, true, true, true, true, true, true, true, true, true, true, true, true, true, true, false, false, true, true, false, false, false, false, false, false, false, false] rfl rfl rfl (by kernel_rfl) (by kernel_rfl) (by kernel_rfl) (by kernel_rfl) (by kernel_rfl) (yieldsIf_load_row (by rfl) 36 _ rfl (B8) rfl 36 (e4 a2) (fun _ h => M8.out.below h M8.out.lt) Try.underlying36 rfl (by rw [e4_size]; kernel_rfl)) (hkW610) ?_
    (try simp only [List.setIfInBounds_toArray, List.set_cons_succ, List.set_cons_zero])
    refine go_take 36 98 #[true, true, true, true, true, true, true, true, true, true, true, true, true, true, true, true, true, true, true, true, true, true, true, true, true, true, true, true, true, true, true, false, false, true, true, false, true, false, false, false, false, false, false] rfl rfl rfl (by kernel_rfl) (by kernel_rfl) (by kernel_rfl) (by kernel_rfl) (by kernel_rfl) (yieldsIf_load_row (by rfl) 36 _ rfl (B7) rfl 36 (e4 a1) (fun _ h => M7.out.below h M7.out.lt) Try.underlying36 rfl (by rw [e4_size]; kernel_rfl)) (hkW610) ?_
    (try simp only [List.setIfInBounds_toArray, List.set_cons_succ, List.set_cons_zero])
    refine go_take 37 99 #[true, true, true, true, true, true, true, true, true, true, true, true, true, true, true, true, true, true, true, true, true, true, true, true, true, true, true, true, true, true, true, false, false, true, true, false, true, true, false, false, false, false, false] rfl rfl rfl (by kernel_rfl) (by kernel_rfl) (by kernel_rfl) (by kernel_rfl) (by kernel_rfl) (yieldsIf_load_row (by rfl) 36 _ rfl (B9) rfl 36 (e4 a3) (fun _ h => M9.out.below h M9.out.lt) Try.underlying36 rfl (by rw [e4_size]; kernel_rfl)) (hkW610) ?_
    (try simp only [List.setIfInBounds_toArray, List.set_cons_succ, List.set_cons_zero])
    refine wpBut_r1 (i := 31) (by kernel_rfl) ?_
    refine go_call 31 93 #[true, true, true, true, true, true, true, true, true, true, true, true, true, true, true, true, true, true, true, true, true, true, true, true, true, true, true, true, true, true, true, true, false, true, true, false, true, true, false, false, false, false, false] rfl rfl rfl (by rfl) rfl rfl (by rfl) ent37 (by rfl) (Hp.out a2 a3 Hal2.out Hal3.out _) ?_
    rintro e wW611 ⟨q8, hq8, hq8r, rfl, hb⟩
    have hkW611 := held_next hkW610 hb
    refine ⟨_, rfl, fun _ => hkW611, ?_⟩
    clear hb
    (try simp only [List.setIfInBounds_toArray, List.set_cons_succ, List.set_cons_zero])
    refine wpBut_r1 (i := 32) (by kernel_rfl) ?_
    refine go_call 32 94 #[true, true, true, true, true, true, true, true, true, true, true, true, true, true, true, true, true, true, true, true, true, true, true, true, true, true, true, true, true, true, true, true, true, true, true, false, true, true, false, false, false, false, false] rfl rfl rfl (by rfl) rfl rfl (by rfl) ent31 (by rfl) (Ht.out a1 q8 Hal1.out hq8 _) ?_
    rintro e wW612 ⟨q9, hq9, hq9r, rfl, hb⟩
    have hkW612 := held_next hkW611 hb
    refine ⟨_, rfl, fun _ => hkW612, ?_⟩
    clear hb
    (try simp only [List.setIfInBounds_toArray, List.set_cons_succ, List.set_cons_zero])
    refine wpBut_r1 (i := 35) (by kernel_rfl) ?_
    refine go_call 35 97 #[true, true, true, true, true, true, true, true, true, true, true, true, true, true, true, true, true, true, true, true, true, true, true, true, true, true, true, true, true, true, true, true, true, true, true, true, true, true, false, false, false, false, false] rfl rfl rfl (by rfl) rfl rfl (by rfl) ent31 (by rfl) (Ht.out a1 a2 Hal1.out Hal2.out _) ?_
    rintro e wW613 ⟨q10, hq10, hq10r, rfl, hb⟩
    have hkW613 := held_next hkW612 hb
    refine ⟨_, rfl, fun _ => hkW613, ?_⟩
    clear hb
    (try simp only [List.setIfInBounds_toArray, List.set_cons_succ, List.set_cons_zero])
    refine wpBut_r1 (i := 38) (by kernel_rfl) ?_
    refine go_call 38 100 #[true, true, true, true, true, true, true, true, true, true, true, true, true, true, true, true, true, true, true, true, true, true, true, true, true, true, true, true, true, true, true, true, true, true, true, true, true, true, true, false, false, false, false] rfl rfl rfl (by rfl) rfl rfl (by rfl) ent31 (by rfl) (Ht.out a1 a3 Hal1.out Hal3.out _) ?_
    rintro e wW614 ⟨q11, hq11, hq11r, rfl, hb⟩
    have hkW614 := held_next hkW613 hb
    refine ⟨_, rfl, fun _ => hkW614, ?_⟩
    clear hb
    (try simp only [List.setIfInBounds_toArray, List.set_cons_succ, List.set_cons_zero])
    refine wpBut_r1 (i := 39) (by kernel_rfl) ?_
    refine go_call 39 101 #[true, true, true, true, true, true, true, true, true, true, true, true, true, true, true, true, true, true, true, true, true, true, true, true, true, true, true, true, true, true, true, true, true, true, true, true, true, true, true, true, false, false, false] rfl rfl rfl (by rfl) rfl rfl (by rfl) ent37 (by rfl) (Hp.out q10 q11 hq10 hq11 _) ?_
    rintro e wW615 ⟨q12, hq12, hq12r, rfl, hb⟩
    have hkW615 := held_next hkW614 hb
    refine ⟨_, rfl, fun _ => hkW615, ?_⟩
    clear hb
    (try simp only [List.setIfInBounds_toArray, List.set_cons_succ, List.set_cons_zero])
    refine wpBut_r1 (i := 40) (by kernel_rfl) ?_
    refine go_call 40 102 #[true, true, true, true, true, true, true, true, true, true, true, true, true, true, true, true, true, true, true, true, true, true, true, true, true, true, true, true, true, true, true, true, true, true, true, true, true, true, true, true, true, false, false] rfl rfl rfl (by rfl) rfl rfl (by rfl) ent41 (by rfl) (Hyes.out q9 q12 hq9 hq12 (ru_8 a1 a2 a3 q8 q9 q10 q11 q12 hq8r hq9r hq10r hq11r hq12r) _) ?_
    rintro e wW616 ⟨rfl, hb⟩
    have hkW616 := held_next hkW615 hb
    refine ⟨_, rfl, fun _ => hkW616, ?_⟩
    clear hb
    (try simp only [List.setIfInBounds_toArray, List.set_cons_succ, List.set_cons_zero])
    refine go_take 41 103 #[true, true, true, true, true, true, true, true, true, true, true, true, true, true, true, true, true, true, true, true, true, true, true, true, true, true, true, true, true, true, true, true, true, true, true, true, true, true, true, true, true, true, false] (v := ?uv20) rfl rfl rfl (by kernel_rfl) (by kernel_rfl) (by kernel_rfl) (by kernel_rfl) (by kernel_rfl) (Or.inl ⟨by rfl, ?uy20⟩) (hkW616) ?urest20
    case uy20 => (intro _ _; go_simp; try with_reducible rfl)
    (try simp only [List.setIfInBounds_toArray, List.set_cons_succ, List.set_cons_zero])
    refine go_take 42 6 #[true, true, true, true, true, true, true, true, true, true, true, true, true, true, true, true, true, true, true, true, true, true, true, true, true, true, true, true, true, true, true, true, true, true, true, true, true, true, true, true, true, true, true] (v := ?uv21) rfl rfl rfl (by kernel_rfl) (by kernel_rfl) (by kernel_rfl) (by kernel_rfl) (by kernel_rfl) (Or.inl ⟨by rfl, ?uy21⟩) (hkW616) ?urest21
    case uy21 => (intro _ _; go_simp; try with_reducible rfl)
    (try simp only [List.setIfInBounds_toArray, List.set_cons_succ, List.set_cons_zero])
    refine wpBut_done (by kernel_rfl) (NoPanic.normal ?_)
    have kq := M7.out.call hkW616; clear M7; have M7 := Lib.hid kq; clear kq
    have kq := M8.out.call hkW616; clear M8; have M8 := Lib.hid kq; clear kq
    have kq := M9.out.call hkW616; clear M9; have M9 := Lib.hid kq; clear kq
    have kq := M10.out.call hkW616; clear M10; have M10 := Lib.hid kq; clear kq
    have hBq := held_next HB.out hkW616; clear HB; have HB := Lib.hid hBq; clear hBq
    go_wp2_with fail
    go_ret
    exact ⟨rfl, HB.out⟩
end Go.Proofs.Ytjiagjonlcadiaa
