/- The laws of chapter 03: products. -/
import Derived.Test.YtjiagjonlcadiaaLawA
namespace Go.Proofs.Ytjiagjonlcadiaa
open Go.RowKit Go.Lib

theorem fof_lt (n : Nat) : n % 57896044618658097711785492504343953926634992332820282019728792003956564819968 < 115792089237316195423570985008687907853269984665640564039457584007913129639936 := Nat.lt_trans (Nat.mod_lt _ (by decide)) (by decide)
theorem rof_a (n a A : Nat) (ha : a = n % 57896044618658097711785492504343953926634992332820282019728792003956564819968) (hA : A = a % PP) (w : World) : Calls Try.prog 33 #[.agg (k32 n)] w fun e w' => e = .returned (.agg (r22 A)) ∧ Below w.heap.size w w' := by
  have h := rof_any n w
  rw [show (2 : Nat) ^ 255 = 57896044618658097711785492504343953926634992332820282019728792003956564819968 by decide +kernel, ← ha, ← hA] at h
  exact h
theorem fof_a (n a : Nat) (hn : n < 115792089237316195423570985008687907853269984665640564039457584007913129639936) (ha : a = n % 57896044618658097711785492504343953926634992332820282019728792003956564819968) (w : World) : Calls Try.prog 30 #[.agg (k32 n)] w fun e w' => e = .returned (.agg (e4 a)) ∧ Below w.heap.size w w' := by
  rw [ha]; exact of_any n hn w
set_option maxRecDepth 100000 in
set_option linter.unusedSimpArgs false in
set_option maxHeartbeats 8000000 in
theorem law_products (n1 n2 : Nat) (hn1 : n1 < 115792089237316195423570985008687907853269984665640564039457584007913129639936) (hn2 : n2 < 115792089237316195423570985008687907853269984665640564039457584007913129639936) (w : World) :
    Calls Try.prog 5 #[.agg (k32 n1), .agg (k32 n2)] w fun e w' => e = .returned (.bool true) ∧ Below w.heap.size w w' := by
  have hal := law3_alive
  have ht := times_any
  have hrt := rtimes_any
  have his := lis_yes
  obtain ⟨a1, ha1⟩ : ∃ a, a = n1 % 57896044618658097711785492504343953926634992332820282019728792003956564819968 := ⟨_, rfl⟩
  obtain ⟨A1, hA1⟩ : ∃ A, A = a1 % PP := ⟨_, rfl⟩
  have hf1 := fun w => fof_a n1 a1 hn1 ha1 w
  have hr1 := fun w => rof_a n1 a1 A1 ha1 hA1 w
  have hal1 : a1 < 115792089237316195423570985008687907853269984665640564039457584007913129639936 := by rw [ha1]; exact fof_lt _
  have hAl1 : A1 < PP := by rw [hA1]; exact Nat.mod_lt _ PP_pos
  have Hf1 := Lib.hid hf1; clear hf1
  have Hr1 := Lib.hid hr1; clear hr1
  have Hal1 := Lib.hid hal1; clear hal1
  have HAl1 := Lib.hid hAl1; clear hAl1
  have HA1 := Lib.hid hA1; clear hA1
  clear ha1 hn1
  obtain ⟨a2, ha2⟩ : ∃ a, a = n2 % 57896044618658097711785492504343953926634992332820282019728792003956564819968 := ⟨_, rfl⟩
  obtain ⟨A2, hA2⟩ : ∃ A, A = a2 % PP := ⟨_, rfl⟩
  have hf2 := fun w => fof_a n2 a2 hn2 ha2 w
  have hr2 := fun w => rof_a n2 a2 A2 ha2 hA2 w
  have hal2 : a2 < 115792089237316195423570985008687907853269984665640564039457584007913129639936 := by rw [ha2]; exact fof_lt _
  have hAl2 : A2 < PP := by rw [hA2]; exact Nat.mod_lt _ PP_pos
  have Hf2 := Lib.hid hf2; clear hf2
  have Hr2 := Lib.hid hr2; clear hr2
  have Hal2 := Lib.hid hal2; clear hal2
  have HAl2 := Lib.hid hAl2; clear hAl2
  have HA2 := Lib.hid hA2; clear hA2
  clear ha2 hn2
  have Hal := Lib.hid hal; clear hal
  have Ht := Lib.hid ht; clear ht
  have Hrt := Lib.hid hrt; clear hrt
  have His := Lib.hid his; clear his
  go_enter Try.func5, Try.ntmps5
  repeat ((fail_if_success (with_reducible (show wpList _ _ _ _ _ _))); go_step)
  refine wpList_step (fun K hK => ?_)
  go_simp
  (try go_bits)
  refine hK _ _ ?_
  clear hK K
  refine wpList_step (fun K hK => ?_)
  go_simp
  (try go_bits)
  refine hK _ _ ?_
  clear hK K
  refine wpList_step (fun K hK => ?_)
  go_simp
  (try go_bits)
  refine hK _ _ ?_
  clear hK K
  refine wpList_nil ?_
  have M2 := Lib.hid ((Has.new w  (k32 n1) 24).alloc (.cells (k32 n2) 24))
  have M3 := Lib.hid (Has.new1 w (.cells (k32 n1) 24) (k32 n2) 24)
  have HB := Lib.hid (below_2 w (.cells (k32 n1) 24) (.cells (k32 n2) 24))
  repeat ((fail_if_success (with_reducible (show wpList _ _ _ _ _ _))); go_step)
  refine wp_region_noPanic ?_
  refine wp_region_go 99 15 #[false, false, false, false, false, false, false, false, false, false, false, false, false, false, false] (by kernel_rfl) rfl rfl ?_
  intro W1 hW1
  have kq := M2.out; rw [← hW1] at kq; clear M2; have M2 := Lib.hid kq; clear kq
  have kq := M3.out; rw [← hW1] at kq; clear M3; have M3 := Lib.hid kq; clear kq
  have kq := HB.out; rw [← hW1] at kq; clear HB; have HB := Lib.hid kq; clear kq
  clear hW1
  refine wpBut_r1 (i := 0) (by kernel_rfl) ?_
  refine go_call 0 5 #[true, false, false, false, false, false, false, false, false, false, false, false, false, false, false] rfl rfl rfl (by rfl) rfl rfl (by rfl) ent28 (by rfl) (Hal.out _) ?_
  rintro e wW11 ⟨rfl, hb⟩
  have hkW11 := held_next (below_dr W1) hb
  refine ⟨_, rfl, fun _ => hkW11, ?_⟩
  clear hb
  (try simp only [sI, sS, sZ])
  refine go_take2 1 6 #[true, true, false, false, false, false, false, false, false, false, false, false, false, false, false] (v := ?uv1) rfl rfl rfl (by kernel_rfl) (Or.inl ⟨by rfl, ?uy1⟩) (hkW11) ?urest1
  case uy1 => (intro _ _; go_simp; try with_reducible rfl)
  (try simp only [sI, sS, sZ])
  refine go_take2 2 7 #[true, true, true, false, false, false, false, false, false, false, false, false, false, false, false] rfl rfl rfl (by kernel_rfl) (yieldsIf_load_row (by rfl) 24 _ rfl (w.heap.size) rfl 24 (k32 n1) (fun _ h => M2.out.below h M2.out.lt) Try.underlying24 rfl (by rw [k32_size]; kernel_rfl)) (hkW11) ?_
  (try simp only [sI, sS, sZ])
  refine go_take2 4 9 #[true, true, true, false, true, false, false, false, false, false, false, false, false, false, false] rfl rfl rfl (by kernel_rfl) (yieldsIf_load_row (by rfl) 24 _ rfl (w.heap.size + 1) rfl 24 (k32 n2) (fun _ h => M3.out.below h M3.out.lt) Try.underlying24 rfl (by rw [k32_size]; kernel_rfl)) (hkW11) ?_
  (try simp only [sI, sS, sZ])
  refine go_take2 7 12 #[true, true, true, false, true, false, false, true, false, false, false, false, false, false, false] rfl rfl rfl (by kernel_rfl) (yieldsIf_load_row (by rfl) 24 _ rfl (w.heap.size) rfl 24 (k32 n1) (fun _ h => M2.out.below h M2.out.lt) Try.underlying24 rfl (by rw [k32_size]; kernel_rfl)) (hkW11) ?_
  (try simp only [sI, sS, sZ])
  refine go_take2 9 14 #[true, true, true, false, true, false, false, true, false, true, false, false, false, false, false] rfl rfl rfl (by kernel_rfl) (yieldsIf_load_row (by rfl) 24 _ rfl (w.heap.size + 1) rfl 24 (k32 n2) (fun _ h => M3.out.below h M3.out.lt) Try.underlying24 rfl (by rw [k32_size]; kernel_rfl)) (hkW11) ?_
  (try simp only [sI, sS, sZ])
  refine wpBut_r1 (i := 3) (by kernel_rfl) ?_
  refine go_call 3 8 #[true, true, true, true, true, false, false, true, false, true, false, false, false, false, false] rfl rfl rfl (by rfl) rfl rfl (by rfl) ent30 (by rfl) (Hf1.out _) ?_
  rintro e wW12 ⟨rfl, hb⟩
  have hkW12 := held_next hkW11 hb
  refine ⟨_, rfl, fun _ => hkW12, ?_⟩
  clear hb
  (try simp only [sI, sS, sZ])
  refine wpBut_r1 (i := 5) (by kernel_rfl) ?_
  refine go_call 5 10 #[true, true, true, true, true, true, false, true, false, true, false, false, false, false, false] rfl rfl rfl (by rfl) rfl rfl (by rfl) ent30 (by rfl) (Hf2.out _) ?_
  rintro e wW13 ⟨rfl, hb⟩
  have hkW13 := held_next hkW12 hb
  refine ⟨_, rfl, fun _ => hkW13, ?_⟩
  clear hb
  (try simp only [sI, sS, sZ])
  refine wpBut_r1 (i := 6) (by kernel_rfl) ?_
  refine go_call 6 11 #[true, true, true, true, true, true, true, true, false, true, false, false, false, false, false] rfl rfl rfl (by rfl) rfl rfl (by rfl) ent31 (by rfl) (Ht.out a1 a2 Hal1.out Hal2.out _) ?_
  rintro e wW14 ⟨m, hm, hmr, rfl, hb⟩
  have hkW14 := held_next hkW13 hb
  refine ⟨_, rfl, fun _ => hkW14, ?_⟩
  clear hb
  (try simp only [sI, sS, sZ])
  refine wpBut_r1 (i := 8) (by kernel_rfl) ?_
  refine go_call 8 13 #[true, true, true, true, true, true, true, true, true, true, false, false, false, false, false] rfl rfl rfl (by rfl) rfl rfl (by rfl) ent33 (by rfl) (Hr1.out _) ?_
  rintro e wW15 ⟨rfl, hb⟩
  have hkW15 := held_next hkW14 hb
  refine ⟨_, rfl, fun _ => hkW15, ?_⟩
  clear hb
  (try simp only [sI, sS, sZ])
  refine wpBut_r1 (i := 10) (by kernel_rfl) ?_
  refine go_call 10 15 #[true, true, true, true, true, true, true, true, true, true, true, false, false, false, false] rfl rfl rfl (by rfl) rfl rfl (by rfl) ent33 (by rfl) (Hr2.out _) ?_
  rintro e wW16 ⟨rfl, hb⟩
  have hkW16 := held_next hkW15 hb
  refine ⟨_, rfl, fun _ => hkW16, ?_⟩
  clear hb
  (try simp only [sI, sS, sZ])
  refine wpBut_r1 (i := 11) (by kernel_rfl) ?_
  refine go_call 11 16 #[true, true, true, true, true, true, true, true, true, true, true, true, false, false, false] rfl rfl rfl (by rfl) rfl rfl (by rfl) ent32 (by rfl) (Hrt.out A1 A2 HAl1.out HAl2.out _) ?_
  rintro e wW17 ⟨rfl, hb⟩
  have hkW17 := held_next hkW16 hb
  refine ⟨_, rfl, fun _ => hkW17, ?_⟩
  clear hb
  (try simp only [sI, sS, sZ])
  refine wpBut_r1 (i := 12) (by kernel_rfl) ?_
  refine go_call 12 17 #[true, true, true, true, true, true, true, true, true, true, true, true, true, false, false] rfl rfl rfl (by rfl) rfl rfl (by rfl) ent29 (by rfl) (His.out m (A1 * A2 % PP) hm (Nat.mod_lt _ PP_pos) (by rw [hmr, HA1.out, HA2.out, ← Nat.mul_mod]) _) ?_
  rintro e wW18 ⟨rfl, hb⟩
  have hkW18 := held_next hkW17 hb
  refine ⟨_, rfl, fun _ => hkW18, ?_⟩
  clear hb
  (try simp only [sI, sS, sZ])
  refine go_take2 13 18 #[true, true, true, true, true, true, true, true, true, true, true, true, true, true, false] (v := ?uv2) rfl rfl rfl (by kernel_rfl) (Or.inl ⟨by rfl, ?uy2⟩) (hkW18) ?urest2
  case uy2 => (intro _ _; go_simp; try with_reducible rfl)
  (try simp only [sI, sS, sZ])
  refine go_take2 14 4 #[true, true, true, true, true, true, true, true, true, true, true, true, true, true, true] (v := ?uv3) rfl rfl rfl (by kernel_rfl) (Or.inl ⟨by rfl, ?uy3⟩) (hkW18) ?urest3
  case uy3 => (intro _ _; go_simp; try with_reducible rfl)
  (try simp only [sI, sS, sZ])
  refine wpBut_done (by kernel_rfl) (NoPanic.normal ?_)
  replace M2 := Lib.hid (M2.out.call hkW18)
  replace M3 := Lib.hid (M3.out.call hkW18)
  replace HB := Lib.hid (held_next HB.out hkW18)
  go_wp2_with fail
  go_ret
  exact ⟨rfl, HB.out⟩
end Go.Proofs.Ytjiagjonlcadiaa
