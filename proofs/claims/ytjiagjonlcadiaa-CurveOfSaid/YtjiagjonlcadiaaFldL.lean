/- The program's field: Over. -/
import Derived.Test.YtjiagjonlcadiaaFldK
namespace Go.Proofs.Ytjiagjonlcadiaa
open Go.RowKit Go.Lib

theorem p_over (a b n1 n2 n3 n4 n5 n6 n7 n8 : Nat) (h1 : n1 % PP = pwm b 2) (h2 : n2 % PP = pwm n1 4) (h3 : n3 % PP = n2 * b % PP) (h4 : n4 % PP = n3 * n1 % PP)
    (h5 : n5 % PP = pwm b 1809251394333065553493296640760748560207343510400633813116524750123642650623) (h6 : n6 % PP = pwm n5 32) (h7 : n7 % PP = n6 * n4 % PP) (h8 : n8 % PP = a * n7 % PP) : n8 % PP = a * pwm b (PP - 2) % PP := by
  have k2 := pw_go b n1 2 4 n2 8 h1 h2 rfl
  have k3 := pw_by b n2 b 8 1 n3 9 k2 (pw_self b) h3 rfl
  have k4 := pw_by b n3 n1 9 2 n4 11 k3 h1 h4 rfl
  have k6 := pw_go b n5 1809251394333065553493296640760748560207343510400633813116524750123642650623 32 n6 57896044618658097711785492504343953926634992332820282019728792003956564819936 h5 h6 (by decide +kernel)
  have k7 := pw_by b n6 n4 57896044618658097711785492504343953926634992332820282019728792003956564819936 11 n7 (PP - 2) k6 k4 h7 (by decide +kernel)
  rw [h8, Nat.mul_mod, k7, Nat.mod_mul_mod]

set_option maxRecDepth 100000 in
set_option linter.unusedSimpArgs false in
set_option maxHeartbeats 8000000 in
theorem over_any (a b : Nat) (ha : a < 115792089237316195423570985008687907853269984665640564039457584007913129639936) (hb0 : b < 115792089237316195423570985008687907853269984665640564039457584007913129639936) (w : World) :
    Calls Try.prog 42 #[.agg (e4 a), .agg (e4 b)] w (ElP (a * pwm b (PP - 2) % PP) w) := by
  have hs1 := fun w => squares_1 b hb0 w
  have hs2 := squares_2
  have hs5 := squares_5
  have ht := fun x y hx hy w => times_any x y hx hy w
  have hpw := fun w => power_any b hb0 w
  have hpo := p_over a b
  have Hs1 := Lib.hid hs1; clear hs1
  have Hs2 := Lib.hid hs2; clear hs2
  have Hs5 := Lib.hid hs5; clear hs5
  have Ht := Lib.hid ht; clear ht
  have Hpw := Lib.hid hpw; clear hpw
  have Hpo := Lib.hid hpo; clear hpo
  have Ha := Lib.hid ha; clear ha
  have Hb0 := Lib.hid hb0; clear hb0
  obtain ⟨R, hR⟩ : ∃ R, R = a * pwm b (PP - 2) % PP := ⟨_, rfl⟩
  rw [← hR] at Hpo ⊢
  clear hR
  go_enter Try.func42, Try.ntmps42
  go_step
  go_step
  refine wpList_step (fun K hK => ?_)
  go_simp
  (try go_bits)
  refine hK _ _ ?_
  clear hK K
  refine wpList_step (fun K hK => ?_)
  go_simp
  (try go_bits)
  refine hK _ _ ?_
  clear hK K
  refine wpList_step (fun K hK => ?_)
  go_simp
  (try go_bits)
  refine hK _ _ ?_
  clear hK K
  refine wpList_nil ?_
  have M2 := Lib.hid (((Has.new w  (e4 a) 36).alloc (.cells (e4 b) 36)).alloc (.cells (#[.int .u64 0, .int .u64 0, .int .u64 0, .int .u64 0] : Array Value) 36))
  have M3 := Lib.hid ((Has.new1 w (.cells (e4 a) 36) (e4 b) 36).alloc (.cells (#[.int .u64 0, .int .u64 0, .int .u64 0, .int .u64 0] : Array Value) 36))
  have M4 := Lib.hid (HasN.new2 w (.cells (e4 a) 36) (.cells (e4 b) 36) (#[.int .u64 0, .int .u64 0, .int .u64 0, .int .u64 0] : Array Value) 36 4 (by kernel_rfl))
  have HB := Lib.hid (below_3 w (.cells (e4 a) 36) (.cells (e4 b) 36) (.cells (#[.int .u64 0, .int .u64 0, .int .u64 0, .int .u64 0] : Array Value) 36))
  go_step
  go_step
  go_step
  go_step
  refine wpList_load (by rfl) 36 _ rfl (w.heap.size + 1) rfl 36 (e4 b) M3.out Try.underlying36 rfl (by rw [e4_size]; kernel_rfl) 7 rfl ?_
  (try simp only [Act.put, sI, sS, sZ])
  refine wpList_call (by rfl) rfl rfl (by rfl) ent83 (by rfl) (Hs1.out _) 8 rfl ?_
  rintro e uw1 ⟨n1, hn1, hn1r, rfl, hb⟩
  replace M2 := Lib.hid (M2.out.call hb)
  replace M3 := Lib.hid (M3.out.call hb)
  replace M4 := Lib.hid (M4.out.call hb)
  replace HB := Lib.hid (held_next HB.out hb)
  refine ⟨_, rfl, ?_⟩
  clear hb
  (try simp only [Act.put, sI, sS, sZ])
  refine wpList_step (fun K hK => ?_)
  go_simp
  have hlt1 := M2.out.lt
  have hlt2 := M3.out.lt
  have hlt3 := M4.out.lt
  replace M2 := Lib.hid (M2.out.alloc (.cells (#[.int .u64 0, .int .u64 0, .int .u64 0, .int .u64 0] : Array Value) 36))
  replace M3 := Lib.hid (M3.out.alloc (.cells (#[.int .u64 0, .int .u64 0, .int .u64 0, .int .u64 0] : Array Value) 36))
  replace M4 := Lib.hid (M4.out.alloc (.cells (#[.int .u64 0, .int .u64 0, .int .u64 0, .int .u64 0] : Array Value) 36))
  have M5 := Lib.hid (HasN.new uw1 (#[.int .u64 0, .int .u64 0, .int .u64 0, .int .u64 0] : Array Value) 36 4 rfl)
  have hsz := HB.out.size
  replace HB := Lib.hid (HB.out.alloc hsz (.cells (#[.int .u64 0, .int .u64 0, .int .u64 0, .int .u64 0] : Array Value) 36))
  refine hK _ _ ?_
  clear hK K
  first | (obtain ⟨Zq, hZ, mZ⟩ := M5.out) | (obtain ⟨Zq, hZ, mZ⟩ := M5.out.toN (e4_size _))
  clear M5
  have hZ' := Lib.hid hZ; clear hZ
  have mZ' := Lib.hid mZ; clear mZ
  refine wpList_store_row rfl 36 _ _ rfl (uw1.heap.size) _ rfl rfl 36 Zq mZ'.out (by rw [e4_size]; kernel_rfl) (hZ'.out.trans (e4_size _).symm) (row_one _ _ _) ?_
  (try simp only [Act.put, sI, sS, sZ])
  replace M2 := Lib.hid (M2.out.setRow_other (uw1.heap.size) (e4 n1) (by omega))
  replace M3 := Lib.hid (M3.out.setRow_other (uw1.heap.size) (e4 n1) (by omega))
  replace M4 := Lib.hid (M4.out.setRow_other (uw1.heap.size) (e4 n1) (by omega))
  have M5 := Lib.hid (mZ'.out.setRow (e4 n1))
  clear mZ' hZ'
  replace HB := Lib.hid (below_setRow HB.out (uw1.heap.size) (e4 n1) (by omega))
  refine wpList_nil ?_
  have Hn1r := Lib.hid hn1r; clear hn1r
  go_step
  go_step
  go_step
  refine wp_region_meet (α := Nat × Nat × Nat × Nat) (fun W0 x w' => x.2.2.2 < 115792089237316195423570985008687907853269984665640564039457584007913129639936 ∧ x.2.1 % PP = pwm n1 4 ∧ x.2.2.1 % PP = x.2.1 * b % PP ∧ x.2.2.2 % PP = x.2.2.1 * n1 % PP ∧ W0.heap.size ≤ x.1 ∧ Has w' x.1 (e4 x.2.2.2) 36 ∧ Below W0.heap.size W0 w') (fun ac x => (((((((ac.put (some 9) (.agg (e4 n1))).put (some 10) (.agg (e4 x.2.1))).put (some 11) (.agg (e4 b))).put (some 12) (.agg (e4 x.2.2.1))).put (some 13) (.agg (e4 n1))).put (some 14) (.agg (e4 x.2.2.2))).put (some 6) (.pointer (some ⟨x.1, 0, none⟩)))) ?_ ?_
  · intro Q' hQ'
    refine wp_region_noPanic ?_
    refine wp_region_go 99 8 #[false, false, false, false, false, false, false, false] (by kernel_rfl) rfl rfl ?_
    intro W4 hW4
    rw [← hW4] at hQ'
    simp only [Act.put, List.setIfInBounds_toArray, List.set_cons_succ, List.set_cons_zero] at hQ'
    have HQ := Lib.hid hQ'; clear hQ'
    have kq := M2.out; rw [← hW4] at kq; clear M2; have M2 := Lib.hid kq; clear kq
    have kq := M3.out; rw [← hW4] at kq; clear M3; have M3 := Lib.hid kq; clear kq
    have kq := M4.out; rw [← hW4] at kq; clear M4; have M4 := Lib.hid kq; clear kq
    have kq := M5.out; rw [← hW4] at kq; clear M5; have M5 := Lib.hid kq; clear kq
    have kq := HB.out; rw [← hW4] at kq; clear HB; have HB := Lib.hid kq; clear kq
    clear hW4
    refine go_take2 0 9 #[true, false, false, false, false, false, false, false] rfl rfl rfl (by kernel_rfl) (yieldsIf_load_row (by rfl) 36 _ rfl (uw1.heap.size) rfl 36 (e4 n1) (fun _ h => M5.out.below h M5.out.lt) Try.underlying36 rfl (by rw [e4_size]; kernel_rfl)) ((below_dr W4)) ?_
    (try simp only [sI, sS, sZ])
    refine go_take2 2 11 #[true, false, true, false, false, false, false, false] rfl rfl rfl (by kernel_rfl) (yieldsIf_load_row (by rfl) 36 _ rfl (w.heap.size + 1) rfl 36 (e4 b) (fun _ h => M3.out.below h M3.out.lt) Try.underlying36 rfl (by rw [e4_size]; kernel_rfl)) ((below_dr W4)) ?_
    (try simp only [sI, sS, sZ])
    refine go_take2 4 13 #[true, false, true, false, true, false, false, false] rfl rfl rfl (by kernel_rfl) (yieldsIf_load_row (by rfl) 36 _ rfl (uw1.heap.size) rfl 36 (e4 n1) (fun _ h => M5.out.below h M5.out.lt) Try.underlying36 rfl (by rw [e4_size]; kernel_rfl)) ((below_dr W4)) ?_
    (try simp only [sI, sS, sZ])
    refine wpBut_r2 (i := 1) (j := 6) (by kernel_rfl) ?_ ?_
    refine go_call 1 10 #[true, true, true, false, true, false, false, false] rfl rfl rfl (by rfl) rfl rfl (by rfl) ent83 (by rfl) (Hs2.out n1 hn1 _) ?_
    rintro e wW41 ⟨n2, hn2, hn2r, rfl, hb⟩
    have hkW41 := held_next (below_dr W4) hb
    refine ⟨_, rfl, fun _ => hkW41, ?_⟩
    clear hb
    (try simp only [sI, sS, sZ])
    refine wpBut_r2 (i := 3) (j := 6) (by kernel_rfl) ?_ ?_
    refine go_call 3 12 #[true, true, true, true, true, false, false, false] rfl rfl rfl (by rfl) rfl rfl (by rfl) ent31 (by rfl) (Ht.out n2 b hn2 Hb0.out _) ?_
    rintro e wW42 ⟨n3, hn3, hn3r, rfl, hb⟩
    have hkW42 := held_next hkW41 hb
    refine ⟨_, rfl, fun _ => hkW42, ?_⟩
    clear hb
    (try simp only [sI, sS, sZ])
    refine wpBut_r2 (i := 5) (j := 6) (by kernel_rfl) ?_ ?_
    refine go_call 5 14 #[true, true, true, true, true, true, false, false] rfl rfl rfl (by rfl) rfl rfl (by rfl) ent31 (by rfl) (Ht.out n3 n1 hn3 hn1 _) ?_
    rintro e wW43 ⟨n4, hn4, hn4r, rfl, hb⟩
    have hkW43 := held_next hkW42 hb
    refine ⟨_, rfl, fun _ => hkW43, ?_⟩
    clear hb
    (try simp only [sI, sS, sZ])
    refine wpBut_r1 (i := 6) (by kernel_rfl) ?_
    refine go_alloc 6 6 #[true, true, true, true, true, true, true, false] rfl rfl rfl (by rfl) 36 rfl _ al36 ?_
    intro wW44 hw2
    have hkW44 := (hkW43).alloc (hkW43).size (.cells z36 36)
    rw [← hw2] at hkW44
    have MQ := HasN.new (wW43) z36 36 4 (by kernel_rfl); rw [← hw2] at MQ; have MA6 := Lib.hid MQ; clear MQ
    have HA6 := Lib.hid (show W4.heap.size ≤ _ from (hkW43).size)
    clear hw2
    refine ⟨fun _ => hkW44, ?_⟩
    (try simp only [sI, sS, sZ])
    refine wpBut_r1 (i := 7) (by kernel_rfl) ?_
    obtain ⟨Zq, hZ, mZ⟩ := MA6.out
    refine go_store2 7 #[true, true, true, true, true, true, true, true] rfl rfl rfl (by rfl) 36 _ _ rfl _ _ rfl rfl 36 Zq mZ (by rw [e4_size]; kernel_rfl) (hZ.trans (e4_size ..).symm) (row_one _ _ _) ?_
    intro wW45 hw2
    have hkW45 := below_setRow (hkW44) _ (e4 n4) HA6.out
    rw [← hw2] at hkW45
    clear MA6
    have MQ := mZ.setRow (e4 n4); rw [← hw2] at MQ; have MA6 := Lib.hid MQ; clear MQ mZ hZ hw2
    refine ⟨fun _ => hkW45, ?_⟩
    (try simp only [sI, sS, sZ])
    exact wpBut_done (by kernel_rfl) (NoPanic.normal (HQ.out (_, n2, n3, n4) _ ⟨hn4, hn2r, hn3r, hn4r, HA6.out, MA6.out, (hkW45)⟩))
    refine go_alloc 6 6 #[true, true, true, true, true, false, true, false] rfl rfl rfl (by rfl) 36 rfl _ al36 ?_
    intro wW43 hw2
    have hkW43 := (hkW42).alloc (hkW42).size (.cells z36 36)
    rw [← hw2] at hkW43
    have MQ := HasN.new (wW42) z36 36 4 (by kernel_rfl); rw [← hw2] at MQ; have MA6 := Lib.hid MQ; clear MQ
    have HA6 := Lib.hid (show W4.heap.size ≤ _ from (hkW42).size)
    clear hw2
    refine ⟨fun _ => hkW43, ?_⟩
    (try simp only [sI, sS, sZ])
    refine wpBut_r1 (i := 5) (by kernel_rfl) ?_
    refine go_call 5 14 #[true, true, true, true, true, true, true, false] rfl rfl rfl (by rfl) rfl rfl (by rfl) ent31 (by rfl) (Ht.out n3 n1 hn3 hn1 _) ?_
    rintro e wW44 ⟨n4, hn4, hn4r, rfl, hb⟩
    have hkW44 := held_next hkW43 hb
    have MQ6 := Lib.hid (MA6.out.call hb); clear MA6
    have MA6 := MQ6; clear MQ6
    refine ⟨_, rfl, fun _ => hkW44, ?_⟩
    clear hb
    (try simp only [sI, sS, sZ])
    refine wpBut_r1 (i := 7) (by kernel_rfl) ?_
    obtain ⟨Zq, hZ, mZ⟩ := MA6.out
    refine go_store2 7 #[true, true, true, true, true, true, true, true] rfl rfl rfl (by rfl) 36 _ _ rfl _ _ rfl rfl 36 Zq mZ (by rw [e4_size]; kernel_rfl) (hZ.trans (e4_size ..).symm) (row_one _ _ _) ?_
    intro wW45 hw2
    have hkW45 := below_setRow (hkW44) _ (e4 n4) HA6.out
    rw [← hw2] at hkW45
    clear MA6
    have MQ := mZ.setRow (e4 n4); rw [← hw2] at MQ; have MA6 := Lib.hid MQ; clear MQ mZ hZ hw2
    refine ⟨fun _ => hkW45, ?_⟩
    (try simp only [sI, sS, sZ])
    exact wpBut_done (by kernel_rfl) (NoPanic.normal (HQ.out (_, n2, n3, n4) _ ⟨hn4, hn2r, hn3r, hn4r, HA6.out, MA6.out, (hkW45)⟩))
    refine go_alloc 6 6 #[true, true, true, false, true, false, true, false] rfl rfl rfl (by rfl) 36 rfl _ al36 ?_
    intro wW42 hw2
    have hkW42 := (hkW41).alloc (hkW41).size (.cells z36 36)
    rw [← hw2] at hkW42
    have MQ := HasN.new (wW41) z36 36 4 (by kernel_rfl); rw [← hw2] at MQ; have MA6 := Lib.hid MQ; clear MQ
    have HA6 := Lib.hid (show W4.heap.size ≤ _ from (hkW41).size)
    clear hw2
    refine ⟨fun _ => hkW42, ?_⟩
    (try simp only [sI, sS, sZ])
    refine wpBut_r1 (i := 3) (by kernel_rfl) ?_
    refine go_call 3 12 #[true, true, true, true, true, false, true, false] rfl rfl rfl (by rfl) rfl rfl (by rfl) ent31 (by rfl) (Ht.out n2 b hn2 Hb0.out _) ?_
    rintro e wW43 ⟨n3, hn3, hn3r, rfl, hb⟩
    have hkW43 := held_next hkW42 hb
    have MQ6 := Lib.hid (MA6.out.call hb); clear MA6
    have MA6 := MQ6; clear MQ6
    refine ⟨_, rfl, fun _ => hkW43, ?_⟩
    clear hb
    (try simp only [sI, sS, sZ])
    refine wpBut_r1 (i := 5) (by kernel_rfl) ?_
    refine go_call 5 14 #[true, true, true, true, true, true, true, false] rfl rfl rfl (by rfl) rfl rfl (by rfl) ent31 (by rfl) (Ht.out n3 n1 hn3 hn1 _) ?_
    rintro e wW44 ⟨n4, hn4, hn4r, rfl, hb⟩
    have hkW44 := held_next hkW43 hb
    have MQ6 := Lib.hid (MA6.out.call hb); clear MA6
    have MA6 := MQ6; clear MQ6
    refine ⟨_, rfl, fun _ => hkW44, ?_⟩
    clear hb
    (try simp only [sI, sS, sZ])
    refine wpBut_r1 (i := 7) (by kernel_rfl) ?_
    obtain ⟨Zq, hZ, mZ⟩ := MA6.out
    refine go_store2 7 #[true, true, true, true, true, true, true, true] rfl rfl rfl (by rfl) 36 _ _ rfl _ _ rfl rfl 36 Zq mZ (by rw [e4_size]; kernel_rfl) (hZ.trans (e4_size ..).symm) (row_one _ _ _) ?_
    intro wW45 hw2
    have hkW45 := below_setRow (hkW44) _ (e4 n4) HA6.out
    rw [← hw2] at hkW45
    clear MA6
    have MQ := mZ.setRow (e4 n4); rw [← hw2] at MQ; have MA6 := Lib.hid MQ; clear MQ mZ hZ hw2
    refine ⟨fun _ => hkW45, ?_⟩
    (try simp only [sI, sS, sZ])
    exact wpBut_done (by kernel_rfl) (NoPanic.normal (HQ.out (_, n2, n3, n4) _ ⟨hn4, hn2r, hn3r, hn4r, HA6.out, MA6.out, (hkW45)⟩))
    refine go_alloc 6 6 #[true, false, true, false, true, false, true, false] rfl rfl rfl (by rfl) 36 rfl _ al36 ?_
    intro wW41 hw2
    have hkW41 := ((below_dr W4)).alloc ((below_dr W4)).size (.cells z36 36)
    rw [← hw2] at hkW41
    have MQ := HasN.new (W4.drew) z36 36 4 (by kernel_rfl); rw [← hw2] at MQ; have MA6 := Lib.hid MQ; clear MQ
    have HA6 := Lib.hid (show W4.heap.size ≤ _ from ((below_dr W4)).size)
    clear hw2
    refine ⟨fun _ => hkW41, ?_⟩
    (try simp only [sI, sS, sZ])
    refine wpBut_r1 (i := 1) (by kernel_rfl) ?_
    refine go_call 1 10 #[true, true, true, false, true, false, true, false] rfl rfl rfl (by rfl) rfl rfl (by rfl) ent83 (by rfl) (Hs2.out n1 hn1 _) ?_
    rintro e wW42 ⟨n2, hn2, hn2r, rfl, hb⟩
    have hkW42 := held_next hkW41 hb
    have MQ6 := Lib.hid (MA6.out.call hb); clear MA6
    have MA6 := MQ6; clear MQ6
    refine ⟨_, rfl, fun _ => hkW42, ?_⟩
    clear hb
    (try simp only [sI, sS, sZ])
    refine wpBut_r1 (i := 3) (by kernel_rfl) ?_
    refine go_call 3 12 #[true, true, true, true, true, false, true, false] rfl rfl rfl (by rfl) rfl rfl (by rfl) ent31 (by rfl) (Ht.out n2 b hn2 Hb0.out _) ?_
    rintro e wW43 ⟨n3, hn3, hn3r, rfl, hb⟩
    have hkW43 := held_next hkW42 hb
    have MQ6 := Lib.hid (MA6.out.call hb); clear MA6
    have MA6 := MQ6; clear MQ6
    refine ⟨_, rfl, fun _ => hkW43, ?_⟩
    clear hb
    (try simp only [sI, sS, sZ])
    refine wpBut_r1 (i := 5) (by kernel_rfl) ?_
    refine go_call 5 14 #[true, true, true, true, true, true, true, false] rfl rfl rfl (by rfl) rfl rfl (by rfl) ent31 (by rfl) (Ht.out n3 n1 hn3 hn1 _) ?_
    rintro e wW44 ⟨n4, hn4, hn4r, rfl, hb⟩
    have hkW44 := held_next hkW43 hb
    have MQ6 := Lib.hid (MA6.out.call hb); clear MA6
    have MA6 := MQ6; clear MQ6
    refine ⟨_, rfl, fun _ => hkW44, ?_⟩
    clear hb
    (try simp only [sI, sS, sZ])
    refine wpBut_r1 (i := 7) (by kernel_rfl) ?_
    obtain ⟨Zq, hZ, mZ⟩ := MA6.out
    refine go_store2 7 #[true, true, true, true, true, true, true, true] rfl rfl rfl (by rfl) 36 _ _ rfl _ _ rfl rfl 36 Zq mZ (by rw [e4_size]; kernel_rfl) (hZ.trans (e4_size ..).symm) (row_one _ _ _) ?_
    intro wW45 hw2
    have hkW45 := below_setRow (hkW44) _ (e4 n4) HA6.out
    rw [← hw2] at hkW45
    clear MA6
    have MQ := mZ.setRow (e4 n4); rw [← hw2] at MQ; have MA6 := Lib.hid MQ; clear MQ mZ hZ hw2
    refine ⟨fun _ => hkW45, ?_⟩
    (try simp only [sI, sS, sZ])
    exact wpBut_done (by kernel_rfl) (NoPanic.normal (HQ.out (_, n2, n3, n4) _ ⟨hn4, hn2r, hn3r, hn4r, HA6.out, MA6.out, (hkW45)⟩))
  · rintro W4 ⟨B6, n2, n3, n4⟩ vw4 hW4 ⟨hn4, hn2r, hn3r, hn4r, hBq0, mBq0, hbw⟩
    simp only [Act.put, List.setIfInBounds_toArray, List.set_cons_succ, List.set_cons_zero] at hn4 hn2r hn3r hn4r hBq0  mBq0 ⊢
    have kq := M2.out; rw [← hW4] at kq; clear M2; have M2 := Lib.hid kq; clear kq
    have kq := M3.out; rw [← hW4] at kq; clear M3; have M3 := Lib.hid kq; clear kq
    have kq := M4.out; rw [← hW4] at kq; clear M4; have M4 := Lib.hid kq; clear kq
    have kq := M5.out; rw [← hW4] at kq; clear M5; have M5 := Lib.hid kq; clear kq
    have kq := HB.out; rw [← hW4] at kq; clear HB; have HB := Lib.hid kq; clear kq
    clear hW4
    have hltM2_4 := M2.out.lt
    have hltM3_4 := M3.out.lt
    have hltM4_4 := M4.out.lt
    have hltM5_4 := M5.out.lt
    replace M2 := Lib.hid (M2.out.call hbw)
    replace M3 := Lib.hid (M3.out.call hbw)
    replace M4 := Lib.hid (M4.out.call hbw)
    replace M5 := Lib.hid (M5.out.call hbw)
    replace HB := Lib.hid (held_next HB.out hbw)
    have M6 := Lib.hid mBq0; clear mBq0
    clear hbw
    have Hn2r := Lib.hid hn2r; clear hn2r
    have Hn3r := Lib.hid hn3r; clear hn3r
    have Hn4r := Lib.hid hn4r; clear hn4r
    clear M5
    go_step
    go_step
    go_step
    refine wp_region_noPanic ?_
    refine wp_region_go 7 8 #[false, false, false, false, false, false, false, false] (by kernel_rfl) rfl rfl ?_
    intro W5 hW5
    have kq := M2.out; rw [← hW5] at kq; clear M2; have M2 := Lib.hid kq; clear kq
    have kq := M3.out; rw [← hW5] at kq; clear M3; have M3 := Lib.hid kq; clear kq
    have kq := M4.out; rw [← hW5] at kq; clear M4; have M4 := Lib.hid kq; clear kq
    have kq := M6.out; rw [← hW5] at kq; clear M6; have M6 := Lib.hid kq; clear kq
    have kq := HB.out; rw [← hW5] at kq; clear HB; have HB := Lib.hid kq; clear kq
    clear hW5
    have M4N := Lib.hid (by first | exact M4.out | exact M4.out.toN (by first | exact e4_size _ | exact r22_size _ | exact k32_size _ | exact pt_size .. | exact rp_size ..) : HasN W5 (w.heap.size + 1 + 1) _ _)
    refine go_take2 0 15 #[true, false, false, false, false, false, false, false] rfl rfl rfl (by kernel_rfl) (yieldsIf_load_row (by rfl) 36 _ rfl (w.heap.size) rfl 36 (e4 a) (fun _ h => M2.out.below h M2.out.lt) Try.underlying36 rfl (by rw [e4_size]; kernel_rfl)) ((below_dr W5)) ?_
    (try simp only [sI, sS, sZ])
    refine go_take2 1 16 #[true, true, false, false, false, false, false, false] rfl rfl rfl (by kernel_rfl) (yieldsIf_load_row (by rfl) 36 _ rfl (w.heap.size + 1) rfl 36 (e4 b) (fun _ h => M3.out.below h M3.out.lt) Try.underlying36 rfl (by rw [e4_size]; kernel_rfl)) ((below_dr W5)) ?_
    (try simp only [sI, sS, sZ])
    refine go_take2 4 19 #[true, true, false, false, true, false, false, false] rfl rfl rfl (by kernel_rfl) (yieldsIf_load_row (by rfl) 36 _ rfl (B6) rfl 36 (e4 n4) (fun _ h => M6.out.below h M6.out.lt) Try.underlying36 rfl (by rw [e4_size]; kernel_rfl)) ((below_dr W5)) ?_
    (try simp only [sI, sS, sZ])
    refine wpBut_r1 (i := 2) (by kernel_rfl) ?_
    refine go_call 2 17 #[true, true, true, false, true, false, false, false] rfl rfl rfl (by rfl) rfl rfl (by rfl) ent84 (by rfl) (Hpw.out _) ?_
    rintro e wW51 ⟨n5, hn5, hn5r, rfl, hb⟩
    have hkW51 := held_next (below_dr W5) hb
    refine ⟨_, rfl, fun _ => hkW51, ?_⟩
    clear hb
    (try simp only [sI, sS, sZ])
    refine wpBut_r1 (i := 3) (by kernel_rfl) ?_
    refine go_call 3 18 #[true, true, true, true, true, false, false, false] rfl rfl rfl (by rfl) rfl rfl (by rfl) ent83 (by rfl) (Hs5.out n5 hn5 _) ?_
    rintro e wW52 ⟨n6, hn6, hn6r, rfl, hb⟩
    have hkW52 := held_next hkW51 hb
    refine ⟨_, rfl, fun _ => hkW52, ?_⟩
    clear hb
    (try simp only [sI, sS, sZ])
    refine wpBut_r1 (i := 5) (by kernel_rfl) ?_
    refine go_call 5 20 #[true, true, true, true, true, true, false, false] rfl rfl rfl (by rfl) rfl rfl (by rfl) ent31 (by rfl) (Ht.out n6 n4 hn6 hn4 _) ?_
    rintro e wW53 ⟨n7, hn7, hn7r, rfl, hb⟩
    have hkW53 := held_next hkW52 hb
    refine ⟨_, rfl, fun _ => hkW53, ?_⟩
    clear hb
    (try simp only [sI, sS, sZ])
    refine wpBut_r1 (i := 6) (by kernel_rfl) ?_
    refine go_call 6 21 #[true, true, true, true, true, true, true, false] rfl rfl rfl (by rfl) rfl rfl (by rfl) ent31 (by rfl) (Ht.out a n7 Ha.out hn7 _) ?_
    rintro e wW54 ⟨n8, hn8, hn8r, rfl, hb⟩
    have hkW54 := held_next hkW53 hb
    refine ⟨_, rfl, fun _ => hkW54, ?_⟩
    clear hb
    (try simp only [sI, sS, sZ])
    refine wpBut_r1 (i := 7) (by kernel_rfl) ?_
    obtain ⟨Zq, hZ, mZ⟩ := M4N.out.below hkW54 M4N.out.lt
    have MZ := Lib.hid mZ; clear mZ
    have HZ := Lib.hid hZ; clear hZ
    refine go_store 7 #[true, true, true, true, true, true, true, true] rfl rfl rfl (by rfl) 36 _ _ rfl (w.heap.size + 1 + 1) _ rfl rfl 36 Zq MZ.out (by rw [e4_size]; kernel_rfl) (HZ.out.trans (e4_size ..).symm) (row_one _ _ _) ⟨fun h => (h rfl).elim, ?_⟩
    (try simp only [sI, sS, sZ])
    refine wpBut_done (by kernel_rfl) (NoPanic.normal ?_)
    replace M2 := Lib.hid ((M2.out.call hkW54).setRow_other (w.heap.size + 1 + 1) (e4 n8) (by omega))
    replace M3 := Lib.hid ((M3.out.call hkW54).setRow_other (w.heap.size + 1 + 1) (e4 n8) (by omega))
    replace M6 := Lib.hid ((M6.out.call hkW54).setRow_other (w.heap.size + 1 + 1) (e4 n8) (by omega))
    clear M4 M4N
    have M4 := Lib.hid (MZ.out.setRow (e4 n8)); clear MZ HZ
    replace HB := Lib.hid (below_setRow (held_next HB.out hkW54) (w.heap.size + 1 + 1) (e4 n8) (by omega))
    have hfin := Hpo.out n1 n2 n3 n4 n5 n6 n7 n8 Hn1r.out Hn2r.out Hn3r.out Hn4r.out hn5r hn6r hn7r hn8r
    have Hfin := Lib.hid hfin; clear hfin
    go_wp2_with fail
    exact bodyPost_ret (v := .agg (e4 n8)) (results_cell_row (t := 36) (by rfl) _ _ (w.heap.size + 1 + 1) _ _ _ rfl M4.out Try.underlying36 rfl (by rw [e4_size]; kernel_rfl)) rfl ⟨n8, hn8, Hfin.out, rfl, HB.out⟩
end Go.Proofs.Ytjiagjonlcadiaa
