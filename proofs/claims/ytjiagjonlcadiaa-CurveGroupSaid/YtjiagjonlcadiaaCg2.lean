/- Chapter 04: points are a group, without the document's answer. For all three keys the law returns true. -/
import Derived.Test.YtjiagjonlcadiaaCg1
section
namespace Go.Proofs.Ytjiagjonlcadiaa
open Go.RowKit Go.Lib

theorem p_over (a b n1 n2 n3 n4 n5 n6 n7 n8 : Nat) (h1 : n1 % PP = pwm b 2) (h2 : n2 % PP = pwm n1 4) (h3 : n3 % PP = n2 * b % PP) (h4 : n4 % PP = n3 * n1 % PP)
    (h5 : n5 % PP = pwm b 1809251394333065553493296640760748560207343510400633813116524750123642650623) (h6 : n6 % PP = pwm n5 32) (h7 : n7 % PP = n6 * n4 % PP) (h8 : n8 % PP = a * n7 % PP) : n8 % PP = a * pwm b (PP - 2) % PP := by
  have k2 := pw_go b n1 2 4 n2 8 h1 h2 rfl
  have k3 := pw_by b n2 b 8 1 n3 9 k2 (pw_self b) h3 rfl
  have k4 := pw_by b n3 n1 9 2 n4 11 k3 h1 h4 rfl
  have k6 := pw_go b n5 1809251394333065553493296640760748560207343510400633813116524750123642650623 32 n6 57896044618658097711785492504343953926634992332820282019728792003956564819936 h5 h6 (by decide +kernel)
  have k7 := pw_by b n6 n4 57896044618658097711785492504343953926634992332820282019728792003956564819936 11 n7 (PP - 2) k6 k4 h7 (by decide +kernel)
  rw [h8, Nat.mul_mod, k7, Nat.mod_mul_mod]

set_option maxRecDepth 100000 in
set_option linter.unusedSimpArgs false in
set_option maxHeartbeats 8000000 in
theorem over_any (a b : Nat) (ha : a < 115792089237316195423570985008687907853269984665640564039457584007913129639936) (hb0 : b < 115792089237316195423570985008687907853269984665640564039457584007913129639936) (w : World) :
    Calls Try.prog 42 #[.agg (e4 a), .agg (e4 b)] w (ElP (a * pwm b (PP - 2) % PP) w) := by
  have hs1 := fun w => squares_1 b hb0 w
  have hs2 := squares_2
  have hs5 := squares_5
  have ht := fun x y hx hy w => times_any x y hx hy w
  have hpw := fun w => power_any b hb0 w
  have hpo := p_over a b
  have Hs1 := Lib.hid hs1; clear hs1
  have Hs2 := Lib.hid hs2; clear hs2
  have Hs5 := Lib.hid hs5; clear hs5
  have Ht := Lib.hid ht; clear ht
  have Hpw := Lib.hid hpw; clear hpw
  have Hpo := Lib.hid hpo; clear hpo
  have Ha := Lib.hid ha; clear ha
  have Hb0 := Lib.hid hb0; clear hb0
  obtain ⟨R, hR⟩ : ∃ R, R = a * pwm b (PP - 2) % PP := ⟨_, rfl⟩
  rw [← hR] at Hpo ⊢
  clear hR
  go_enter Try.func42, Try.ntmps42
  go_step
  go_step
  iterate 3 (refine wpList_step (fun K hK => ?_); go_simp; (try go_bits); refine hK _ _ ?_; clear hK K)
  refine wpList_nil ?_
  have M2 := Lib.hid (((Has.new w  (e4 a) 36).alloc (.cells (e4 b) 36)).alloc (.cells (#[.int .u64 0, .int .u64 0, .int .u64 0, .int .u64 0] : Array Value) 36))
  have M3 := Lib.hid ((Has.new1 w (.cells (e4 a) 36) (e4 b) 36).alloc (.cells (#[.int .u64 0, .int .u64 0, .int .u64 0, .int .u64 0] : Array Value) 36))
  have M4 := Lib.hid (HasN.new2 w (.cells (e4 a) 36) (.cells (e4 b) 36) (#[.int .u64 0, .int .u64 0, .int .u64 0, .int .u64 0] : Array Value) 36 4 (by kernel_rfl))
  have HB := Lib.hid (below_3 w (.cells (e4 a) 36) (.cells (e4 b) 36) (.cells (#[.int .u64 0, .int .u64 0, .int .u64 0, .int .u64 0] : Array Value) 36))
  go_step
  go_step
  go_step
  go_step
  refine wpList_load (by rfl) 36 _ rfl (w.heap.size + 1) rfl 36 (e4 b) M3.out Try.underlying36 rfl (by rw [e4_size]; kernel_rfl) 7 rfl ?_
  (try simp only [Act.put, sI, sS, sZ])
  refine wpList_call (by rfl) rfl rfl (by rfl) ent83 (by rfl) (Hs1.out _) 8 rfl ?_
  rintro e uw1 ⟨n1, hn1, hn1r, rfl, hb⟩
  replace M2 := Lib.hid (M2.out.call hb)
  replace M3 := Lib.hid (M3.out.call hb)
  replace M4 := Lib.hid (M4.out.call hb)
  replace HB := Lib.hid (held_next HB.out hb)
  refine ⟨_, rfl, ?_⟩
  clear hb
  (try simp only [Act.put, sI, sS, sZ])
  refine wpList_step (fun K hK => ?_)
  go_simp
  have hlt1 := M2.out.lt
  have hlt2 := M3.out.lt
  have hlt3 := M4.out.lt
  replace M2 := Lib.hid (M2.out.alloc (.cells (#[.int .u64 0, .int .u64 0, .int .u64 0, .int .u64 0] : Array Value) 36))
  replace M3 := Lib.hid (M3.out.alloc (.cells (#[.int .u64 0, .int .u64 0, .int .u64 0, .int .u64 0] : Array Value) 36))
  replace M4 := Lib.hid (M4.out.alloc (.cells (#[.int .u64 0, .int .u64 0, .int .u64 0, .int .u64 0] : Array Value) 36))
  have M5 := Lib.hid (HasN.new uw1 (#[.int .u64 0, .int .u64 0, .int .u64 0, .int .u64 0] : Array Value) 36 4 rfl)
  have hsz := HB.out.size
  replace HB := Lib.hid (HB.out.alloc hsz (.cells (#[.int .u64 0, .int .u64 0, .int .u64 0, .int .u64 0] : Array Value) 36))
  refine hK _ _ ?_
  clear hK K
  first | (obtain ⟨Zq, hZ, mZ⟩ := M5.out) | (obtain ⟨Zq, hZ, mZ⟩ := M5.out.toN (e4_size _))
  clear M5
  have hZ' := Lib.hid hZ; clear hZ
  have mZ' := Lib.hid mZ; clear mZ
  refine wpList_store_row rfl 36 _ _ rfl (uw1.heap.size) _ rfl rfl 36 Zq mZ'.out (by rw [e4_size]; kernel_rfl) (hZ'.out.trans (e4_size _).symm) (row_one _ _ _) ?_
  (try simp only [Act.put, sI, sS, sZ])
  replace M2 := Lib.hid (M2.out.setRow_other (uw1.heap.size) (e4 n1) (by omega))
  replace M3 := Lib.hid (M3.out.setRow_other (uw1.heap.size) (e4 n1) (by omega))
  replace M4 := Lib.hid (M4.out.setRow_other (uw1.heap.size) (e4 n1) (by omega))
  have M5 := Lib.hid (mZ'.out.setRow (e4 n1))
  clear mZ' hZ'
  replace HB := Lib.hid (below_setRow HB.out (uw1.heap.size) (e4 n1) (by omega))
  refine wpList_nil ?_
  have Hn1r := Lib.hid hn1r; clear hn1r
  go_step
  go_step
  go_step
  refine wp_region_meet (α := Nat × Nat × Nat × Nat) (fun W0 x w' => x.2.2.2 < 115792089237316195423570985008687907853269984665640564039457584007913129639936 ∧ x.2.1 % PP = pwm n1 4 ∧ x.2.2.1 % PP = x.2.1 * b % PP ∧ x.2.2.2 % PP = x.2.2.1 * n1 % PP ∧ W0.heap.size ≤ x.1 ∧ Has w' x.1 (e4 x.2.2.2) 36 ∧ Below W0.heap.size W0 w') (fun ac x => (((((((ac.put (some 9) (.agg (e4 n1))).put (some 10) (.agg (e4 x.2.1))).put (some 11) (.agg (e4 b))).put (some 12) (.agg (e4 x.2.2.1))).put (some 13) (.agg (e4 n1))).put (some 14) (.agg (e4 x.2.2.2))).put (some 6) (.pointer (some ⟨x.1, 0, none⟩)))) ?_ ?_
  · intro Q' hQ'
    refine wp_region_noPanic ?_
    refine wp_region_go 99 8 #[ff,ff,ff,ff,ff,ff,ff,ff] (by kernel_rfl) rfl rfl ?_
    intro W4 hW4
    rw [← hW4] at hQ'
    simp only [Act.put, List.setIfInBounds_toArray, List.set_cons_succ, List.set_cons_zero] at hQ'
    have HQ := Lib.hid hQ'; clear hQ'
    rw [← hW4] at M2 M3 M4 M5 HB
    clear hW4
    refine go_take2 0 9 #[tt,ff,ff,ff,ff,ff,ff,ff] rfl rfl rfl (by kernel_rfl) (yieldsIf_load_row (by rfl) 36 _ rfl (uw1.heap.size) rfl 36 (e4 n1) (fun _ h => M5.out.below h M5.out.lt) Try.underlying36 rfl (by rw [e4_size]; kernel_rfl)) ((below_dr W4)) ?_
    (try simp only [sI, sS, sZ])
    refine go_take2 2 11 #[tt,ff,tt,ff,ff,ff,ff,ff] rfl rfl rfl (by kernel_rfl) (yieldsIf_load_row (by rfl) 36 _ rfl (w.heap.size + 1) rfl 36 (e4 b) (fun _ h => M3.out.below h M3.out.lt) Try.underlying36 rfl (by rw [e4_size]; kernel_rfl)) ((below_dr W4)) ?_
    (try simp only [sI, sS, sZ])
    refine go_take2 4 13 #[tt,ff,tt,ff,tt,ff,ff,ff] rfl rfl rfl (by kernel_rfl) (yieldsIf_load_row (by rfl) 36 _ rfl (uw1.heap.size) rfl 36 (e4 n1) (fun _ h => M5.out.below h M5.out.lt) Try.underlying36 rfl (by rw [e4_size]; kernel_rfl)) ((below_dr W4)) ?_
    (try simp only [sI, sS, sZ])
    refine wpBut_r2 (i := 1) (j := 6) (by kernel_rfl) ?_ ?_
    refine go_call 1 10 #[tt,tt,tt,ff,tt,ff,ff,ff] rfl rfl rfl (by rfl) rfl rfl (by rfl) ent83 (by rfl) (Hs2.out n1 hn1 _) ?_
    rintro e wW41 ⟨n2, hn2, hn2r, rfl, hb⟩
    have hkW41 := held_next (below_dr W4) hb
    refine ⟨_, rfl, fun _ => hkW41, ?_⟩
    clear hb
    (try simp only [sI, sS, sZ])
    refine wpBut_r2 (i := 3) (j := 6) (by kernel_rfl) ?_ ?_
    refine go_call 3 12 #[tt,tt,tt,tt,tt,ff,ff,ff] rfl rfl rfl (by rfl) rfl rfl (by rfl) ent31 (by rfl) (Ht.out n2 b hn2 Hb0.out _) ?_
    rintro e wW42 ⟨n3, hn3, hn3r, rfl, hb⟩
    have hkW42 := held_next hkW41 hb
    refine ⟨_, rfl, fun _ => hkW42, ?_⟩
    clear hb
    (try simp only [sI, sS, sZ])
    refine wpBut_r2 (i := 5) (j := 6) (by kernel_rfl) ?_ ?_
    refine go_call 5 14 #[tt,tt,tt,tt,tt,tt,ff,ff] rfl rfl rfl (by rfl) rfl rfl (by rfl) ent31 (by rfl) (Ht.out n3 n1 hn3 hn1 _) ?_
    rintro e wW43 ⟨n4, hn4, hn4r, rfl, hb⟩
    have hkW43 := held_next hkW42 hb
    refine ⟨_, rfl, fun _ => hkW43, ?_⟩
    clear hb
    (try simp only [sI, sS, sZ])
    refine wpBut_r1 (i := 6) (by kernel_rfl) ?_
    refine go_alloc 6 6 #[tt,tt,tt,tt,tt,tt,tt,ff] rfl rfl rfl (by rfl) 36 rfl _ al36 ?_
    intro wW44 hw2
    have hkW44 := (hkW43).alloc (hkW43).size (.cells z36 36)
    rw [← hw2] at hkW44
    have MA6 := Lib.hid (HasN.new (wW43) z36 36 4 (by kernel_rfl))
    rw [← hw2] at MA6
    have HA6 := Lib.hid (show W4.heap.size ≤ _ from (hkW43).size)
    clear hw2
    refine ⟨fun _ => hkW44, ?_⟩
    (try simp only [sI, sS, sZ])
    refine wpBut_r1 (i := 7) (by kernel_rfl) ?_
    obtain ⟨Zq, hZ, mZ⟩ := MA6.out
    refine go_store2 7 #[tt,tt,tt,tt,tt,tt,tt,tt] rfl rfl rfl (by rfl) 36 _ _ rfl _ _ rfl rfl 36 Zq mZ (by rw [e4_size]; kernel_rfl) (hZ.trans (e4_size ..).symm) (row_one _ _ _) ?_
    intro wW45 hw2
    have hkW45 := below_setRow (hkW44) _ (e4 n4) HA6.out
    rw [← hw2] at hkW45
    clear MA6
    have MA6 := Lib.hid (mZ.setRow (e4 n4))
    rw [← hw2] at MA6; clear mZ hZ hw2
    refine ⟨fun _ => hkW45, ?_⟩
    (try simp only [sI, sS, sZ])
    exact wpBut_done (by kernel_rfl) (NoPanic.normal (HQ.out (_, n2, n3, n4) _ ⟨hn4, hn2r, hn3r, hn4r, HA6.out, MA6.out, (hkW45)⟩))
    refine go_alloc 6 6 #[tt,tt,tt,tt,tt,ff,tt,ff] rfl rfl rfl (by rfl) 36 rfl _ al36 ?_
    intro wW43 hw2
    have hkW43 := (hkW42).alloc (hkW42).size (.cells z36 36)
    rw [← hw2] at hkW43
    have MA6 := Lib.hid (HasN.new (wW42) z36 36 4 (by kernel_rfl))
    rw [← hw2] at MA6
    have HA6 := Lib.hid (show W4.heap.size ≤ _ from (hkW42).size)
    clear hw2
    refine ⟨fun _ => hkW43, ?_⟩
    (try simp only [sI, sS, sZ])
    refine wpBut_r1 (i := 5) (by kernel_rfl) ?_
    refine go_call 5 14 #[tt,tt,tt,tt,tt,tt,tt,ff] rfl rfl rfl (by rfl) rfl rfl (by rfl) ent31 (by rfl) (Ht.out n3 n1 hn3 hn1 _) ?_
    rintro e wW44 ⟨n4, hn4, hn4r, rfl, hb⟩
    have hkW44 := held_next hkW43 hb
    replace MA6 := Lib.hid (MA6.out.call hb)
    refine ⟨_, rfl, fun _ => hkW44, ?_⟩
    clear hb
    (try simp only [sI, sS, sZ])
    refine wpBut_r1 (i := 7) (by kernel_rfl) ?_
    obtain ⟨Zq, hZ, mZ⟩ := MA6.out
    refine go_store2 7 #[tt,tt,tt,tt,tt,tt,tt,tt] rfl rfl rfl (by rfl) 36 _ _ rfl _ _ rfl rfl 36 Zq mZ (by rw [e4_size]; kernel_rfl) (hZ.trans (e4_size ..).symm) (row_one _ _ _) ?_
    intro wW45 hw2
    have hkW45 := below_setRow (hkW44) _ (e4 n4) HA6.out
    rw [← hw2] at hkW45
    clear MA6
    have MA6 := Lib.hid (mZ.setRow (e4 n4))
    rw [← hw2] at MA6; clear mZ hZ hw2
    refine ⟨fun _ => hkW45, ?_⟩
    (try simp only [sI, sS, sZ])
    exact wpBut_done (by kernel_rfl) (NoPanic.normal (HQ.out (_, n2, n3, n4) _ ⟨hn4, hn2r, hn3r, hn4r, HA6.out, MA6.out, (hkW45)⟩))
    refine go_alloc 6 6 #[tt,tt,tt,ff,tt,ff,tt,ff] rfl rfl rfl (by rfl) 36 rfl _ al36 ?_
    intro wW42 hw2
    have hkW42 := (hkW41).alloc (hkW41).size (.cells z36 36)
    rw [← hw2] at hkW42
    have MA6 := Lib.hid (HasN.new (wW41) z36 36 4 (by kernel_rfl))
    rw [← hw2] at MA6
    have HA6 := Lib.hid (show W4.heap.size ≤ _ from (hkW41).size)
    clear hw2
    refine ⟨fun _ => hkW42, ?_⟩
    (try simp only [sI, sS, sZ])
    refine wpBut_r1 (i := 3) (by kernel_rfl) ?_
    refine go_call 3 12 #[tt,tt,tt,tt,tt,ff,tt,ff] rfl rfl rfl (by rfl) rfl rfl (by rfl) ent31 (by rfl) (Ht.out n2 b hn2 Hb0.out _) ?_
    rintro e wW43 ⟨n3, hn3, hn3r, rfl, hb⟩
    have hkW43 := held_next hkW42 hb
    replace MA6 := Lib.hid (MA6.out.call hb)
    refine ⟨_, rfl, fun _ => hkW43, ?_⟩
    clear hb
    (try simp only [sI, sS, sZ])
    refine wpBut_r1 (i := 5) (by kernel_rfl) ?_
    refine go_call 5 14 #[tt,tt,tt,tt,tt,tt,tt,ff] rfl rfl rfl (by rfl) rfl rfl (by rfl) ent31 (by rfl) (Ht.out n3 n1 hn3 hn1 _) ?_
    rintro e wW44 ⟨n4, hn4, hn4r, rfl, hb⟩
    have hkW44 := held_next hkW43 hb
    replace MA6 := Lib.hid (MA6.out.call hb)
    refine ⟨_, rfl, fun _ => hkW44, ?_⟩
    clear hb
    (try simp only [sI, sS, sZ])
    refine wpBut_r1 (i := 7) (by kernel_rfl) ?_
    obtain ⟨Zq, hZ, mZ⟩ := MA6.out
    refine go_store2 7 #[tt,tt,tt,tt,tt,tt,tt,tt] rfl rfl rfl (by rfl) 36 _ _ rfl _ _ rfl rfl 36 Zq mZ (by rw [e4_size]; kernel_rfl) (hZ.trans (e4_size ..).symm) (row_one _ _ _) ?_
    intro wW45 hw2
    have hkW45 := below_setRow (hkW44) _ (e4 n4) HA6.out
    rw [← hw2] at hkW45
    clear MA6
    have MA6 := Lib.hid (mZ.setRow (e4 n4))
    rw [← hw2] at MA6; clear mZ hZ hw2
    refine ⟨fun _ => hkW45, ?_⟩
    (try simp only [sI, sS, sZ])
    exact wpBut_done (by kernel_rfl) (NoPanic.normal (HQ.out (_, n2, n3, n4) _ ⟨hn4, hn2r, hn3r, hn4r, HA6.out, MA6.out, (hkW45)⟩))
    refine go_alloc 6 6 #[tt,ff,tt,ff,tt,ff,tt,ff] rfl rfl rfl (by rfl) 36 rfl _ al36 ?_
    intro wW41 hw2
    have hkW41 := ((below_dr W4)).alloc ((below_dr W4)).size (.cells z36 36)
    rw [← hw2] at hkW41
    have MA6 := Lib.hid (HasN.new (W4.drew) z36 36 4 (by kernel_rfl))
    rw [← hw2] at MA6
    have HA6 := Lib.hid (show W4.heap.size ≤ _ from ((below_dr W4)).size)
    clear hw2
    refine ⟨fun _ => hkW41, ?_⟩
    (try simp only [sI, sS, sZ])
    refine wpBut_r1 (i := 1) (by kernel_rfl) ?_
    refine go_call 1 10 #[tt,tt,tt,ff,tt,ff,tt,ff] rfl rfl rfl (by rfl) rfl rfl (by rfl) ent83 (by rfl) (Hs2.out n1 hn1 _) ?_
    rintro e wW42 ⟨n2, hn2, hn2r, rfl, hb⟩
    have hkW42 := held_next hkW41 hb
    replace MA6 := Lib.hid (MA6.out.call hb)
    refine ⟨_, rfl, fun _ => hkW42, ?_⟩
    clear hb
    (try simp only [sI, sS, sZ])
    refine wpBut_r1 (i := 3) (by kernel_rfl) ?_
    refine go_call 3 12 #[tt,tt,tt,tt,tt,ff,tt,ff] rfl rfl rfl (by rfl) rfl rfl (by rfl) ent31 (by rfl) (Ht.out n2 b hn2 Hb0.out _) ?_
    rintro e wW43 ⟨n3, hn3, hn3r, rfl, hb⟩
    have hkW43 := held_next hkW42 hb
    replace MA6 := Lib.hid (MA6.out.call hb)
    refine ⟨_, rfl, fun _ => hkW43, ?_⟩
    clear hb
    (try simp only [sI, sS, sZ])
    refine wpBut_r1 (i := 5) (by kernel_rfl) ?_
    refine go_call 5 14 #[tt,tt,tt,tt,tt,tt,tt,ff] rfl rfl rfl (by rfl) rfl rfl (by rfl) ent31 (by rfl) (Ht.out n3 n1 hn3 hn1 _) ?_
    rintro e wW44 ⟨n4, hn4, hn4r, rfl, hb⟩
    have hkW44 := held_next hkW43 hb
    replace MA6 := Lib.hid (MA6.out.call hb)
    refine ⟨_, rfl, fun _ => hkW44, ?_⟩
    clear hb
    (try simp only [sI, sS, sZ])
    refine wpBut_r1 (i := 7) (by kernel_rfl) ?_
    obtain ⟨Zq, hZ, mZ⟩ := MA6.out
    refine go_store2 7 #[tt,tt,tt,tt,tt,tt,tt,tt] rfl rfl rfl (by rfl) 36 _ _ rfl _ _ rfl rfl 36 Zq mZ (by rw [e4_size]; kernel_rfl) (hZ.trans (e4_size ..).symm) (row_one _ _ _) ?_
    intro wW45 hw2
    have hkW45 := below_setRow (hkW44) _ (e4 n4) HA6.out
    rw [← hw2] at hkW45
    clear MA6
    have MA6 := Lib.hid (mZ.setRow (e4 n4))
    rw [← hw2] at MA6; clear mZ hZ hw2
    refine ⟨fun _ => hkW45, ?_⟩
    (try simp only [sI, sS, sZ])
    exact wpBut_done (by kernel_rfl) (NoPanic.normal (HQ.out (_, n2, n3, n4) _ ⟨hn4, hn2r, hn3r, hn4r, HA6.out, MA6.out, (hkW45)⟩))
  · rintro W4 ⟨B6, n2, n3, n4⟩ vw4 hW4 ⟨hn4, hn2r, hn3r, hn4r, hBq0, mBq0, hbw⟩
    simp only [Act.put, List.setIfInBounds_toArray, List.set_cons_succ, List.set_cons_zero] at hn4 hn2r hn3r hn4r hBq0  mBq0 ⊢
    rw [← hW4] at M2 M3 M4 M5 HB
    clear hW4
    have hltM2_4 := M2.out.lt
    have hltM3_4 := M3.out.lt
    have hltM4_4 := M4.out.lt
    have hltM5_4 := M5.out.lt
    replace M2 := Lib.hid (M2.out.call hbw)
    replace M3 := Lib.hid (M3.out.call hbw)
    replace M4 := Lib.hid (M4.out.call hbw)
    replace M5 := Lib.hid (M5.out.call hbw)
    replace HB := Lib.hid (held_next HB.out hbw)
    have M6 := Lib.hid mBq0; clear mBq0
    clear hbw
    have Hn2r := Lib.hid hn2r; clear hn2r
    have Hn3r := Lib.hid hn3r; clear hn3r
    have Hn4r := Lib.hid hn4r; clear hn4r
    clear M5
    go_step
    go_step
    go_step
    refine wp_region_noPanic ?_
    refine wp_region_go 7 8 #[ff,ff,ff,ff,ff,ff,ff,ff] (by kernel_rfl) rfl rfl ?_
    intro W5 hW5
    rw [← hW5] at M2 M3 M4 M6 HB
    clear hW5
    have M4N := Lib.hid (by first | exact M4.out | exact M4.out.toN (by first | exact e4_size _ | exact r22_size _ | exact k32_size _ | exact pt_size .. | exact rp_size ..) : HasN W5 (w.heap.size + 1 + 1) _ _)
    refine go_take2 0 15 #[tt,ff,ff,ff,ff,ff,ff,ff] rfl rfl rfl (by kernel_rfl) (yieldsIf_load_row (by rfl) 36 _ rfl (w.heap.size) rfl 36 (e4 a) (fun _ h => M2.out.below h M2.out.lt) Try.underlying36 rfl (by rw [e4_size]; kernel_rfl)) ((below_dr W5)) ?_
    (try simp only [sI, sS, sZ])
    refine go_take2 1 16 #[tt,tt,ff,ff,ff,ff,ff,ff] rfl rfl rfl (by kernel_rfl) (yieldsIf_load_row (by rfl) 36 _ rfl (w.heap.size + 1) rfl 36 (e4 b) (fun _ h => M3.out.below h M3.out.lt) Try.underlying36 rfl (by rw [e4_size]; kernel_rfl)) ((below_dr W5)) ?_
    (try simp only [sI, sS, sZ])
    refine go_take2 4 19 #[tt,tt,ff,ff,tt,ff,ff,ff] rfl rfl rfl (by kernel_rfl) (yieldsIf_load_row (by rfl) 36 _ rfl (B6) rfl 36 (e4 n4) (fun _ h => M6.out.below h M6.out.lt) Try.underlying36 rfl (by rw [e4_size]; kernel_rfl)) ((below_dr W5)) ?_
    (try simp only [sI, sS, sZ])
    refine wpBut_r1 (i := 2) (by kernel_rfl) ?_
    refine go_call 2 17 #[tt,tt,tt,ff,tt,ff,ff,ff] rfl rfl rfl (by rfl) rfl rfl (by rfl) ent84 (by rfl) (Hpw.out _) ?_
    rintro e wW51 ⟨n5, hn5, hn5r, rfl, hb⟩
    have hkW51 := held_next (below_dr W5) hb
    refine ⟨_, rfl, fun _ => hkW51, ?_⟩
    clear hb
    (try simp only [sI, sS, sZ])
    refine wpBut_r1 (i := 3) (by kernel_rfl) ?_
    refine go_call 3 18 #[tt,tt,tt,tt,tt,ff,ff,ff] rfl rfl rfl (by rfl) rfl rfl (by rfl) ent83 (by rfl) (Hs5.out n5 hn5 _) ?_
    rintro e wW52 ⟨n6, hn6, hn6r, rfl, hb⟩
    have hkW52 := held_next hkW51 hb
    refine ⟨_, rfl, fun _ => hkW52, ?_⟩
    clear hb
    (try simp only [sI, sS, sZ])
    refine wpBut_r1 (i := 5) (by kernel_rfl) ?_
    refine go_call 5 20 #[tt,tt,tt,tt,tt,tt,ff,ff] rfl rfl rfl (by rfl) rfl rfl (by rfl) ent31 (by rfl) (Ht.out n6 n4 hn6 hn4 _) ?_
    rintro e wW53 ⟨n7, hn7, hn7r, rfl, hb⟩
    have hkW53 := held_next hkW52 hb
    refine ⟨_, rfl, fun _ => hkW53, ?_⟩
    clear hb
    (try simp only [sI, sS, sZ])
    refine wpBut_r1 (i := 6) (by kernel_rfl) ?_
    refine go_call 6 21 #[tt,tt,tt,tt,tt,tt,tt,ff] rfl rfl rfl (by rfl) rfl rfl (by rfl) ent31 (by rfl) (Ht.out a n7 Ha.out hn7 _) ?_
    rintro e wW54 ⟨n8, hn8, hn8r, rfl, hb⟩
    have hkW54 := held_next hkW53 hb
    refine ⟨_, rfl, fun _ => hkW54, ?_⟩
    clear hb
    (try simp only [sI, sS, sZ])
    refine wpBut_r1 (i := 7) (by kernel_rfl) ?_
    obtain ⟨Zq, hZ, mZ⟩ := M4N.out.below hkW54 M4N.out.lt
    have MZ := Lib.hid mZ; clear mZ
    have HZ := Lib.hid hZ; clear hZ
    refine go_store 7 #[tt,tt,tt,tt,tt,tt,tt,tt] rfl rfl rfl (by rfl) 36 _ _ rfl (w.heap.size + 1 + 1) _ rfl rfl 36 Zq MZ.out (by rw [e4_size]; kernel_rfl) (HZ.out.trans (e4_size ..).symm) (row_one _ _ _) ⟨fun h => (h rfl).elim, ?_⟩
    (try simp only [sI, sS, sZ])
    refine wpBut_done (by kernel_rfl) (NoPanic.normal ?_)
    replace M2 := Lib.hid ((M2.out.call hkW54).setRow_other (w.heap.size + 1 + 1) (e4 n8) (by omega))
    replace M3 := Lib.hid ((M3.out.call hkW54).setRow_other (w.heap.size + 1 + 1) (e4 n8) (by omega))
    replace M6 := Lib.hid ((M6.out.call hkW54).setRow_other (w.heap.size + 1 + 1) (e4 n8) (by omega))
    clear M4 M4N
    have M4 := Lib.hid (MZ.out.setRow (e4 n8)); clear MZ HZ
    replace HB := Lib.hid (below_setRow (held_next HB.out hkW54) (w.heap.size + 1 + 1) (e4 n8) (by omega))
    have hfin := Hpo.out n1 n2 n3 n4 n5 n6 n7 n8 Hn1r.out Hn2r.out Hn3r.out Hn4r.out hn5r hn6r hn7r hn8r
    have Hfin := Lib.hid hfin; clear hfin
    go_wp2_with fail
    exact bodyPost_ret (v := .agg (e4 n8)) (results_cell_row (t := 36) (by rfl) _ _ (w.heap.size + 1 + 1) _ _ _ rfl M4.out Try.underlying36 rfl (by rw [e4_size]; kernel_rfl)) rfl ⟨n8, hn8, Hfin.out, rfl, HB.out⟩
end Go.Proofs.Ytjiagjonlcadiaa
end
section
namespace Go.Proofs.Ytjiagjonlcadiaa
open Go.RowKit Go.Lib



end Go.Proofs.Ytjiagjonlcadiaa
end
section
namespace Go.Proofs.Ytjiagjonlcadiaa
open Go.RowKit Go.Lib

/-- the reference's root: of a number a -/
def rt1 (a : Nat) : Nat := pwm a ((PP + 3) / 2 / 2 / 2)
def rti : Nat := pwm (2 % PP) ((PP - 1 % PP) / 2 / 2)
def rt2 (a : Nat) : Nat := if rt1 a * rt1 a % PP = a then rt1 a else rt1 a * rti % PP
def rtok (a : Nat) : Bool := decide (rt2 a * rt2 a % PP = a)
def rt3 (a : Nat) : Nat := if rtok a then (if rt2 a % 2 = 1 then PP - rt2 a else rt2 a) else 0



end Go.Proofs.Ytjiagjonlcadiaa
end
section
namespace Go.Proofs.Ytjiagjonlcadiaa

/-- is a number a square: its power to half of the prime less 1 -/
def chi (a : Nat) : Nat := pwm a ((PP - 1) / 2)
theorem chi_sq (a : Nat) (ha : a % PP ≠ 0) : chi a * chi a % PP = 1 := by
  unfold chi
  rw [← pwm_add, show (PP - 1) / 2 + (PP - 1) / 2 = PP - 1 by decide +kernel]
  exact little a ha
theorem one_sq (t : Nat) (ht : t < PP) (h : t * t % PP = 1) : t = 1 ∨ t = PP - 1 := by
  have h1 : (1 : Nat) < PP := by have := PP_val; omega
  have hb : (1 : Nat) * 1 % PP = 1 := Nat.mod_eq_of_lt h1
  rcases sq_eq t 1 ht h1 (h.trans hb.symm) with h2 | h2
  · exact .inl h2
  · right
    by_cases hh : t + 1 < PP
    · rw [Nat.mod_eq_of_lt hh] at h2; omega
    · omega
theorem pwm_pm (b e : Nat) (h : e < 2 ^ 256) : pwm b e = Nm.pm PP 256 b e := (Nm.pm_eq PP 256 b e h).symm
theorem rti_e : (PP - 1 % PP) / 2 / 2 + (PP - 1 % PP) / 2 / 2 < 2 ^ 256 := by decide +kernel
theorem rti_pm : Nm.pm PP 256 (2 % PP) ((PP - 1 % PP) / 2 / 2 + (PP - 1 % PP) / 2 / 2) = PP - 1 := by decide +kernel
theorem pw_dbl (x b E r : Nat) (hx : x = pwm b E) (h1 : E + E < 2 ^ 256) (h2 : Nm.pm PP 256 b (E + E) = r) : x * x % PP = r := by
  rw [hx, ← pwm_add, pwm_pm _ _ h1, h2]
theorem rti_def : rti = pwm (2 % PP) ((PP - 1 % PP) / 2 / 2) := by delta rti; exact rfl
theorem rti_sq : rti * rti % PP = PP - 1 := pw_dbl rti (2 % PP) ((PP - 1 % PP) / 2 / 2) (PP - 1) rti_def rti_e rti_pm
theorem mul_four (x y m : Nat) : x * y % m * (x * y % m) % m = (x * x % m) * (y * y % m) % m := by
  rw [← Nat.mul_mod, ← Nat.mul_mod]; congr 1; ac_rfl
theorem neg_mul (a b : Nat) (hb : b < PP) : a * (PP - b) % PP = (PP - a * b % PP) % PP := by
  have h1 := Nat.div_add_mod (a * b) PP
  have h2 : a * b % PP < PP := Nat.mod_lt _ PP_pos
  have e : a * (PP - b) + a * b = a * PP := by rw [← Nat.mul_add]; congr 1; omega
  generalize a * b % PP = m at *
  generalize a * b / PP = q at *
  have hle : q ≤ a := by
    by_cases hq : q ≤ a
    · exact hq
    · have h3 : PP * (a + 1) ≤ PP * q := Nat.mul_le_mul_left _ (by omega)
      have h4 : a * b ≤ a * PP := Nat.mul_le_mul_left _ (by omega)
      rw [Nat.mul_add, Nat.mul_comm PP a] at h3
      have := PP_pos
      omega
  obtain ⟨d, rfl⟩ : ∃ d, a = q + d := ⟨a - q, by omega⟩
  have e2 : (q + d) * PP = PP * q + PP * d := by rw [Nat.mul_comm, Nat.mul_add]
  by_cases hm : m = 0
  · subst hm
    have : (q + d) * (PP - b) = PP * d := by omega
    rw [this, Nat.mul_mod_right, Nat.sub_zero, Nat.mod_self]
  · have hd : 0 < d := by
      rcases Nat.eq_zero_or_pos d with h0 | h0
      · subst h0
        have h5 : (q + 0) * b ≤ (q + 0) * PP := Nat.mul_le_mul_left _ (Nat.le_of_lt hb)
        rw [e2, Nat.mul_zero] at h5
        omega
      · exact h0
    obtain ⟨f, rfl⟩ : ∃ f, d = f + 1 := ⟨d - 1, by omega⟩
    have : (q + (f + 1)) * (PP - b) = PP - m + PP * f := by
      rw [Nat.mul_add PP f 1] at e2; omega
    rw [this, Nat.add_mul_mod_self_left]

/-- the square of the first try: the number times its power to a quarter of the prime less 1 -/
theorem rt1_sq (a : Nat) : rt1 a * rt1 a % PP = a * pwm a ((PP - 1) / 4) % PP := by
  unfold rt1
  rw [← pwm_add, show (PP + 3) / 2 / 2 / 2 + (PP + 3) / 2 / 2 / 2 = (PP - 1) / 4 + 1 by decide +kernel, pwm_succ, Nat.mul_comm]
theorem rtok_of_chi (a : Nat) (ha : a < PP) (h : chi a = 1) : rtok a = true := by
  have h4 : pwm a ((PP - 1) / 4) * pwm a ((PP - 1) / 4) % PP = 1 := by
    rw [← pwm_add, show (PP - 1) / 4 + (PP - 1) / 4 = (PP - 1) / 2 by decide +kernel]; exact h
  have hs := rt1_sq a
  unfold rtok rt2
  rcases one_sq _ (pwm_lt _ _) h4 with h5 | h5
  · rw [h5, Nat.mul_one, Nat.mod_eq_of_lt ha] at hs
    rw [if_pos hs, hs]; exact decide_eq_true rfl
  · rw [h5] at hs
    by_cases hc : rt1 a * rt1 a % PP = a
    · rw [if_pos hc, hc]; exact decide_eq_true rfl
    · rw [if_neg hc]
      have e := mul_four (rt1 a) rti PP
      have h1 : (1 : Nat) < PP := by have := PP_val; omega
      have h6 : rt1 a * rt1 a % PP = (PP - a) % PP := by
        rw [hs, neg_mul a 1 h1, Nat.mul_one, Nat.mod_eq_of_lt ha]
      have h7 : (PP - a) % PP * (PP - 1) % PP = a := by
        rw [neg_mul _ 1 h1, Nat.mul_one, Nat.mod_mod]
        by_cases h0 : a = 0
        · subst h0; rw [Nat.sub_zero, Nat.mod_self, Nat.sub_zero, Nat.mod_self]
        · rw [Nat.mod_eq_of_lt (show PP - a < PP by omega), show PP - (PP - a) = a by omega, Nat.mod_eq_of_lt ha]
      rw [e, h6, rti_sq, h7]; exact decide_eq_true rfl
theorem rtok_zero (a : Nat) (ha : a = 0) : rtok a = true := by
  have h : rt1 a * rt1 a % PP = a := by rw [rt1_sq, ha, Nat.zero_mul, Nat.zero_mod]
  unfold rtok rt2
  rw [if_pos h]; exact decide_eq_true h

theorem rt1_lt (a : Nat) : rt1 a < PP := by unfold rt1; exact pwm_lt _ _
theorem rt2_lt (a : Nat) : rt2 a < PP := by
  unfold rt2
  by_cases h : rt1 a * rt1 a % PP = a
  · rw [if_pos h]; exact rt1_lt a
  · rw [if_neg h]; exact Nat.mod_lt _ PP_pos
theorem neg_neg_mod (x : Nat) (h : x < PP) : (PP - (PP - x) % PP) % PP = x := by
  by_cases h0 : x = 0
  · rw [h0, Nat.sub_zero, Nat.mod_self, Nat.sub_zero, Nat.mod_self]
  · rw [Nat.mod_eq_of_lt (show PP - x < PP by omega), show PP - (PP - x) = x by omega, Nat.mod_eq_of_lt h]
theorem neg_sq (r : Nat) (h : r < PP) : (PP - r) * (PP - r) % PP = r * r % PP := by
  rw [neg_mul _ r h, Nat.mul_comm, neg_mul _ r h]
  exact neg_neg_mod _ (Nat.mod_lt _ PP_pos)
theorem rt3_sq (a : Nat) (h : rtok a = true) : rt3 a * rt3 a % PP = a := by
  have h2 : rt2 a * rt2 a % PP = a := of_decide_eq_true (show decide (rt2 a * rt2 a % PP = a) = true from h)
  unfold rt3
  rw [if_pos h]
  by_cases ho : rt2 a % 2 = 1
  · rw [if_pos ho, neg_sq _ (rt2_lt a), h2]
  · rw [if_neg ho, h2]
theorem PP_odd : PP % 2 = 1 := by decide +kernel
theorem rt3_even (a : Nat) : rt3 a % 2 = 0 := by
  unfold rt3
  have h1 := rt2_lt a
  have h2 := PP_odd
  by_cases h : rtok a = true
  · rw [if_pos h]
    by_cases ho : rt2 a % 2 = 1
    · rw [if_pos ho]; omega
    · rw [if_neg ho]; omega
  · rw [if_neg h]
theorem rt3_lt (a : Nat) : rt3 a < PP := by
  unfold rt3
  have h1 := rt2_lt a
  have h2 := PP_pos
  by_cases h : rtok a = true
  · rw [if_pos h]
    by_cases ho : rt2 a % 2 = 1
    · rw [if_pos ho]; omega
    · rw [if_neg ho]; exact h1
  · rw [if_neg h]; exact h2
theorem chi_mod (a : Nat) : chi (a % PP) = chi a := by unfold chi; exact pwm_mod _ _
theorem chi_mul (a b : Nat) : chi (a * b) = chi a * chi b % PP := by unfold chi; exact pwm_mulbase _ _ _
theorem rtok_sq (u : Nat) : rtok (u * u % PP) = true := by
  by_cases h0 : u % PP = 0
  · exact rtok_zero _ (by rw [Nat.mul_mod, h0, Nat.zero_mul, Nat.zero_mod])
  · exact rtok_of_chi _ (Nat.mod_lt _ PP_pos) (by rw [chi_mod, chi_mul]; exact chi_sq u h0)
theorem rt3_root (u : Nat) : rt3 (u * u % PP) = u % PP ∨ (rt3 (u * u % PP) + u) % PP = 0 := by
  have h := rt3_sq _ (rtok_sq u)
  rcases sq_eq (rt3 (u * u % PP)) (u % PP) (rt3_lt _) (Nat.mod_lt _ PP_pos) (h.trans (Nat.mul_mod u u PP)) with h1 | h1
  · exact .inl h1
  · right; rw [Nat.add_mod_mod] at h1; exact h1
end Go.Proofs.Ytjiagjonlcadiaa
end
section
namespace Go.Proofs.Ytjiagjonlcadiaa
open Go.RowKit Go.Lib

theorem is_yes (a b : Nat) (ha : a < 115792089237316195423570985008687907853269984665640564039457584007913129639936) (hb : b < 115792089237316195423570985008687907853269984665640564039457584007913129639936) (h : a % PP = b % PP) (w : World) :
    Calls Try.prog 41 #[.agg (e4 a), .agg (e4 b)] w fun e w' => e = .returned (.bool true) ∧ Below w.heap.size w w' := by
  have := is_any a b ha hb w
  rwa [decide_eq_true h] at this
theorem is_no (a b : Nat) (ha : a < 115792089237316195423570985008687907853269984665640564039457584007913129639936) (hb : b < 115792089237316195423570985008687907853269984665640564039457584007913129639936) (h : ¬ a % PP = b % PP) (w : World) :
    Calls Try.prog 41 #[.agg (e4 a), .agg (e4 b)] w fun e w' => e = .returned (.bool false) ∧ Below w.heap.size w w' := by
  have := is_any a b ha hb w
  rwa [decide_eq_false h] at this
theorem even_yes (a : Nat) (ha : a < 115792089237316195423570985008687907853269984665640564039457584007913129639936) (h : a % PP % 2 = 0) (w : World) :
    Calls Try.prog 36 #[.agg (e4 a)] w fun e w' => e = .returned (.bool true) ∧ Below w.heap.size w w' := by
  have := even_any a ha w
  rwa [show (a % PP % 2 == 0) = true by rw [h]; rfl] at this
theorem even_no (a : Nat) (ha : a < 115792089237316195423570985008687907853269984665640564039457584007913129639936) (h : a % PP % 2 = 1) (w : World) :
    Calls Try.prog 36 #[.agg (e4 a)] w fun e w' => e = .returned (.bool false) ∧ Below w.heap.size w w' := by
  have := even_any a ha w
  rwa [show (a % PP % 2 == 0) = false by rw [h]; rfl] at this

/-- a root's element, and whether it is one -/
def RtP (A : Nat) (w : World) (e : Ending) (w' : World) : Prop := ∃ m : Nat, m < 115792089237316195423570985008687907853269984665640564039457584007913129639936 ∧ m % PP = rt3 A ∧ e = .returned (.tuple #[.agg (e4 m), .bool (rtok A)]) ∧ Below w.heap.size w w'

theorem rt1_exp : (PP + 3) / 2 / 2 / 2 = 7237005577332262213973186563042994240829374041602535252466099000494570602494 := by decide +kernel
theorem rti_exp : (PP - 1 % PP) / 2 / 2 = 14474011154664524427946373126085988481658748083205070504932198000989141204987 := by decide +kernel
theorem rt1_def (a : Nat) : rt1 a = pwm a ((PP + 3) / 2 / 2 / 2) := by delta rt1; exact rfl
theorem p_root (a n1 n2 n3 n4 : Nat) (h1 : n1 % PP = pwm a 1809251394333065553493296640760748560207343510400633813116524750123642650623) (h2 : n2 % PP = pwm n1 4) (h3 : n3 % PP = n2 * a % PP) (h4 : n4 % PP = n3 * a % PP) : n4 % PP = rt1 (a % PP) := by
  have k2 := pw_go a n1 1809251394333065553493296640760748560207343510400633813116524750123642650623 4 n2 7237005577332262213973186563042994240829374041602535252466099000494570602492 h1 h2 (by decide +kernel)
  have k3 := pw_by a n2 a 7237005577332262213973186563042994240829374041602535252466099000494570602492 1 n3 7237005577332262213973186563042994240829374041602535252466099000494570602493 k2 (pw_self a) h3 (by decide +kernel)
  have k4 := pw_by a n3 a 7237005577332262213973186563042994240829374041602535252466099000494570602493 1 n4 7237005577332262213973186563042994240829374041602535252466099000494570602494 k3 (pw_self a) h4 (by decide +kernel)
  rw [rt1_def, pwm_mod, rt1_exp, k4]
theorem p_two (r n4 n5 n6 n7 n8 n9 n10 : Nat) (hr : n4 % PP = r) (h5 : n5 % PP = pwm 2 1809251394333065553493296640760748560207343510400633813116524750123642650623) (h6 : n6 % PP = pwm n5 8) (h7 : n7 % PP = pwm 2 2) (h8 : n8 % PP = n6 * n7 % PP) (h9 : n9 % PP = n8 * 2 % PP) (h10 : n10 % PP = n4 * n9 % PP) : n10 % PP = r * rti % PP := by
  have k6 := pw_go 2 n5 1809251394333065553493296640760748560207343510400633813116524750123642650623 8 n6 14474011154664524427946373126085988481658748083205070504932198000989141204984 h5 h6 (by decide +kernel)
  have k8 := pw_by 2 n6 n7 14474011154664524427946373126085988481658748083205070504932198000989141204984 2 n8 14474011154664524427946373126085988481658748083205070504932198000989141204986 k6 h7 h8 (by decide +kernel)
  have k9 := pw_by 2 n8 2 14474011154664524427946373126085988481658748083205070504932198000989141204986 1 n9 14474011154664524427946373126085988481658748083205070504932198000989141204987 k8 (pw_self 2) h9 (by decide +kernel)
  rw [rti_def, pwm_mod, rti_exp, h10, Nat.mul_mod, hr, k9]
theorem rt2_yes (a : Nat) (h : rt1 a * rt1 a % PP = a) : rt2 a = rt1 a := by unfold rt2; rw [if_pos h]
theorem rt2_no (a : Nat) (h : ¬ rt1 a * rt1 a % PP = a) : rt2 a = rt1 a * rti % PP := by unfold rt2; rw [if_neg h]
theorem rt3_odd (a : Nat) (h : rt2 a * rt2 a % PP = a) (ho : rt2 a % 2 = 1) : rt3 a = (0 % PP + (PP - rt2 a)) % PP ∧ rtok a = true := by
  have h1 : rtok a = true := by unfold rtok; exact decide_eq_true h
  refine ⟨?_, h1⟩
  unfold rt3
  have := rt2_lt a
  rw [h1, if_pos rfl, if_pos ho, Nat.zero_mod, Nat.zero_add, Nat.mod_eq_of_lt (by omega)]
theorem rt3_evn (a : Nat) (h : rt2 a * rt2 a % PP = a) (ho : ¬ rt2 a % 2 = 1) : rt3 a = rt2 a ∧ rtok a = true := by
  have h1 : rtok a = true := by unfold rtok; exact decide_eq_true h
  refine ⟨?_, h1⟩
  unfold rt3
  rw [h1, if_pos rfl, if_neg ho]
theorem rt3_non (a : Nat) (h : ¬ rt2 a * rt2 a % PP = a) : 0 % PP = rt3 a ∧ rtok a = false := by
  have h1 : rtok a = false := by unfold rtok; exact decide_eq_false h
  refine ⟨?_, h1⟩
  unfold rt3
  rw [h1, if_neg (by decide), Nat.zero_mod]
theorem two_256 : 2 < 115792089237316195423570985008687907853269984665640564039457584007913129639936 := by decide
set_option maxRecDepth 100000 in
set_option linter.unusedSimpArgs false in
set_option maxHeartbeats 8000000 in
theorem froot_any (a : Nat) (ha : a < 115792089237316195423570985008687907853269984665640564039457584007913129639936) (w : World) :
    Calls Try.prog 44 #[.agg (e4 a)] w (RtP (a % PP) w) := by
  have hpw := power_any
  have hs1 := squares_1
  have hs2 := squares_2
  have hs3 := squares_3
  have ht := fun x y hx hy w => times_any x y hx hy w
  have hmin := fun x y hx hy w => minus_any x y hx hy w
  have hint := fun w => fint_nn 2 (by decide) w
  have hpr := p_root a
  have hyes := is_yes
  have hnot := is_no
  have hevy := even_yes
  have hevn := even_no
  have hz0 := e4_zero
  obtain ⟨A, hA⟩ : ∃ A, A = a % PP := ⟨_, rfl⟩
  rw [← hA] at hpr ⊢
  have Hpw := Lib.hid hpw; clear hpw
  have Hs1 := Lib.hid hs1; clear hs1
  have Hs2 := Lib.hid hs2; clear hs2
  have Hs3 := Lib.hid hs3; clear hs3
  have Ht := Lib.hid ht; clear ht
  have Hmin := Lib.hid hmin; clear hmin
  have Hint := Lib.hid hint; clear hint
  have Hpr := Lib.hid hpr; clear hpr
  have Hyes := Lib.hid hyes; clear hyes
  have Hnot := Lib.hid hnot; clear hnot
  have Hevy := Lib.hid hevy; clear hevy
  have Hevn := Lib.hid hevn; clear hevn
  have Hz0 := Lib.hid hz0; clear hz0
  have Ha := Lib.hid ha; clear ha
  have HA := Lib.hid hA; clear hA
  go_enter Try.func44, Try.ntmps44
  repeat ((fail_if_success (with_reducible (show wpList _ _ _ _ _ _))); go_step)
  iterate 3 (refine wpList_step (fun K hK => ?_); go_simp; (try go_bits); refine hK _ _ ?_; clear hK K)
  refine wpList_nil ?_
  have M1 := Lib.hid ((Has.new w  (e4 a) 36).alloc (.cells (#[.int .u64 0, .int .u64 0, .int .u64 0, .int .u64 0] : Array Value) 36))
  have M2 := Lib.hid (HasN.new1 w (.cells (e4 a) 36) (#[.int .u64 0, .int .u64 0, .int .u64 0, .int .u64 0] : Array Value) 36 4 (by kernel_rfl))
  have HB := Lib.hid (below_2 w (.cells (e4 a) 36) (.cells (#[.int .u64 0, .int .u64 0, .int .u64 0, .int .u64 0] : Array Value) 36))
  repeat ((fail_if_success (with_reducible (show wpList _ _ _ _ _ _))); go_step)
  refine wp_region_meet (α := Nat × Nat × Nat × Nat × Nat) (fun W0 x w' => x.2.2.2.2 < 115792089237316195423570985008687907853269984665640564039457584007913129639936 ∧ x.2.2.2.2 % PP = rt1 A ∧ W0.heap.size ≤ x.1 ∧ Has w' x.1 (e4 x.2.2.2.2) 36 ∧ Below W0.heap.size W0 w') (fun ac x => ((((((((ac.put (some 6) (.agg (e4 a))).put (some 7) (.agg (e4 x.2.1))).put (some 8) (.agg (e4 x.2.2.1))).put (some 9) (.agg (e4 a))).put (some 10) (.agg (e4 x.2.2.2.1))).put (some 11) (.agg (e4 a))).put (some 12) (.agg (e4 x.2.2.2.2))).put (some 4) (.pointer (some ⟨x.1, 0, none⟩)))) ?_ ?_
  · intro Q' hQ'
    refine wp_region_noPanic ?_
    refine wp_region_go 99 9 #[ff,ff,ff,ff,ff,ff,ff,ff,ff] (by kernel_rfl) rfl rfl ?_
    intro W1 hW1
    rw [← hW1] at hQ'
    simp only [Act.put, List.setIfInBounds_toArray, List.set_cons_succ, List.set_cons_zero] at hQ'
    have HQ := Lib.hid hQ'; clear hQ'
    rw [← hW1] at M1 M2 HB
    clear hW1
    refine go_take2 0 6 #[tt,ff,ff,ff,ff,ff,ff,ff,ff] rfl rfl rfl (by kernel_rfl) (yieldsIf_load_row (by rfl) 36 _ rfl (w.heap.size) rfl 36 (e4 a) (fun _ h => M1.out.below h M1.out.lt) Try.underlying36 rfl (by rw [e4_size]; kernel_rfl)) ((below_dr W1)) ?_
    (try simp only [sI, sS, sZ])
    refine go_take2 3 9 #[tt,ff,ff,tt,ff,ff,ff,ff,ff] rfl rfl rfl (by kernel_rfl) (yieldsIf_load_row (by rfl) 36 _ rfl (w.heap.size) rfl 36 (e4 a) (fun _ h => M1.out.below h M1.out.lt) Try.underlying36 rfl (by rw [e4_size]; kernel_rfl)) ((below_dr W1)) ?_
    (try simp only [sI, sS, sZ])
    refine go_take2 5 11 #[tt,ff,ff,tt,ff,tt,ff,ff,ff] rfl rfl rfl (by kernel_rfl) (yieldsIf_load_row (by rfl) 36 _ rfl (w.heap.size) rfl 36 (e4 a) (fun _ h => M1.out.below h M1.out.lt) Try.underlying36 rfl (by rw [e4_size]; kernel_rfl)) ((below_dr W1)) ?_
    (try simp only [sI, sS, sZ])
    refine wpBut_r2 (i := 1) (j := 7) (by kernel_rfl) ?_ ?_
    refine go_call 1 7 #[tt,tt,ff,tt,ff,tt,ff,ff,ff] rfl rfl rfl (by rfl) rfl rfl (by rfl) ent84 (by rfl) (Hpw.out a Ha.out _) ?_
    rintro e wW11 ⟨n1, hn1, hn1r, rfl, hb⟩
    have hkW11 := held_next (below_dr W1) hb
    refine ⟨_, rfl, fun _ => hkW11, ?_⟩
    clear hb
    (try simp only [sI, sS, sZ])
    refine wpBut_r2 (i := 2) (j := 7) (by kernel_rfl) ?_ ?_
    refine go_call 2 8 #[tt,tt,tt,tt,ff,tt,ff,ff,ff] rfl rfl rfl (by rfl) rfl rfl (by rfl) ent83 (by rfl) (Hs2.out n1 hn1 _) ?_
    rintro e wW12 ⟨n2, hn2, hn2r, rfl, hb⟩
    have hkW12 := held_next hkW11 hb
    refine ⟨_, rfl, fun _ => hkW12, ?_⟩
    clear hb
    (try simp only [sI, sS, sZ])
    refine wpBut_r2 (i := 4) (j := 7) (by kernel_rfl) ?_ ?_
    refine go_call 4 10 #[tt,tt,tt,tt,tt,tt,ff,ff,ff] rfl rfl rfl (by rfl) rfl rfl (by rfl) ent31 (by rfl) (Ht.out n2 a hn2 Ha.out _) ?_
    rintro e wW13 ⟨n3, hn3, hn3r, rfl, hb⟩
    have hkW13 := held_next hkW12 hb
    refine ⟨_, rfl, fun _ => hkW13, ?_⟩
    clear hb
    (try simp only [sI, sS, sZ])
    refine wpBut_r2 (i := 6) (j := 7) (by kernel_rfl) ?_ ?_
    refine go_call 6 12 #[tt,tt,tt,tt,tt,tt,tt,ff,ff] rfl rfl rfl (by rfl) rfl rfl (by rfl) ent31 (by rfl) (Ht.out n3 a hn3 Ha.out _) ?_
    rintro e wW14 ⟨n4, hn4, hn4r, rfl, hb⟩
    have hkW14 := held_next hkW13 hb
    refine ⟨_, rfl, fun _ => hkW14, ?_⟩
    clear hb
    (try simp only [sI, sS, sZ])
    refine wpBut_r1 (i := 7) (by kernel_rfl) ?_
    refine go_alloc 7 4 #[tt,tt,tt,tt,tt,tt,tt,tt,ff] rfl rfl rfl (by rfl) 36 rfl _ al36 ?_
    intro wW15 hw2
    have hkW15 := (hkW14).alloc (hkW14).size (.cells z36 36)
    rw [← hw2] at hkW15
    have MA7 := Lib.hid (HasN.new (wW14) z36 36 4 (by kernel_rfl))
    rw [← hw2] at MA7
    have HA7 := Lib.hid (show W1.heap.size ≤ _ from (hkW14).size)
    clear hw2
    refine ⟨fun _ => hkW15, ?_⟩
    (try simp only [sI, sS, sZ])
    refine wpBut_r1 (i := 8) (by kernel_rfl) ?_
    obtain ⟨Zq, hZ, mZ⟩ := MA7.out
    refine go_store2 8 #[tt,tt,tt,tt,tt,tt,tt,tt,tt] rfl rfl rfl (by rfl) 36 _ _ rfl _ _ rfl rfl 36 Zq mZ (by rw [e4_size]; kernel_rfl) (hZ.trans (e4_size ..).symm) (row_one _ _ _) ?_
    intro wW16 hw2
    have hkW16 := below_setRow (hkW15) _ (e4 n4) HA7.out
    rw [← hw2] at hkW16
    clear MA7
    have MA7 := Lib.hid (mZ.setRow (e4 n4))
    rw [← hw2] at MA7; clear mZ hZ hw2
    refine ⟨fun _ => hkW16, ?_⟩
    (try simp only [sI, sS, sZ])
    exact wpBut_done (by kernel_rfl) (NoPanic.normal (HQ.out (_, n1, n2, n3, n4) _ ⟨hn4, Hpr.out n1 n2 n3 n4 hn1r hn2r hn3r hn4r, HA7.out, MA7.out, (hkW16)⟩))
    refine go_alloc 7 4 #[tt,tt,tt,tt,tt,tt,ff,tt,ff] rfl rfl rfl (by rfl) 36 rfl _ al36 ?_
    intro wW14 hw2
    have hkW14 := (hkW13).alloc (hkW13).size (.cells z36 36)
    rw [← hw2] at hkW14
    have MA7 := Lib.hid (HasN.new (wW13) z36 36 4 (by kernel_rfl))
    rw [← hw2] at MA7
    have HA7 := Lib.hid (show W1.heap.size ≤ _ from (hkW13).size)
    clear hw2
    refine ⟨fun _ => hkW14, ?_⟩
    (try simp only [sI, sS, sZ])
    refine wpBut_r1 (i := 6) (by kernel_rfl) ?_
    refine go_call 6 12 #[tt,tt,tt,tt,tt,tt,tt,tt,ff] rfl rfl rfl (by rfl) rfl rfl (by rfl) ent31 (by rfl) (Ht.out n3 a hn3 Ha.out _) ?_
    rintro e wW15 ⟨n4, hn4, hn4r, rfl, hb⟩
    have hkW15 := held_next hkW14 hb
    replace MA7 := Lib.hid (MA7.out.call hb)
    refine ⟨_, rfl, fun _ => hkW15, ?_⟩
    clear hb
    (try simp only [sI, sS, sZ])
    refine wpBut_r1 (i := 8) (by kernel_rfl) ?_
    obtain ⟨Zq, hZ, mZ⟩ := MA7.out
    refine go_store2 8 #[tt,tt,tt,tt,tt,tt,tt,tt,tt] rfl rfl rfl (by rfl) 36 _ _ rfl _ _ rfl rfl 36 Zq mZ (by rw [e4_size]; kernel_rfl) (hZ.trans (e4_size ..).symm) (row_one _ _ _) ?_
    intro wW16 hw2
    have hkW16 := below_setRow (hkW15) _ (e4 n4) HA7.out
    rw [← hw2] at hkW16
    clear MA7
    have MA7 := Lib.hid (mZ.setRow (e4 n4))
    rw [← hw2] at MA7; clear mZ hZ hw2
    refine ⟨fun _ => hkW16, ?_⟩
    (try simp only [sI, sS, sZ])
    exact wpBut_done (by kernel_rfl) (NoPanic.normal (HQ.out (_, n1, n2, n3, n4) _ ⟨hn4, Hpr.out n1 n2 n3 n4 hn1r hn2r hn3r hn4r, HA7.out, MA7.out, (hkW16)⟩))
    refine go_alloc 7 4 #[tt,tt,tt,tt,ff,tt,ff,tt,ff] rfl rfl rfl (by rfl) 36 rfl _ al36 ?_
    intro wW13 hw2
    have hkW13 := (hkW12).alloc (hkW12).size (.cells z36 36)
    rw [← hw2] at hkW13
    have MA7 := Lib.hid (HasN.new (wW12) z36 36 4 (by kernel_rfl))
    rw [← hw2] at MA7
    have HA7 := Lib.hid (show W1.heap.size ≤ _ from (hkW12).size)
    clear hw2
    refine ⟨fun _ => hkW13, ?_⟩
    (try simp only [sI, sS, sZ])
    refine wpBut_r1 (i := 4) (by kernel_rfl) ?_
    refine go_call 4 10 #[tt,tt,tt,tt,tt,tt,ff,tt,ff] rfl rfl rfl (by rfl) rfl rfl (by rfl) ent31 (by rfl) (Ht.out n2 a hn2 Ha.out _) ?_
    rintro e wW14 ⟨n3, hn3, hn3r, rfl, hb⟩
    have hkW14 := held_next hkW13 hb
    replace MA7 := Lib.hid (MA7.out.call hb)
    refine ⟨_, rfl, fun _ => hkW14, ?_⟩
    clear hb
    (try simp only [sI, sS, sZ])
    refine wpBut_r1 (i := 6) (by kernel_rfl) ?_
    refine go_call 6 12 #[tt,tt,tt,tt,tt,tt,tt,tt,ff] rfl rfl rfl (by rfl) rfl rfl (by rfl) ent31 (by rfl) (Ht.out n3 a hn3 Ha.out _) ?_
    rintro e wW15 ⟨n4, hn4, hn4r, rfl, hb⟩
    have hkW15 := held_next hkW14 hb
    replace MA7 := Lib.hid (MA7.out.call hb)
    refine ⟨_, rfl, fun _ => hkW15, ?_⟩
    clear hb
    (try simp only [sI, sS, sZ])
    refine wpBut_r1 (i := 8) (by kernel_rfl) ?_
    obtain ⟨Zq, hZ, mZ⟩ := MA7.out
    refine go_store2 8 #[tt,tt,tt,tt,tt,tt,tt,tt,tt] rfl rfl rfl (by rfl) 36 _ _ rfl _ _ rfl rfl 36 Zq mZ (by rw [e4_size]; kernel_rfl) (hZ.trans (e4_size ..).symm) (row_one _ _ _) ?_
    intro wW16 hw2
    have hkW16 := below_setRow (hkW15) _ (e4 n4) HA7.out
    rw [← hw2] at hkW16
    clear MA7
    have MA7 := Lib.hid (mZ.setRow (e4 n4))
    rw [← hw2] at MA7; clear mZ hZ hw2
    refine ⟨fun _ => hkW16, ?_⟩
    (try simp only [sI, sS, sZ])
    exact wpBut_done (by kernel_rfl) (NoPanic.normal (HQ.out (_, n1, n2, n3, n4) _ ⟨hn4, Hpr.out n1 n2 n3 n4 hn1r hn2r hn3r hn4r, HA7.out, MA7.out, (hkW16)⟩))
    refine go_alloc 7 4 #[tt,tt,ff,tt,ff,tt,ff,tt,ff] rfl rfl rfl (by rfl) 36 rfl _ al36 ?_
    intro wW12 hw2
    have hkW12 := (hkW11).alloc (hkW11).size (.cells z36 36)
    rw [← hw2] at hkW12
    have MA7 := Lib.hid (HasN.new (wW11) z36 36 4 (by kernel_rfl))
    rw [← hw2] at MA7
    have HA7 := Lib.hid (show W1.heap.size ≤ _ from (hkW11).size)
    clear hw2
    refine ⟨fun _ => hkW12, ?_⟩
    (try simp only [sI, sS, sZ])
    refine wpBut_r1 (i := 2) (by kernel_rfl) ?_
    refine go_call 2 8 #[tt,tt,tt,tt,ff,tt,ff,tt,ff] rfl rfl rfl (by rfl) rfl rfl (by rfl) ent83 (by rfl) (Hs2.out n1 hn1 _) ?_
    rintro e wW13 ⟨n2, hn2, hn2r, rfl, hb⟩
    have hkW13 := held_next hkW12 hb
    replace MA7 := Lib.hid (MA7.out.call hb)
    refine ⟨_, rfl, fun _ => hkW13, ?_⟩
    clear hb
    (try simp only [sI, sS, sZ])
    refine wpBut_r1 (i := 4) (by kernel_rfl) ?_
    refine go_call 4 10 #[tt,tt,tt,tt,tt,tt,ff,tt,ff] rfl rfl rfl (by rfl) rfl rfl (by rfl) ent31 (by rfl) (Ht.out n2 a hn2 Ha.out _) ?_
    rintro e wW14 ⟨n3, hn3, hn3r, rfl, hb⟩
    have hkW14 := held_next hkW13 hb
    replace MA7 := Lib.hid (MA7.out.call hb)
    refine ⟨_, rfl, fun _ => hkW14, ?_⟩
    clear hb
    (try simp only [sI, sS, sZ])
    refine wpBut_r1 (i := 6) (by kernel_rfl) ?_
    refine go_call 6 12 #[tt,tt,tt,tt,tt,tt,tt,tt,ff] rfl rfl rfl (by rfl) rfl rfl (by rfl) ent31 (by rfl) (Ht.out n3 a hn3 Ha.out _) ?_
    rintro e wW15 ⟨n4, hn4, hn4r, rfl, hb⟩
    have hkW15 := held_next hkW14 hb
    replace MA7 := Lib.hid (MA7.out.call hb)
    refine ⟨_, rfl, fun _ => hkW15, ?_⟩
    clear hb
    (try simp only [sI, sS, sZ])
    refine wpBut_r1 (i := 8) (by kernel_rfl) ?_
    obtain ⟨Zq, hZ, mZ⟩ := MA7.out
    refine go_store2 8 #[tt,tt,tt,tt,tt,tt,tt,tt,tt] rfl rfl rfl (by rfl) 36 _ _ rfl _ _ rfl rfl 36 Zq mZ (by rw [e4_size]; kernel_rfl) (hZ.trans (e4_size ..).symm) (row_one _ _ _) ?_
    intro wW16 hw2
    have hkW16 := below_setRow (hkW15) _ (e4 n4) HA7.out
    rw [← hw2] at hkW16
    clear MA7
    have MA7 := Lib.hid (mZ.setRow (e4 n4))
    rw [← hw2] at MA7; clear mZ hZ hw2
    refine ⟨fun _ => hkW16, ?_⟩
    (try simp only [sI, sS, sZ])
    exact wpBut_done (by kernel_rfl) (NoPanic.normal (HQ.out (_, n1, n2, n3, n4) _ ⟨hn4, Hpr.out n1 n2 n3 n4 hn1r hn2r hn3r hn4r, HA7.out, MA7.out, (hkW16)⟩))
    refine go_alloc 7 4 #[tt,ff,ff,tt,ff,tt,ff,tt,ff] rfl rfl rfl (by rfl) 36 rfl _ al36 ?_
    intro wW11 hw2
    have hkW11 := ((below_dr W1)).alloc ((below_dr W1)).size (.cells z36 36)
    rw [← hw2] at hkW11
    have MA7 := Lib.hid (HasN.new (W1.drew) z36 36 4 (by kernel_rfl))
    rw [← hw2] at MA7
    have HA7 := Lib.hid (show W1.heap.size ≤ _ from ((below_dr W1)).size)
    clear hw2
    refine ⟨fun _ => hkW11, ?_⟩
    (try simp only [sI, sS, sZ])
    refine wpBut_r1 (i := 1) (by kernel_rfl) ?_
    refine go_call 1 7 #[tt,tt,ff,tt,ff,tt,ff,tt,ff] rfl rfl rfl (by rfl) rfl rfl (by rfl) ent84 (by rfl) (Hpw.out a Ha.out _) ?_
    rintro e wW12 ⟨n1, hn1, hn1r, rfl, hb⟩
    have hkW12 := held_next hkW11 hb
    replace MA7 := Lib.hid (MA7.out.call hb)
    refine ⟨_, rfl, fun _ => hkW12, ?_⟩
    clear hb
    (try simp only [sI, sS, sZ])
    refine wpBut_r1 (i := 2) (by kernel_rfl) ?_
    refine go_call 2 8 #[tt,tt,tt,tt,ff,tt,ff,tt,ff] rfl rfl rfl (by rfl) rfl rfl (by rfl) ent83 (by rfl) (Hs2.out n1 hn1 _) ?_
    rintro e wW13 ⟨n2, hn2, hn2r, rfl, hb⟩
    have hkW13 := held_next hkW12 hb
    replace MA7 := Lib.hid (MA7.out.call hb)
    refine ⟨_, rfl, fun _ => hkW13, ?_⟩
    clear hb
    (try simp only [sI, sS, sZ])
    refine wpBut_r1 (i := 4) (by kernel_rfl) ?_
    refine go_call 4 10 #[tt,tt,tt,tt,tt,tt,ff,tt,ff] rfl rfl rfl (by rfl) rfl rfl (by rfl) ent31 (by rfl) (Ht.out n2 a hn2 Ha.out _) ?_
    rintro e wW14 ⟨n3, hn3, hn3r, rfl, hb⟩
    have hkW14 := held_next hkW13 hb
    replace MA7 := Lib.hid (MA7.out.call hb)
    refine ⟨_, rfl, fun _ => hkW14, ?_⟩
    clear hb
    (try simp only [sI, sS, sZ])
    refine wpBut_r1 (i := 6) (by kernel_rfl) ?_
    refine go_call 6 12 #[tt,tt,tt,tt,tt,tt,tt,tt,ff] rfl rfl rfl (by rfl) rfl rfl (by rfl) ent31 (by rfl) (Ht.out n3 a hn3 Ha.out _) ?_
    rintro e wW15 ⟨n4, hn4, hn4r, rfl, hb⟩
    have hkW15 := held_next hkW14 hb
    replace MA7 := Lib.hid (MA7.out.call hb)
    refine ⟨_, rfl, fun _ => hkW15, ?_⟩
    clear hb
    (try simp only [sI, sS, sZ])
    refine wpBut_r1 (i := 8) (by kernel_rfl) ?_
    obtain ⟨Zq, hZ, mZ⟩ := MA7.out
    refine go_store2 8 #[tt,tt,tt,tt,tt,tt,tt,tt,tt] rfl rfl rfl (by rfl) 36 _ _ rfl _ _ rfl rfl 36 Zq mZ (by rw [e4_size]; kernel_rfl) (hZ.trans (e4_size ..).symm) (row_one _ _ _) ?_
    intro wW16 hw2
    have hkW16 := below_setRow (hkW15) _ (e4 n4) HA7.out
    rw [← hw2] at hkW16
    clear MA7
    have MA7 := Lib.hid (mZ.setRow (e4 n4))
    rw [← hw2] at MA7; clear mZ hZ hw2
    refine ⟨fun _ => hkW16, ?_⟩
    (try simp only [sI, sS, sZ])
    exact wpBut_done (by kernel_rfl) (NoPanic.normal (HQ.out (_, n1, n2, n3, n4) _ ⟨hn4, Hpr.out n1 n2 n3 n4 hn1r hn2r hn3r hn4r, HA7.out, MA7.out, (hkW16)⟩))
  · rintro W1 ⟨B4, n1, n2, n3, n4⟩ vw1 hW1 ⟨hn4, hk4, hBq0, mBq0, hbw⟩
    simp only [Act.put, List.setIfInBounds_toArray, List.set_cons_succ, List.set_cons_zero] at hn4 hk4 hBq0  mBq0 ⊢
    rw [← hW1] at M1 M2 HB
    clear hW1
    have hltM1_1 := M1.out.lt
    have hltM2_1 := M2.out.lt
    replace M1 := Lib.hid (M1.out.call hbw)
    replace M2 := Lib.hid (M2.out.call hbw)
    replace HB := Lib.hid (held_next HB.out hbw)
    have M4 := Lib.hid mBq0; clear mBq0
    clear hbw
    have Hk4 := Lib.hid hk4; clear hk4
    repeat ((fail_if_success (with_reducible (show wpList _ _ _ _ _ _))); go_step)
    by_cases c1 : rt1 A * rt1 A % PP = A
    · have hk2 := Hk4.out.trans (rt2_yes A c1).symm
      have C1 := Lib.hid c1; clear c1
      have Hk2 := Lib.hid hk2; clear hk2
      refine wp_region_noPanic ?_
      refine wp_region_go 99 6 #[ff,ff,ff,ff,ff,ff] (by kernel_rfl) rfl rfl ?_
      intro W2 hW2
      rw [← hW2] at M1 M2 M4 HB
      clear hW2
      refine go_take2 0 13 #[tt,ff,ff,ff,ff,ff] rfl rfl rfl (by kernel_rfl) (yieldsIf_load_row (by rfl) 36 _ rfl (B4) rfl 36 (e4 n4) (fun _ h => M4.out.below h M4.out.lt) Try.underlying36 rfl (by rw [e4_size]; kernel_rfl)) ((below_dr W2)) ?_
      (try simp only [sI, sS, sZ])
      refine go_take2 1 14 #[tt,tt,ff,ff,ff,ff] rfl rfl rfl (by kernel_rfl) (yieldsIf_load_row (by rfl) 36 _ rfl (B4) rfl 36 (e4 n4) (fun _ h => M4.out.below h M4.out.lt) Try.underlying36 rfl (by rw [e4_size]; kernel_rfl)) ((below_dr W2)) ?_
      (try simp only [sI, sS, sZ])
      refine go_take2 3 16 #[tt,tt,ff,tt,ff,ff] rfl rfl rfl (by kernel_rfl) (yieldsIf_load_row (by rfl) 36 _ rfl (w.heap.size) rfl 36 (e4 a) (fun _ h => M1.out.below h M1.out.lt) Try.underlying36 rfl (by rw [e4_size]; kernel_rfl)) ((below_dr W2)) ?_
      (try simp only [sI, sS, sZ])
      refine wpBut_r1 (i := 2) (by kernel_rfl) ?_
      refine go_call 2 15 #[tt,tt,tt,tt,ff,ff] rfl rfl rfl (by rfl) rfl rfl (by rfl) ent31 (by rfl) (Ht.out n4 n4 hn4 hn4 _) ?_
      rintro e wW21 ⟨q1, hq1, hq1r, rfl, hb⟩
      have hkW21 := held_next (below_dr W2) hb
      refine ⟨_, rfl, fun _ => hkW21, ?_⟩
      clear hb
      (try simp only [sI, sS, sZ])
      refine wpBut_r1 (i := 4) (by kernel_rfl) ?_
      refine go_call 4 17 #[tt,tt,tt,tt,tt,ff] rfl rfl rfl (by rfl) rfl rfl (by rfl) ent41 (by rfl) (Hyes.out q1 a hq1 Ha.out (by rw [hq1r, Nat.mul_mod, Hk4.out]; exact C1.out.trans HA.out) _) ?_
      rintro e wW22 ⟨rfl, hb⟩
      have hkW22 := held_next hkW21 hb
      refine ⟨_, rfl, fun _ => hkW22, ?_⟩
      clear hb
      (try simp only [sI, sS, sZ])
      refine go_take2 5 18 #[tt,tt,tt,tt,tt,tt] (v := ?uv1) rfl rfl rfl (by kernel_rfl) (Or.inl ⟨by rfl, ?uy1⟩) (hkW22) ?urest1
      case uy1 => (intro _ _; go_simp; try with_reducible rfl)
      (try simp only [sI, sS, sZ])
      refine wpBut_done (by kernel_rfl) (NoPanic.normal ?_)
      replace M1 := Lib.hid (M1.out.call hkW22)
      replace M2 := Lib.hid (M2.out.call hkW22)
      replace M4 := Lib.hid (M4.out.call hkW22)
      replace HB := Lib.hid (held_next HB.out hkW22)
      repeat ((fail_if_success (with_reducible (show wpList _ _ _ _ _ _))); go_step)
      by_cases c2 : rt2 A * rt2 A % PP = A
      · have C2 := Lib.hid c2; clear c2
        refine wp_region_noPanic ?_
        refine wp_region_go 99 6 #[ff,ff,ff,ff,ff,ff] (by kernel_rfl) rfl rfl ?_
        intro W3 hW3
        rw [← hW3] at M1 M2 M4 HB
        clear hW3
        refine go_take2 0 30 #[tt,ff,ff,ff,ff,ff] rfl rfl rfl (by kernel_rfl) (yieldsIf_load_row (by rfl) 36 _ rfl (B4) rfl 36 (e4 n4) (fun _ h => M4.out.below h M4.out.lt) Try.underlying36 rfl (by rw [e4_size]; kernel_rfl)) ((below_dr W3)) ?_
        (try simp only [sI, sS, sZ])
        refine go_take2 1 31 #[tt,tt,ff,ff,ff,ff] rfl rfl rfl (by kernel_rfl) (yieldsIf_load_row (by rfl) 36 _ rfl (B4) rfl 36 (e4 n4) (fun _ h => M4.out.below h M4.out.lt) Try.underlying36 rfl (by rw [e4_size]; kernel_rfl)) ((below_dr W3)) ?_
        (try simp only [sI, sS, sZ])
        refine go_take2 3 33 #[tt,tt,ff,tt,ff,ff] rfl rfl rfl (by kernel_rfl) (yieldsIf_load_row (by rfl) 36 _ rfl (w.heap.size) rfl 36 (e4 a) (fun _ h => M1.out.below h M1.out.lt) Try.underlying36 rfl (by rw [e4_size]; kernel_rfl)) ((below_dr W3)) ?_
        (try simp only [sI, sS, sZ])
        refine wpBut_r1 (i := 2) (by kernel_rfl) ?_
        refine go_call 2 32 #[tt,tt,tt,tt,ff,ff] rfl rfl rfl (by rfl) rfl rfl (by rfl) ent31 (by rfl) (Ht.out n4 n4 hn4 hn4 _) ?_
        rintro e wW31 ⟨q2, hq2, hq2r, rfl, hb⟩
        have hkW31 := held_next (below_dr W3) hb
        refine ⟨_, rfl, fun _ => hkW31, ?_⟩
        clear hb
        (try simp only [sI, sS, sZ])
        refine wpBut_r1 (i := 4) (by kernel_rfl) ?_
        refine go_call 4 34 #[tt,tt,tt,tt,tt,ff] rfl rfl rfl (by rfl) rfl rfl (by rfl) ent41 (by rfl) (Hyes.out q2 a hq2 Ha.out (by rw [hq2r, Nat.mul_mod, Hk2.out]; exact C2.out.trans HA.out) _) ?_
        rintro e wW32 ⟨rfl, hb⟩
        have hkW32 := held_next hkW31 hb
        refine ⟨_, rfl, fun _ => hkW32, ?_⟩
        clear hb
        (try simp only [sI, sS, sZ])
        refine go_take2 5 35 #[tt,tt,tt,tt,tt,tt] (v := ?uv2) rfl rfl rfl (by kernel_rfl) (Or.inl ⟨by rfl, ?uy2⟩) (hkW32) ?urest2
        case uy2 => (intro _ _; go_simp; try with_reducible rfl)
        (try simp only [sI, sS, sZ])
        refine wpBut_done (by kernel_rfl) (NoPanic.normal ?_)
        replace M1 := Lib.hid (M1.out.call hkW32)
        replace M2 := Lib.hid (M2.out.call hkW32)
        replace M4 := Lib.hid (M4.out.call hkW32)
        replace HB := Lib.hid (held_next HB.out hkW32)
        repeat ((fail_if_success (with_reducible (show wpList _ _ _ _ _ _))); go_step)
        by_cases c3 : rt2 A % 2 = 1
        · obtain ⟨hf3, hfo⟩ := rt3_odd A C2.out c3
          have hE := fun w => Hevn.out n4 hn4 (by rw [Hk2.out]; exact c3) w
          have C3 := Lib.hid c3; clear c3
          have Hf3 := Lib.hid hf3; clear hf3
          have Hfo := Lib.hid hfo; clear hfo
          have HE := Lib.hid hE; clear hE
          refine wpList_load (by rfl) 36 _ rfl (B4) rfl 36 (e4 n4) M4.out Try.underlying36 rfl (by rw [e4_size]; kernel_rfl) 37 rfl ?_
          (try simp only [Act.put, sI, sS, sZ])
          refine wpList_call (by rfl) rfl rfl (by rfl) ent36 (by rfl) (HE.out _) 38 rfl ?_
          rintro e uw1 ⟨rfl, hb⟩
          replace M1 := Lib.hid (M1.out.call hb)
          replace M2 := Lib.hid (M2.out.call hb)
          replace M4 := Lib.hid (M4.out.call hb)
          replace HB := Lib.hid (held_next HB.out hb)
          refine ⟨_, rfl, ?_⟩
          clear hb
          (try simp only [Act.put, sI, sS, sZ])
          (refine wpList_step (fun K hK => ?_); go_simp; (try go_bits); refine hK _ _ ?_; clear hK K)
          refine wpList_nil ?_
          repeat ((fail_if_success (with_reducible (show wpList _ _ _ _ _ _))); go_step)
          refine wpList_step (fun K hK => ?_)
          go_simp
          (try go_bits)
          rw [Hz0.out]
          refine hK _ _ ?_
          clear hK K
          refine wpList_load (by rfl) 36 _ rfl (B4) rfl 36 (e4 n4) M4.out Try.underlying36 rfl (by rw [e4_size]; kernel_rfl) 41 rfl ?_
          (try simp only [Act.put, sI, sS, sZ])
          refine wpList_call (by rfl) rfl rfl (by rfl) ent39 (by rfl) (Hmin.out 0 n4 (by decide) hn4 _) 42 rfl ?_
          rintro e uw2 ⟨m, hm, hmr, rfl, hb⟩
          replace M1 := Lib.hid (M1.out.call hb)
          replace M2 := Lib.hid (M2.out.call hb)
          replace M4 := Lib.hid (M4.out.call hb)
          replace HB := Lib.hid (held_next HB.out hb)
          refine ⟨_, rfl, ?_⟩
          clear hb
          (try simp only [Act.put, sI, sS, sZ])
          first | (obtain ⟨Zq, hZ, mZ⟩ := M4.out) | (obtain ⟨Zq, hZ, mZ⟩ := M4.out.toN (e4_size _))
          clear M4
          have hZ' := Lib.hid hZ; clear hZ
          have mZ' := Lib.hid mZ; clear mZ
          refine wpList_store_row rfl 36 _ _ rfl (B4) _ rfl rfl 36 Zq mZ'.out (by rw [e4_size]; kernel_rfl) (hZ'.out.trans (e4_size _).symm) (row_one _ _ _) ?_
          (try simp only [Act.put, sI, sS, sZ])
          replace M1 := Lib.hid (M1.out.setRow_other (B4) (e4 m) (by omega))
          replace M2 := Lib.hid (M2.out.setRow_other (B4) (e4 m) (by omega))
          have M4 := Lib.hid (mZ'.out.setRow (e4 m))
          clear mZ' hZ'
          replace HB := Lib.hid (below_setRow HB.out (B4) (e4 m) (by omega))
          refine wpList_nil ?_
          have Hmr := Lib.hid hmr; clear hmr
          repeat ((fail_if_success (with_reducible (show wpList _ _ _ _ _ _))); go_step)
          refine wpList_load (by rfl) 36 _ rfl (B4) rfl 36 (e4 m) M4.out Try.underlying36 rfl (by rw [e4_size]; kernel_rfl) 43 rfl ?_
          (try simp only [Act.put, sI, sS, sZ])
          first | (obtain ⟨Zq, hZ, mZ⟩ := M2.out) | (obtain ⟨Zq, hZ, mZ⟩ := M2.out.toN (e4_size _))
          clear M2
          have hZ' := Lib.hid hZ; clear hZ
          have mZ' := Lib.hid mZ; clear mZ
          refine wpList_store_row rfl 36 _ _ rfl (w.heap.size + 1) _ rfl rfl 36 Zq mZ'.out (by rw [e4_size]; kernel_rfl) (hZ'.out.trans (e4_size _).symm) (row_one _ _ _) ?_
          (try simp only [Act.put, sI, sS, sZ])
          replace M1 := Lib.hid (M1.out.setRow_other (w.heap.size + 1) (e4 m) (by omega))
          replace M4 := Lib.hid (M4.out.setRow_other (w.heap.size + 1) (e4 m) (by omega))
          have M2 := Lib.hid (mZ'.out.setRow (e4 m))
          clear mZ' hZ'
          replace HB := Lib.hid (below_setRow HB.out (w.heap.size + 1) (e4 m) (by omega))
          (refine wpList_step (fun K hK => ?_); go_simp; (try go_bits); refine hK _ _ ?_; clear hK K)
          refine wpList_nil ?_
          go_wp2_with fail
          exact bodyPost_ret (v := .tuple #[.agg (e4 m), .bool true]) (results_cell_tmp_row (fn := Try.f44) (p := 2) (t2 := 3) (ty := 36) (t := 36) (by rfl) _ _ (w.heap.size + 1) _ _ _ rfl M2.out Try.underlying36 rfl (by rw [e4_size]; kernel_rfl)) rfl ⟨m, hm, by rw [Hf3.out, Hmr.out, Hk2.out], by rw [Hfo.out], HB.out⟩
        · obtain ⟨hf3, hfo⟩ := rt3_evn A C2.out c3
          have hE := fun w => Hevy.out n4 hn4 (by rw [Hk2.out]; omega) w
          have C3 := Lib.hid c3; clear c3
          have Hf3 := Lib.hid hf3; clear hf3
          have Hfo := Lib.hid hfo; clear hfo
          have HE := Lib.hid hE; clear hE
          refine wpList_load (by rfl) 36 _ rfl (B4) rfl 36 (e4 n4) M4.out Try.underlying36 rfl (by rw [e4_size]; kernel_rfl) 37 rfl ?_
          (try simp only [Act.put, sI, sS, sZ])
          refine wpList_call (by rfl) rfl rfl (by rfl) ent36 (by rfl) (HE.out _) 38 rfl ?_
          rintro e uw1 ⟨rfl, hb⟩
          replace M1 := Lib.hid (M1.out.call hb)
          replace M2 := Lib.hid (M2.out.call hb)
          replace M4 := Lib.hid (M4.out.call hb)
          replace HB := Lib.hid (held_next HB.out hb)
          refine ⟨_, rfl, ?_⟩
          clear hb
          (try simp only [Act.put, sI, sS, sZ])
          (refine wpList_step (fun K hK => ?_); go_simp; (try go_bits); refine hK _ _ ?_; clear hK K)
          refine wpList_nil ?_
          repeat ((fail_if_success (with_reducible (show wpList _ _ _ _ _ _))); go_step)
          refine wpList_load (by rfl) 36 _ rfl (B4) rfl 36 (e4 n4) M4.out Try.underlying36 rfl (by rw [e4_size]; kernel_rfl) 43 rfl ?_
          (try simp only [Act.put, sI, sS, sZ])
          first | (obtain ⟨Zq, hZ, mZ⟩ := M2.out) | (obtain ⟨Zq, hZ, mZ⟩ := M2.out.toN (e4_size _))
          clear M2
          have hZ' := Lib.hid hZ; clear hZ
          have mZ' := Lib.hid mZ; clear mZ
          refine wpList_store_row rfl 36 _ _ rfl (w.heap.size + 1) _ rfl rfl 36 Zq mZ'.out (by rw [e4_size]; kernel_rfl) (hZ'.out.trans (e4_size _).symm) (row_one _ _ _) ?_
          (try simp only [Act.put, sI, sS, sZ])
          replace M1 := Lib.hid (M1.out.setRow_other (w.heap.size + 1) (e4 n4) (by omega))
          replace M4 := Lib.hid (M4.out.setRow_other (w.heap.size + 1) (e4 n4) (by omega))
          have M2 := Lib.hid (mZ'.out.setRow (e4 n4))
          clear mZ' hZ'
          replace HB := Lib.hid (below_setRow HB.out (w.heap.size + 1) (e4 n4) (by omega))
          (refine wpList_step (fun K hK => ?_); go_simp; (try go_bits); refine hK _ _ ?_; clear hK K)
          refine wpList_nil ?_
          go_wp2_with fail
          exact bodyPost_ret (v := .tuple #[.agg (e4 n4), .bool true]) (results_cell_tmp_row (fn := Try.f44) (p := 2) (t2 := 3) (ty := 36) (t := 36) (by rfl) _ _ (w.heap.size + 1) _ _ _ rfl M2.out Try.underlying36 rfl (by rw [e4_size]; kernel_rfl)) rfl ⟨n4, hn4, by rw [Hf3.out, Hk2.out], by rw [Hfo.out], HB.out⟩
      · obtain ⟨hf3, hfo⟩ := rt3_non A c2
        have C2 := Lib.hid c2; clear c2
        have Hf3 := Lib.hid hf3; clear hf3
        have Hfo := Lib.hid hfo; clear hfo
        refine wp_region_noPanic ?_
        refine wp_region_go 99 6 #[ff,ff,ff,ff,ff,ff] (by kernel_rfl) rfl rfl ?_
        intro W3 hW3
        rw [← hW3] at M1 M2 M4 HB
        clear hW3
        refine go_take2 0 30 #[tt,ff,ff,ff,ff,ff] rfl rfl rfl (by kernel_rfl) (yieldsIf_load_row (by rfl) 36 _ rfl (B4) rfl 36 (e4 n4) (fun _ h => M4.out.below h M4.out.lt) Try.underlying36 rfl (by rw [e4_size]; kernel_rfl)) ((below_dr W3)) ?_
        (try simp only [sI, sS, sZ])
        refine go_take2 1 31 #[tt,tt,ff,ff,ff,ff] rfl rfl rfl (by kernel_rfl) (yieldsIf_load_row (by rfl) 36 _ rfl (B4) rfl 36 (e4 n4) (fun _ h => M4.out.below h M4.out.lt) Try.underlying36 rfl (by rw [e4_size]; kernel_rfl)) ((below_dr W3)) ?_
        (try simp only [sI, sS, sZ])
        refine go_take2 3 33 #[tt,tt,ff,tt,ff,ff] rfl rfl rfl (by kernel_rfl) (yieldsIf_load_row (by rfl) 36 _ rfl (w.heap.size) rfl 36 (e4 a) (fun _ h => M1.out.below h M1.out.lt) Try.underlying36 rfl (by rw [e4_size]; kernel_rfl)) ((below_dr W3)) ?_
        (try simp only [sI, sS, sZ])
        refine wpBut_r1 (i := 2) (by kernel_rfl) ?_
        refine go_call 2 32 #[tt,tt,tt,tt,ff,ff] rfl rfl rfl (by rfl) rfl rfl (by rfl) ent31 (by rfl) (Ht.out n4 n4 hn4 hn4 _) ?_
        rintro e wW31 ⟨q2, hq2, hq2r, rfl, hb⟩
        have hkW31 := held_next (below_dr W3) hb
        refine ⟨_, rfl, fun _ => hkW31, ?_⟩
        clear hb
        (try simp only [sI, sS, sZ])
        refine wpBut_r1 (i := 4) (by kernel_rfl) ?_
        refine go_call 4 34 #[tt,tt,tt,tt,tt,ff] rfl rfl rfl (by rfl) rfl rfl (by rfl) ent41 (by rfl) (Hnot.out q2 a hq2 Ha.out (by rw [hq2r, Nat.mul_mod, Hk2.out]; exact fun h => C2.out (h.trans HA.out.symm)) _) ?_
        rintro e wW32 ⟨rfl, hb⟩
        have hkW32 := held_next hkW31 hb
        refine ⟨_, rfl, fun _ => hkW32, ?_⟩
        clear hb
        (try simp only [sI, sS, sZ])
        refine go_take2 5 35 #[tt,tt,tt,tt,tt,tt] (v := ?uv3) rfl rfl rfl (by kernel_rfl) (Or.inl ⟨by rfl, ?uy3⟩) (hkW32) ?urest3
        case uy3 => (intro _ _; go_simp; try with_reducible rfl)
        (try simp only [sI, sS, sZ])
        refine wpBut_done (by kernel_rfl) (NoPanic.normal ?_)
        replace M1 := Lib.hid (M1.out.call hkW32)
        replace M2 := Lib.hid (M2.out.call hkW32)
        replace M4 := Lib.hid (M4.out.call hkW32)
        replace HB := Lib.hid (held_next HB.out hkW32)
        repeat ((fail_if_success (with_reducible (show wpList _ _ _ _ _ _))); go_step)
        refine wpList_step (fun K hK => ?_)
        go_simp
        (try go_bits)
        rw [Hz0.out]
        refine hK _ _ ?_
        clear hK K
        first | (obtain ⟨Zq, hZ, mZ⟩ := M2.out) | (obtain ⟨Zq, hZ, mZ⟩ := M2.out.toN (e4_size _))
        clear M2
        have hZ' := Lib.hid hZ; clear hZ
        have mZ' := Lib.hid mZ; clear mZ
        refine wpList_store_row rfl 36 _ _ rfl (w.heap.size + 1) _ rfl rfl 36 Zq mZ'.out (by rw [e4_size]; kernel_rfl) (hZ'.out.trans (e4_size _).symm) (row_one _ _ _) ?_
        (try simp only [Act.put, sI, sS, sZ])
        replace M1 := Lib.hid (M1.out.setRow_other (w.heap.size + 1) (e4 0) (by omega))
        replace M4 := Lib.hid (M4.out.setRow_other (w.heap.size + 1) (e4 0) (by omega))
        have M2 := Lib.hid (mZ'.out.setRow (e4 0))
        clear mZ' hZ'
        replace HB := Lib.hid (below_setRow HB.out (w.heap.size + 1) (e4 0) (by omega))
        (refine wpList_step (fun K hK => ?_); go_simp; (try go_bits); refine hK _ _ ?_; clear hK K)
        refine wpList_nil ?_
        go_wp2_with fail
        exact bodyPost_ret (v := .tuple #[.agg (e4 0), .bool false]) (results_cell_tmp_row (fn := Try.f44) (p := 2) (t2 := 3) (ty := 36) (t := 36) (by rfl) _ _ (w.heap.size + 1) _ _ _ rfl M2.out Try.underlying36 rfl (by rw [e4_size]; kernel_rfl)) rfl ⟨0, by decide, Hf3.out, by rw [Hfo.out], HB.out⟩
    · have hr2 := rt2_no A c1
      have C1 := Lib.hid c1; clear c1
      have Hr2 := Lib.hid hr2; clear hr2
      refine wp_region_noPanic ?_
      refine wp_region_go 99 6 #[ff,ff,ff,ff,ff,ff] (by kernel_rfl) rfl rfl ?_
      intro W2 hW2
      rw [← hW2] at M1 M2 M4 HB
      clear hW2
      refine go_take2 0 13 #[tt,ff,ff,ff,ff,ff] rfl rfl rfl (by kernel_rfl) (yieldsIf_load_row (by rfl) 36 _ rfl (B4) rfl 36 (e4 n4) (fun _ h => M4.out.below h M4.out.lt) Try.underlying36 rfl (by rw [e4_size]; kernel_rfl)) ((below_dr W2)) ?_
      (try simp only [sI, sS, sZ])
      refine go_take2 1 14 #[tt,tt,ff,ff,ff,ff] rfl rfl rfl (by kernel_rfl) (yieldsIf_load_row (by rfl) 36 _ rfl (B4) rfl 36 (e4 n4) (fun _ h => M4.out.below h M4.out.lt) Try.underlying36 rfl (by rw [e4_size]; kernel_rfl)) ((below_dr W2)) ?_
      (try simp only [sI, sS, sZ])
      refine go_take2 3 16 #[tt,tt,ff,tt,ff,ff] rfl rfl rfl (by kernel_rfl) (yieldsIf_load_row (by rfl) 36 _ rfl (w.heap.size) rfl 36 (e4 a) (fun _ h => M1.out.below h M1.out.lt) Try.underlying36 rfl (by rw [e4_size]; kernel_rfl)) ((below_dr W2)) ?_
      (try simp only [sI, sS, sZ])
      refine wpBut_r1 (i := 2) (by kernel_rfl) ?_
      refine go_call 2 15 #[tt,tt,tt,tt,ff,ff] rfl rfl rfl (by rfl) rfl rfl (by rfl) ent31 (by rfl) (Ht.out n4 n4 hn4 hn4 _) ?_
      rintro e wW21 ⟨q1, hq1, hq1r, rfl, hb⟩
      have hkW21 := held_next (below_dr W2) hb
      refine ⟨_, rfl, fun _ => hkW21, ?_⟩
      clear hb
      (try simp only [sI, sS, sZ])
      refine wpBut_r1 (i := 4) (by kernel_rfl) ?_
      refine go_call 4 17 #[tt,tt,tt,tt,tt,ff] rfl rfl rfl (by rfl) rfl rfl (by rfl) ent41 (by rfl) (Hnot.out q1 a hq1 Ha.out (by rw [hq1r, Nat.mul_mod, Hk4.out]; exact fun h => C1.out (h.trans HA.out.symm)) _) ?_
      rintro e wW22 ⟨rfl, hb⟩
      have hkW22 := held_next hkW21 hb
      refine ⟨_, rfl, fun _ => hkW22, ?_⟩
      clear hb
      (try simp only [sI, sS, sZ])
      refine go_take2 5 18 #[tt,tt,tt,tt,tt,tt] (v := ?uv4) rfl rfl rfl (by kernel_rfl) (Or.inl ⟨by rfl, ?uy4⟩) (hkW22) ?urest4
      case uy4 => (intro _ _; go_simp; try with_reducible rfl)
      (try simp only [sI, sS, sZ])
      refine wpBut_done (by kernel_rfl) (NoPanic.normal ?_)
      replace M1 := Lib.hid (M1.out.call hkW22)
      replace M2 := Lib.hid (M2.out.call hkW22)
      replace M4 := Lib.hid (M4.out.call hkW22)
      replace HB := Lib.hid (held_next HB.out hkW22)
      repeat ((fail_if_success (with_reducible (show wpList _ _ _ _ _ _))); go_step)
      refine wpList_call (by rfl) rfl rfl (by rfl) ent34 (by rfl) (Hint.out _) 19 rfl ?_
      rintro e uw1 ⟨rfl, hb⟩
      replace M1 := Lib.hid (M1.out.call hb)
      replace M2 := Lib.hid (M2.out.call hb)
      replace M4 := Lib.hid (M4.out.call hb)
      replace HB := Lib.hid (held_next HB.out hb)
      refine ⟨_, rfl, ?_⟩
      clear hb
      (try simp only [Act.put, sI, sS, sZ])
      refine wpList_step (fun K hK => ?_)
      go_simp
      have hlt3 := M1.out.lt
      have hlt4 := M2.out.lt
      have hlt5 := M4.out.lt
      replace M1 := Lib.hid (M1.out.alloc (.cells (#[.int .u64 0, .int .u64 0, .int .u64 0, .int .u64 0] : Array Value) 36))
      replace M2 := Lib.hid (M2.out.alloc (.cells (#[.int .u64 0, .int .u64 0, .int .u64 0, .int .u64 0] : Array Value) 36))
      replace M4 := Lib.hid (M4.out.alloc (.cells (#[.int .u64 0, .int .u64 0, .int .u64 0, .int .u64 0] : Array Value) 36))
      have M5 := Lib.hid (HasN.new uw1 (#[.int .u64 0, .int .u64 0, .int .u64 0, .int .u64 0] : Array Value) 36 4 rfl)
      have hsz := HB.out.size
      replace HB := Lib.hid (HB.out.alloc hsz (.cells (#[.int .u64 0, .int .u64 0, .int .u64 0, .int .u64 0] : Array Value) 36))
      refine hK _ _ ?_
      clear hK K
      first | (obtain ⟨Zq, hZ, mZ⟩ := M5.out) | (obtain ⟨Zq, hZ, mZ⟩ := M5.out.toN (e4_size _))
      clear M5
      have hZ' := Lib.hid hZ; clear hZ
      have mZ' := Lib.hid mZ; clear mZ
      refine wpList_store_row rfl 36 _ _ rfl (uw1.heap.size) _ rfl rfl 36 Zq mZ'.out (by rw [e4_size]; kernel_rfl) (hZ'.out.trans (e4_size _).symm) (row_one _ _ _) ?_
      (try simp only [Act.put, sI, sS, sZ])
      replace M1 := Lib.hid (M1.out.setRow_other (uw1.heap.size) (e4 2) (by omega))
      replace M2 := Lib.hid (M2.out.setRow_other (uw1.heap.size) (e4 2) (by omega))
      replace M4 := Lib.hid (M4.out.setRow_other (uw1.heap.size) (e4 2) (by omega))
      have M5 := Lib.hid (mZ'.out.setRow (e4 2))
      clear mZ' hZ'
      replace HB := Lib.hid (below_setRow HB.out (uw1.heap.size) (e4 2) (by omega))
      refine wpList_nil ?_
      repeat ((fail_if_success (with_reducible (show wpList _ _ _ _ _ _))); go_step)
      refine wp_region_noPanic ?_
      refine wp_region_go 10 11 #[ff,ff,ff,ff,ff,ff,ff,ff,ff,ff,ff] (by kernel_rfl) rfl rfl ?_
      intro W6 hW6
      rw [← hW6] at M1 M2 M4 M5 HB
      clear hW6
      have M4N := Lib.hid (by first | exact M4.out | exact M4.out.toN (by first | exact e4_size _ | exact r22_size _ | exact k32_size _ | exact pt_size .. | exact rp_size ..) : HasN W6 (B4) _ _)
      refine go_take2 0 20 #[tt,ff,ff,ff,ff,ff,ff,ff,ff,ff,ff] rfl rfl rfl (by kernel_rfl) (yieldsIf_load_row (by rfl) 36 _ rfl (B4) rfl 36 (e4 n4) (fun _ h => M4.out.below h M4.out.lt) Try.underlying36 rfl (by rw [e4_size]; kernel_rfl)) ((below_dr W6)) ?_
      (try simp only [sI, sS, sZ])
      refine go_take2 1 21 #[tt,tt,ff,ff,ff,ff,ff,ff,ff,ff,ff] rfl rfl rfl (by kernel_rfl) (yieldsIf_load_row (by rfl) 36 _ rfl (uw1.heap.size) rfl 36 (e4 2) (fun _ h => M5.out.below h M5.out.lt) Try.underlying36 rfl (by rw [e4_size]; kernel_rfl)) ((below_dr W6)) ?_
      (try simp only [sI, sS, sZ])
      refine go_take2 4 24 #[tt,tt,ff,ff,tt,ff,ff,ff,ff,ff,ff] rfl rfl rfl (by kernel_rfl) (yieldsIf_load_row (by rfl) 36 _ rfl (uw1.heap.size) rfl 36 (e4 2) (fun _ h => M5.out.below h M5.out.lt) Try.underlying36 rfl (by rw [e4_size]; kernel_rfl)) ((below_dr W6)) ?_
      (try simp only [sI, sS, sZ])
      refine go_take2 7 27 #[tt,tt,ff,ff,tt,ff,ff,tt,ff,ff,ff] rfl rfl rfl (by kernel_rfl) (yieldsIf_load_row (by rfl) 36 _ rfl (uw1.heap.size) rfl 36 (e4 2) (fun _ h => M5.out.below h M5.out.lt) Try.underlying36 rfl (by rw [e4_size]; kernel_rfl)) ((below_dr W6)) ?_
      (try simp only [sI, sS, sZ])
      refine wpBut_r1 (i := 2) (by kernel_rfl) ?_
      refine go_call 2 22 #[tt,tt,tt,ff,tt,ff,ff,tt,ff,ff,ff] rfl rfl rfl (by rfl) rfl rfl (by rfl) ent84 (by rfl) (Hpw.out 2 two_256 _) ?_
      rintro e wW61 ⟨n5, hn5, hn5r, rfl, hb⟩
      have hkW61 := held_next (below_dr W6) hb
      refine ⟨_, rfl, fun _ => hkW61, ?_⟩
      clear hb
      (try simp only [sI, sS, sZ])
      refine wpBut_r1 (i := 3) (by kernel_rfl) ?_
      refine go_call 3 23 #[tt,tt,tt,tt,tt,ff,ff,tt,ff,ff,ff] rfl rfl rfl (by rfl) rfl rfl (by rfl) ent83 (by rfl) (Hs3.out n5 hn5 _) ?_
      rintro e wW62 ⟨n6, hn6, hn6r, rfl, hb⟩
      have hkW62 := held_next hkW61 hb
      refine ⟨_, rfl, fun _ => hkW62, ?_⟩
      clear hb
      (try simp only [sI, sS, sZ])
      refine wpBut_r1 (i := 5) (by kernel_rfl) ?_
      refine go_call 5 25 #[tt,tt,tt,tt,tt,tt,ff,tt,ff,ff,ff] rfl rfl rfl (by rfl) rfl rfl (by rfl) ent83 (by rfl) (Hs1.out 2 two_256 _) ?_
      rintro e wW63 ⟨n7, hn7, hn7r, rfl, hb⟩
      have hkW63 := held_next hkW62 hb
      refine ⟨_, rfl, fun _ => hkW63, ?_⟩
      clear hb
      (try simp only [sI, sS, sZ])
      refine wpBut_r1 (i := 6) (by kernel_rfl) ?_
      refine go_call 6 26 #[tt,tt,tt,tt,tt,tt,tt,tt,ff,ff,ff] rfl rfl rfl (by rfl) rfl rfl (by rfl) ent31 (by rfl) (Ht.out n6 n7 hn6 hn7 _) ?_
      rintro e wW64 ⟨n8, hn8, hn8r, rfl, hb⟩
      have hkW64 := held_next hkW63 hb
      refine ⟨_, rfl, fun _ => hkW64, ?_⟩
      clear hb
      (try simp only [sI, sS, sZ])
      refine wpBut_r1 (i := 8) (by kernel_rfl) ?_
      refine go_call 8 28 #[tt,tt,tt,tt,tt,tt,tt,tt,tt,ff,ff] rfl rfl rfl (by rfl) rfl rfl (by rfl) ent31 (by rfl) (Ht.out n8 2 hn8 two_256 _) ?_
      rintro e wW65 ⟨n9, hn9, hn9r, rfl, hb⟩
      have hkW65 := held_next hkW64 hb
      refine ⟨_, rfl, fun _ => hkW65, ?_⟩
      clear hb
      (try simp only [sI, sS, sZ])
      refine wpBut_r1 (i := 9) (by kernel_rfl) ?_
      refine go_call 9 29 #[tt,tt,tt,tt,tt,tt,tt,tt,tt,tt,ff] rfl rfl rfl (by rfl) rfl rfl (by rfl) ent31 (by rfl) (Ht.out n4 n9 hn4 hn9 _) ?_
      rintro e wW66 ⟨n10, hn10, hn10r, rfl, hb⟩
      have hkW66 := held_next hkW65 hb
      refine ⟨_, rfl, fun _ => hkW66, ?_⟩
      clear hb
      (try simp only [sI, sS, sZ])
      refine wpBut_r1 (i := 10) (by kernel_rfl) ?_
      obtain ⟨Zq, hZ, mZ⟩ := M4N.out.below hkW66 M4N.out.lt
      have MZ := Lib.hid mZ; clear mZ
      have HZ := Lib.hid hZ; clear hZ
      refine go_store 10 #[tt,tt,tt,tt,tt,tt,tt,tt,tt,tt,tt] rfl rfl rfl (by rfl) 36 _ _ rfl (B4) _ rfl rfl 36 Zq MZ.out (by rw [e4_size]; kernel_rfl) (HZ.out.trans (e4_size ..).symm) (row_one _ _ _) ⟨fun h => (h rfl).elim, ?_⟩
      (try simp only [sI, sS, sZ])
      refine wpBut_done (by kernel_rfl) (NoPanic.normal ?_)
      replace M1 := Lib.hid ((M1.out.call hkW66).setRow_other (B4) (e4 n10) (by omega))
      replace M2 := Lib.hid ((M2.out.call hkW66).setRow_other (B4) (e4 n10) (by omega))
      replace M5 := Lib.hid ((M5.out.call hkW66).setRow_other (B4) (e4 n10) (by omega))
      clear M4 M4N
      have M4 := Lib.hid (MZ.out.setRow (e4 n10)); clear MZ HZ
      replace HB := Lib.hid (below_setRow (held_next HB.out hkW66) (B4) (e4 n10) (by omega))
      have hk2 := (p_two (rt1 A) n4 n5 n6 n7 n8 n9 n10 Hk4.out hn5r hn6r hn7r hn8r hn9r hn10r).trans Hr2.out.symm
      have Hk2 := Lib.hid hk2; clear hk2
      clear M5
      repeat ((fail_if_success (with_reducible (show wpList _ _ _ _ _ _))); go_step)
      by_cases c2 : rt2 A * rt2 A % PP = A
      · have C2 := Lib.hid c2; clear c2
        refine wp_region_noPanic ?_
        refine wp_region_go 99 6 #[ff,ff,ff,ff,ff,ff] (by kernel_rfl) rfl rfl ?_
        intro W7 hW7
        rw [← hW7] at M1 M2 M4 HB
        clear hW7
        refine go_take2 0 30 #[tt,ff,ff,ff,ff,ff] rfl rfl rfl (by kernel_rfl) (yieldsIf_load_row (by rfl) 36 _ rfl (B4) rfl 36 (e4 n10) (fun _ h => M4.out.below h M4.out.lt) Try.underlying36 rfl (by rw [e4_size]; kernel_rfl)) ((below_dr W7)) ?_
        (try simp only [sI, sS, sZ])
        refine go_take2 1 31 #[tt,tt,ff,ff,ff,ff] rfl rfl rfl (by kernel_rfl) (yieldsIf_load_row (by rfl) 36 _ rfl (B4) rfl 36 (e4 n10) (fun _ h => M4.out.below h M4.out.lt) Try.underlying36 rfl (by rw [e4_size]; kernel_rfl)) ((below_dr W7)) ?_
        (try simp only [sI, sS, sZ])
        refine go_take2 3 33 #[tt,tt,ff,tt,ff,ff] rfl rfl rfl (by kernel_rfl) (yieldsIf_load_row (by rfl) 36 _ rfl (w.heap.size) rfl 36 (e4 a) (fun _ h => M1.out.below h M1.out.lt) Try.underlying36 rfl (by rw [e4_size]; kernel_rfl)) ((below_dr W7)) ?_
        (try simp only [sI, sS, sZ])
        refine wpBut_r1 (i := 2) (by kernel_rfl) ?_
        refine go_call 2 32 #[tt,tt,tt,tt,ff,ff] rfl rfl rfl (by rfl) rfl rfl (by rfl) ent31 (by rfl) (Ht.out n10 n10 hn10 hn10 _) ?_
        rintro e wW71 ⟨q2, hq2, hq2r, rfl, hb⟩
        have hkW71 := held_next (below_dr W7) hb
        refine ⟨_, rfl, fun _ => hkW71, ?_⟩
        clear hb
        (try simp only [sI, sS, sZ])
        refine wpBut_r1 (i := 4) (by kernel_rfl) ?_
        refine go_call 4 34 #[tt,tt,tt,tt,tt,ff] rfl rfl rfl (by rfl) rfl rfl (by rfl) ent41 (by rfl) (Hyes.out q2 a hq2 Ha.out (by rw [hq2r, Nat.mul_mod, Hk2.out]; exact C2.out.trans HA.out) _) ?_
        rintro e wW72 ⟨rfl, hb⟩
        have hkW72 := held_next hkW71 hb
        refine ⟨_, rfl, fun _ => hkW72, ?_⟩
        clear hb
        (try simp only [sI, sS, sZ])
        refine go_take2 5 35 #[tt,tt,tt,tt,tt,tt] (v := ?uv5) rfl rfl rfl (by kernel_rfl) (Or.inl ⟨by rfl, ?uy5⟩) (hkW72) ?urest5
        case uy5 => (intro _ _; go_simp; try with_reducible rfl)
        (try simp only [sI, sS, sZ])
        refine wpBut_done (by kernel_rfl) (NoPanic.normal ?_)
        replace M1 := Lib.hid (M1.out.call hkW72)
        replace M2 := Lib.hid (M2.out.call hkW72)
        replace M4 := Lib.hid (M4.out.call hkW72)
        replace HB := Lib.hid (held_next HB.out hkW72)
        repeat ((fail_if_success (with_reducible (show wpList _ _ _ _ _ _))); go_step)
        by_cases c3 : rt2 A % 2 = 1
        · obtain ⟨hf3, hfo⟩ := rt3_odd A C2.out c3
          have hE := fun w => Hevn.out n10 hn10 (by rw [Hk2.out]; exact c3) w
          have C3 := Lib.hid c3; clear c3
          have Hf3 := Lib.hid hf3; clear hf3
          have Hfo := Lib.hid hfo; clear hfo
          have HE := Lib.hid hE; clear hE
          refine wpList_load (by rfl) 36 _ rfl (B4) rfl 36 (e4 n10) M4.out Try.underlying36 rfl (by rw [e4_size]; kernel_rfl) 37 rfl ?_
          (try simp only [Act.put, sI, sS, sZ])
          refine wpList_call (by rfl) rfl rfl (by rfl) ent36 (by rfl) (HE.out _) 38 rfl ?_
          rintro e uw2 ⟨rfl, hb⟩
          replace M1 := Lib.hid (M1.out.call hb)
          replace M2 := Lib.hid (M2.out.call hb)
          replace M4 := Lib.hid (M4.out.call hb)
          replace HB := Lib.hid (held_next HB.out hb)
          refine ⟨_, rfl, ?_⟩
          clear hb
          (try simp only [Act.put, sI, sS, sZ])
          (refine wpList_step (fun K hK => ?_); go_simp; (try go_bits); refine hK _ _ ?_; clear hK K)
          refine wpList_nil ?_
          repeat ((fail_if_success (with_reducible (show wpList _ _ _ _ _ _))); go_step)
          refine wpList_step (fun K hK => ?_)
          go_simp
          (try go_bits)
          rw [Hz0.out]
          refine hK _ _ ?_
          clear hK K
          refine wpList_load (by rfl) 36 _ rfl (B4) rfl 36 (e4 n10) M4.out Try.underlying36 rfl (by rw [e4_size]; kernel_rfl) 41 rfl ?_
          (try simp only [Act.put, sI, sS, sZ])
          refine wpList_call (by rfl) rfl rfl (by rfl) ent39 (by rfl) (Hmin.out 0 n10 (by decide) hn10 _) 42 rfl ?_
          rintro e uw3 ⟨m, hm, hmr, rfl, hb⟩
          replace M1 := Lib.hid (M1.out.call hb)
          replace M2 := Lib.hid (M2.out.call hb)
          replace M4 := Lib.hid (M4.out.call hb)
          replace HB := Lib.hid (held_next HB.out hb)
          refine ⟨_, rfl, ?_⟩
          clear hb
          (try simp only [Act.put, sI, sS, sZ])
          first | (obtain ⟨Zq, hZ, mZ⟩ := M4.out) | (obtain ⟨Zq, hZ, mZ⟩ := M4.out.toN (e4_size _))
          clear M4
          have hZ' := Lib.hid hZ; clear hZ
          have mZ' := Lib.hid mZ; clear mZ
          refine wpList_store_row rfl 36 _ _ rfl (B4) _ rfl rfl 36 Zq mZ'.out (by rw [e4_size]; kernel_rfl) (hZ'.out.trans (e4_size _).symm) (row_one _ _ _) ?_
          (try simp only [Act.put, sI, sS, sZ])
          replace M1 := Lib.hid (M1.out.setRow_other (B4) (e4 m) (by omega))
          replace M2 := Lib.hid (M2.out.setRow_other (B4) (e4 m) (by omega))
          have M4 := Lib.hid (mZ'.out.setRow (e4 m))
          clear mZ' hZ'
          replace HB := Lib.hid (below_setRow HB.out (B4) (e4 m) (by omega))
          refine wpList_nil ?_
          have Hmr := Lib.hid hmr; clear hmr
          repeat ((fail_if_success (with_reducible (show wpList _ _ _ _ _ _))); go_step)
          refine wpList_load (by rfl) 36 _ rfl (B4) rfl 36 (e4 m) M4.out Try.underlying36 rfl (by rw [e4_size]; kernel_rfl) 43 rfl ?_
          (try simp only [Act.put, sI, sS, sZ])
          first | (obtain ⟨Zq, hZ, mZ⟩ := M2.out) | (obtain ⟨Zq, hZ, mZ⟩ := M2.out.toN (e4_size _))
          clear M2
          have hZ' := Lib.hid hZ; clear hZ
          have mZ' := Lib.hid mZ; clear mZ
          refine wpList_store_row rfl 36 _ _ rfl (w.heap.size + 1) _ rfl rfl 36 Zq mZ'.out (by rw [e4_size]; kernel_rfl) (hZ'.out.trans (e4_size _).symm) (row_one _ _ _) ?_
          (try simp only [Act.put, sI, sS, sZ])
          replace M1 := Lib.hid (M1.out.setRow_other (w.heap.size + 1) (e4 m) (by omega))
          replace M4 := Lib.hid (M4.out.setRow_other (w.heap.size + 1) (e4 m) (by omega))
          have M2 := Lib.hid (mZ'.out.setRow (e4 m))
          clear mZ' hZ'
          replace HB := Lib.hid (below_setRow HB.out (w.heap.size + 1) (e4 m) (by omega))
          (refine wpList_step (fun K hK => ?_); go_simp; (try go_bits); refine hK _ _ ?_; clear hK K)
          refine wpList_nil ?_
          go_wp2_with fail
          exact bodyPost_ret (v := .tuple #[.agg (e4 m), .bool true]) (results_cell_tmp_row (fn := Try.f44) (p := 2) (t2 := 3) (ty := 36) (t := 36) (by rfl) _ _ (w.heap.size + 1) _ _ _ rfl M2.out Try.underlying36 rfl (by rw [e4_size]; kernel_rfl)) rfl ⟨m, hm, by rw [Hf3.out, Hmr.out, Hk2.out], by rw [Hfo.out], HB.out⟩
        · obtain ⟨hf3, hfo⟩ := rt3_evn A C2.out c3
          have hE := fun w => Hevy.out n10 hn10 (by rw [Hk2.out]; omega) w
          have C3 := Lib.hid c3; clear c3
          have Hf3 := Lib.hid hf3; clear hf3
          have Hfo := Lib.hid hfo; clear hfo
          have HE := Lib.hid hE; clear hE
          refine wpList_load (by rfl) 36 _ rfl (B4) rfl 36 (e4 n10) M4.out Try.underlying36 rfl (by rw [e4_size]; kernel_rfl) 37 rfl ?_
          (try simp only [Act.put, sI, sS, sZ])
          refine wpList_call (by rfl) rfl rfl (by rfl) ent36 (by rfl) (HE.out _) 38 rfl ?_
          rintro e uw2 ⟨rfl, hb⟩
          replace M1 := Lib.hid (M1.out.call hb)
          replace M2 := Lib.hid (M2.out.call hb)
          replace M4 := Lib.hid (M4.out.call hb)
          replace HB := Lib.hid (held_next HB.out hb)
          refine ⟨_, rfl, ?_⟩
          clear hb
          (try simp only [Act.put, sI, sS, sZ])
          (refine wpList_step (fun K hK => ?_); go_simp; (try go_bits); refine hK _ _ ?_; clear hK K)
          refine wpList_nil ?_
          repeat ((fail_if_success (with_reducible (show wpList _ _ _ _ _ _))); go_step)
          refine wpList_load (by rfl) 36 _ rfl (B4) rfl 36 (e4 n10) M4.out Try.underlying36 rfl (by rw [e4_size]; kernel_rfl) 43 rfl ?_
          (try simp only [Act.put, sI, sS, sZ])
          first | (obtain ⟨Zq, hZ, mZ⟩ := M2.out) | (obtain ⟨Zq, hZ, mZ⟩ := M2.out.toN (e4_size _))
          clear M2
          have hZ' := Lib.hid hZ; clear hZ
          have mZ' := Lib.hid mZ; clear mZ
          refine wpList_store_row rfl 36 _ _ rfl (w.heap.size + 1) _ rfl rfl 36 Zq mZ'.out (by rw [e4_size]; kernel_rfl) (hZ'.out.trans (e4_size _).symm) (row_one _ _ _) ?_
          (try simp only [Act.put, sI, sS, sZ])
          replace M1 := Lib.hid (M1.out.setRow_other (w.heap.size + 1) (e4 n10) (by omega))
          replace M4 := Lib.hid (M4.out.setRow_other (w.heap.size + 1) (e4 n10) (by omega))
          have M2 := Lib.hid (mZ'.out.setRow (e4 n10))
          clear mZ' hZ'
          replace HB := Lib.hid (below_setRow HB.out (w.heap.size + 1) (e4 n10) (by omega))
          (refine wpList_step (fun K hK => ?_); go_simp; (try go_bits); refine hK _ _ ?_; clear hK K)
          refine wpList_nil ?_
          go_wp2_with fail
          exact bodyPost_ret (v := .tuple #[.agg (e4 n10), .bool true]) (results_cell_tmp_row (fn := Try.f44) (p := 2) (t2 := 3) (ty := 36) (t := 36) (by rfl) _ _ (w.heap.size + 1) _ _ _ rfl M2.out Try.underlying36 rfl (by rw [e4_size]; kernel_rfl)) rfl ⟨n10, hn10, by rw [Hf3.out, Hk2.out], by rw [Hfo.out], HB.out⟩
      · obtain ⟨hf3, hfo⟩ := rt3_non A c2
        have C2 := Lib.hid c2; clear c2
        have Hf3 := Lib.hid hf3; clear hf3
        have Hfo := Lib.hid hfo; clear hfo
        refine wp_region_noPanic ?_
        refine wp_region_go 99 6 #[ff,ff,ff,ff,ff,ff] (by kernel_rfl) rfl rfl ?_
        intro W7 hW7
        rw [← hW7] at M1 M2 M4 HB
        clear hW7
        refine go_take2 0 30 #[tt,ff,ff,ff,ff,ff] rfl rfl rfl (by kernel_rfl) (yieldsIf_load_row (by rfl) 36 _ rfl (B4) rfl 36 (e4 n10) (fun _ h => M4.out.below h M4.out.lt) Try.underlying36 rfl (by rw [e4_size]; kernel_rfl)) ((below_dr W7)) ?_
        (try simp only [sI, sS, sZ])
        refine go_take2 1 31 #[tt,tt,ff,ff,ff,ff] rfl rfl rfl (by kernel_rfl) (yieldsIf_load_row (by rfl) 36 _ rfl (B4) rfl 36 (e4 n10) (fun _ h => M4.out.below h M4.out.lt) Try.underlying36 rfl (by rw [e4_size]; kernel_rfl)) ((below_dr W7)) ?_
        (try simp only [sI, sS, sZ])
        refine go_take2 3 33 #[tt,tt,ff,tt,ff,ff] rfl rfl rfl (by kernel_rfl) (yieldsIf_load_row (by rfl) 36 _ rfl (w.heap.size) rfl 36 (e4 a) (fun _ h => M1.out.below h M1.out.lt) Try.underlying36 rfl (by rw [e4_size]; kernel_rfl)) ((below_dr W7)) ?_
        (try simp only [sI, sS, sZ])
        refine wpBut_r1 (i := 2) (by kernel_rfl) ?_
        refine go_call 2 32 #[tt,tt,tt,tt,ff,ff] rfl rfl rfl (by rfl) rfl rfl (by rfl) ent31 (by rfl) (Ht.out n10 n10 hn10 hn10 _) ?_
        rintro e wW71 ⟨q2, hq2, hq2r, rfl, hb⟩
        have hkW71 := held_next (below_dr W7) hb
        refine ⟨_, rfl, fun _ => hkW71, ?_⟩
        clear hb
        (try simp only [sI, sS, sZ])
        refine wpBut_r1 (i := 4) (by kernel_rfl) ?_
        refine go_call 4 34 #[tt,tt,tt,tt,tt,ff] rfl rfl rfl (by rfl) rfl rfl (by rfl) ent41 (by rfl) (Hnot.out q2 a hq2 Ha.out (by rw [hq2r, Nat.mul_mod, Hk2.out]; exact fun h => C2.out (h.trans HA.out.symm)) _) ?_
        rintro e wW72 ⟨rfl, hb⟩
        have hkW72 := held_next hkW71 hb
        refine ⟨_, rfl, fun _ => hkW72, ?_⟩
        clear hb
        (try simp only [sI, sS, sZ])
        refine go_take2 5 35 #[tt,tt,tt,tt,tt,tt] (v := ?uv6) rfl rfl rfl (by kernel_rfl) (Or.inl ⟨by rfl, ?uy6⟩) (hkW72) ?urest6
        case uy6 => (intro _ _; go_simp; try with_reducible rfl)
        (try simp only [sI, sS, sZ])
        refine wpBut_done (by kernel_rfl) (NoPanic.normal ?_)
        replace M1 := Lib.hid (M1.out.call hkW72)
        replace M2 := Lib.hid (M2.out.call hkW72)
        replace M4 := Lib.hid (M4.out.call hkW72)
        replace HB := Lib.hid (held_next HB.out hkW72)
        repeat ((fail_if_success (with_reducible (show wpList _ _ _ _ _ _))); go_step)
        refine wpList_step (fun K hK => ?_)
        go_simp
        (try go_bits)
        rw [Hz0.out]
        refine hK _ _ ?_
        clear hK K
        first | (obtain ⟨Zq, hZ, mZ⟩ := M2.out) | (obtain ⟨Zq, hZ, mZ⟩ := M2.out.toN (e4_size _))
        clear M2
        have hZ' := Lib.hid hZ; clear hZ
        have mZ' := Lib.hid mZ; clear mZ
        refine wpList_store_row rfl 36 _ _ rfl (w.heap.size + 1) _ rfl rfl 36 Zq mZ'.out (by rw [e4_size]; kernel_rfl) (hZ'.out.trans (e4_size _).symm) (row_one _ _ _) ?_
        (try simp only [Act.put, sI, sS, sZ])
        replace M1 := Lib.hid (M1.out.setRow_other (w.heap.size + 1) (e4 0) (by omega))
        replace M4 := Lib.hid (M4.out.setRow_other (w.heap.size + 1) (e4 0) (by omega))
        have M2 := Lib.hid (mZ'.out.setRow (e4 0))
        clear mZ' hZ'
        replace HB := Lib.hid (below_setRow HB.out (w.heap.size + 1) (e4 0) (by omega))
        (refine wpList_step (fun K hK => ?_); go_simp; (try go_bits); refine hK _ _ ?_; clear hK K)
        refine wpList_nil ?_
        go_wp2_with fail
        exact bodyPost_ret (v := .tuple #[.agg (e4 0), .bool false]) (results_cell_tmp_row (fn := Try.f44) (p := 2) (t2 := 3) (ty := 36) (t := 36) (by rfl) _ _ (w.heap.size + 1) _ _ _ rfl M2.out Try.underlying36 rfl (by rw [e4_size]; kernel_rfl)) rfl ⟨0, by decide, Hf3.out, by rw [Hfo.out], HB.out⟩
end Go.Proofs.Ytjiagjonlcadiaa
end
section
namespace Go.Proofs.Ytjiagjonlcadiaa
open Go.RowKit Go.Lib

theorem n256_32 : 256 ^ 32 = 115792089237316195423570985008687907853269984665640564039457584007913129639936 := by decide +kernel
theorem k32_eq (x y : Nat) (hx : x < 115792089237316195423570985008687907853269984665640564039457584007913129639936) (hy : y < 115792089237316195423570985008687907853269984665640564039457584007913129639936) (w : World) : (Op.equalIn 10000 24 (.agg (k32 x)) (.agg (k32 y))).run Try.prog w = .ok (decide (x = y)) w := by
  rw [← eqr_dg 256 32 x y (by rw [n256_32]; exact hx) (by rw [n256_32]; exact hy)]
  exact run_equalIn_row w 9998 24 5 32 .u8 Try.underlying24 Try.underlying5 sz_u8 _ _
theorem k32_same (x : Nat) (hx : x < 115792089237316195423570985008687907853269984665640564039457584007913129639936) (w : World) : (Op.equalIn 10000 24 (.agg (k32 x)) (.agg (k32 x))).run Try.prog w = .ok true w := by
  rw [k32_eq x x hx hx w, decide_eq_true rfl]


theorem fof_a (n a : Nat) (hn : n < 115792089237316195423570985008687907853269984665640564039457584007913129639936) (ha : a = n % 57896044618658097711785492504343953926634992332820282019728792003956564819968) (w : World) : Calls Try.prog 30 #[.agg (k32 n)] w fun e w' => e = .returned (.agg (e4 a)) ∧ Below w.heap.size w w' := by
  rw [ha]; exact of_any n hn w
end Go.Proofs.Ytjiagjonlcadiaa
end
section
namespace Go
variable {P : Program} {ops : Array Oper} {Q : Exit → Act → World → Prop} {S : World → Prop} {a : Act} {w : World}

theorem yieldsIf_build {o : Oper} (hw : Region.wanted o (yielded ops a.tmps) = true) (t : TypeId) (parts : Array (Nat × Operand)) (ho : o.op = .build t parts) (pl : List (Nat × Value)) (hv : parts.toList.map (fun p => (p.1, a.eval p.2)) = pl) (cells : Array Value) (hc : P.built t pl = some cells) : YieldsIf P ops S o (.agg cells) a := by
  refine Or.inl ⟨hw, fun w _ => ?_⟩
  have hc2 : P.built t (parts.map fun (i, x) => (i, a.eval x)).toList = some cells := by
    rw [Array.toList_map, ← hc, ← hv]
  unfold execOp
  simp only [ho, Sem.run_bind, run_build w t _ cells hc2, Result.andThen_ok]
  rfl
theorem wpList_built {rest : List Oper} {o : Oper} (hw : Region.wanted o (yielded ops a.tmps) = true) (t : TypeId) (parts : Array (Nat × Operand)) (ho : o.op = .build t parts) (pl : List (Nat × Value)) (hv : parts.toList.map (fun p => (p.1, a.eval p.2)) = pl) (cells : Array Value) (hc : P.built t pl = some cells)
    (d : Tmp) (hd : o.dst = some d) (h : wpList P ops Q rest { a with tmps := a.tmps.setIfInBounds d (.agg cells) } w) : wpList P ops Q (o :: rest) a w := by
  rcases yieldsIf_build (ops := ops) (S := fun _ => True) hw t parts ho pl hv cells hc with ⟨_, h1⟩ | ⟨h1, _⟩
  · refine wpList_step fun K hK => ?_
    rw [if_pos hw]
    unfold Oper.wp
    rw [h1 w trivial, Oper.upon_value]
    refine hK _ _ ?_
    rw [put_some hd]; exact h
  · rw [hw] at h1; cases h1
theorem wpList_alloc {rest : List Oper} {o : Oper} (hw : Region.wanted o (yielded ops a.tmps) = true) (ty : TypeId) (ho : o.op = .alloc ty) (Z : Array Value)
    (hz : ∀ w : World, (Instr.alloc ty true (.tuple #[])).run P w = .ok (.pointer (some ⟨w.heap.size, 0, none⟩)) (w.alloc (.cells Z ty))) (d : Tmp) (hd : o.dst = some d)
    (h : ∀ w2, w2 = w.alloc (.cells Z ty) → wpList P ops Q rest { a with tmps := a.tmps.setIfInBounds d (.pointer (some ⟨w.heap.size, 0, none⟩)) } w2) : wpList P ops Q (o :: rest) a w := by
  refine wpList_step fun K hK => ?_
  rw [if_pos hw]
  unfold Oper.wp execOp
  simp only [ho, Sem.run_bind, Sem.run_pure, hz, Result.andThen_ok]
  refine hK _ _ ?_
  rw [put_some hd]; exact h _ rfl
theorem wpList_store2 {rest : List Oper} {o : Oper} (hw : Region.wanted o (yielded ops a.tmps) = true) (ty : TypeId) (x y : Operand) (ho : o.op = .store ty x y) (hd : o.dst = none)
    (g : Nat) (cells : Array Value) (hx : a.eval x = .pointer (some ⟨g, 0, none⟩)) (hy : a.eval y = .agg cells)
    (t : TypeId) (old : Array Value) (hg : w.heap[g]? = some (.cells old t (0, 0))) (hi : (P.info? ty).map (·.size) = some cells.size)
    (hold : old.size = cells.size) (h1 : cells.all (·.oneCell') = true)
    (h : ∀ w2, w2 = w.setRow g cells → wpList P ops Q rest a w2) : wpList P ops Q (o :: rest) a w := by
  refine wpList_step fun K hK => ?_
  rw [if_pos hw]
  refine wp_store_row ty x y ho g cells hx hy t old hg hi hold h1 ?_
  refine hK _ _ ?_
  rw [put_none hd]; exact h _ rfl
theorem yieldsIf_loadm {o : Oper} (hw : Region.wanted o (yielded ops a.tmps) = true) (ty : TypeId) (x : Operand) (ho : o.op = .load ty x) (b i : Nat) (hx : a.eval x = .pointer (some ⟨b, i, none⟩)) (cs : List Value) (c : Array Value) (hcc : c = cs.toArray)
    (hS : ∀ w, S w → w.rangeAt b i cs) (d : TypeDesc) (hu : P.underlying ty = some d) (hd : d.isRow = true) (hi : (P.info? ty).map (·.size) = some cs.length) : YieldsIf P ops S o (.agg c) a := by
  rw [hcc]; exact yieldsIf_load_mid hw ty x ho b i hx cs d hS hu hd hi
end Go
namespace Go.Proofs.Ytjiagjonlcadiaa
open Go.RowKit Go.Lib

/-- four cells of a number -/
def e4l (n : Nat) : List Value := rowl .u64 4 (dg 18446744073709551616 n)
theorem e4l_len (n : Nat) : (e4l n).length = 4 := rowl_len _ _ _
/-- the program's point -/
def pt (x y z : Nat) (b : Bool) : Array Value := (e4l x ++ e4l y ++ e4l z ++ [Value.bool b]).toArray
theorem pt_size (x y z : Nat) (b : Bool) : (pt x y z b).size = 13 := by simp [pt, e4l_len]
theorem pt_one (x y z : Nat) (b : Bool) : (pt x y z b).all (·.oneCell') = true := by
  simp [pt, e4l, rowl, List.all_eq_true, Value.oneCell']
/-- the reference's point -/
def r22l (n : Nat) : List Value := rowl .i64 22 (dg 4096 n)
theorem r22l_len (n : Nat) : (r22l n).length = 22 := rowl_len _ _ _
def rp (x y z t : Nat) : Array Value := (r22l x ++ r22l y ++ r22l z ++ r22l t).toArray
theorem rp_size (x y z t : Nat) : (rp x y z t).size = 88 := by simp [rp, r22l_len]

theorem range_of {w : World} {b : Nat} {t : TypeId} {l1 l2 l3 : List Value} (h : Has w b (l1 ++ l2 ++ l3).toArray t) : w.rangeAt b l1.length l2 := fun j v hv => by
  have hj : j < l2.length := (List.getElem?_eq_some_iff.1 hv).1
  rw [h.cellAt]
  simp only [List.getElem?_toArray]
  rw [List.append_assoc, List.getElem?_append_right (by omega), List.getElem?_append_left (by omega), show l1.length + j - l1.length = j by omega, hv]
theorem pt_x {w : World} {b : Nat} {t : TypeId} {x y z : Nat} {o : Bool} (h : Has w b (pt x y z o) t) : w.rangeAt b 0 (e4l x) := by
  have h2 : Has w b ([] ++ e4l x ++ (e4l y ++ e4l z ++ [Value.bool o])).toArray t := by simpa [pt] using h
  exact range_of h2
theorem pt_y {w : World} {b : Nat} {t : TypeId} {x y z : Nat} {o : Bool} (h : Has w b (pt x y z o) t) : w.rangeAt b 4 (e4l y) := by
  have h2 : Has w b (e4l x ++ e4l y ++ (e4l z ++ [Value.bool o])).toArray t := by simpa [pt] using h
  have := range_of h2
  rwa [e4l_len] at this
theorem pt_z {w : World} {b : Nat} {t : TypeId} {x y z : Nat} {o : Bool} (h : Has w b (pt x y z o) t) : w.rangeAt b 8 (e4l z) := by
  have h2 : Has w b ((e4l x ++ e4l y) ++ e4l z ++ [Value.bool o]).toArray t := by simpa [pt] using h
  have := range_of h2
  rwa [List.length_append, e4l_len, e4l_len] at this
theorem pt_w {w : World} {b : Nat} {t : TypeId} {x y z : Nat} {o : Bool} (h : Has w b (pt x y z o) t) : w.cell? ⟨b, 12, none⟩ = some (.bool o) := by
  rw [h.cellAt]; simp [pt, e4l_len]

theorem bd36z : Try.prog.built 36 [] = some (e4 0) := by kernel_rfl
theorem bd53z : Try.prog.built 53 [] = some (pt 0 0 0 false) := by kernel_rfl
theorem bd53 (x y z : Nat) (b : Bool) : Try.prog.built 53 [(0, .agg (e4 x)), (1, .agg (e4 y)), (2, .agg (e4 z)), (3, .bool b)] = some (pt x y z b) := by kernel_rfl
def z53 : Array Value := (#[.int .u64 0, .int .u64 0, .int .u64 0, .int .u64 0, .int .u64 0, .int .u64 0, .int .u64 0, .int .u64 0, .int .u64 0, .int .u64 0, .int .u64 0, .int .u64 0, .bool false] : Array Value)
theorem al53 (w : World) : (Instr.alloc 53 true (.tuple #[])).run Try.prog w = .ok (.pointer (some ⟨w.heap.size, 0, none⟩)) (w.alloc (.cells z53 53)) := by
  unfold z53
  go_simp
/-- three results in cells -/
theorem results_cell3 {P : Program} {fn : Func} {p q r : Tmp} {ty : TypeId} (h : fn.results = #[.cell p ty, .cell q ty, .cell r ty]) (tmps : Array Value) (w : World) (g1 g2 g3 : Nat) (t1 t2 t3 : TypeId) (c1 c2 c3 : Array Value) (d : TypeDesc)
    (hp : tmps.getD p undef = .pointer (some ⟨g1, 0, none⟩)) (hq : tmps.getD q undef = .pointer (some ⟨g2, 0, none⟩)) (hr : tmps.getD r undef = .pointer (some ⟨g3, 0, none⟩))
    (h1 : w.heap[g1]? = some (.cells c1 t1 (0, 0))) (h2 : w.heap[g2]? = some (.cells c2 t2 (0, 0))) (h3 : w.heap[g3]? = some (.cells c3 t3 (0, 0)))
    (hu : P.underlying ty = some d) (hd : (match d with | .struct _ | .array _ _ => true | _ => false) = true) (i1 : (P.info? ty).map (·.size) = some c1.size) (i2 : (P.info? ty).map (·.size) = some c2.size) (i3 : (P.info? ty).map (·.size) = some c3.size) :
    (results fn tmps).run P w = .ok (.tuple #[.agg c1, .agg c2, .agg c3]) w := by
  have hp' : tmps[p]?.getD undef = .pointer (some ⟨g1, 0, none⟩) := by simpa using hp
  have hq' : tmps[q]?.getD undef = .pointer (some ⟨g2, 0, none⟩) := by simpa using hq
  have hr' : tmps[r]?.getD undef = .pointer (some ⟨g3, 0, none⟩) := by simpa using hr
  simp [results, h, hp', hq', hr', asAddr, run_loadVar_row w g1 t1 ty c1 _ d h1 hu hd i1, run_loadVar_row w g2 t2 ty c2 _ d h2 hu hd i2, run_loadVar_row w g3 t3 ty c3 _ d h3 hu hd i3]
end Go.Proofs.Ytjiagjonlcadiaa
end
section
namespace Go.Proofs.Ytjiagjonlcadiaa
open Go.RowKit Go.Lib
theorem ent46 : Enters Try.prog 46 := ⟨_, Try.func46, by kernel_rfl, by kernel_rfl⟩
theorem ent47 : Enters Try.prog 47 := ⟨_, Try.func47, by kernel_rfl, by kernel_rfl⟩
theorem ent49 : Enters Try.prog 49 := ⟨_, Try.func49, by kernel_rfl, by kernel_rfl⟩
theorem ent51 : Enters Try.prog 51 := ⟨_, Try.func51, by kernel_rfl, by kernel_rfl⟩
theorem ent53 : Enters Try.prog 53 := ⟨_, Try.func53, by kernel_rfl, by kernel_rfl⟩
theorem ent55 : Enters Try.prog 55 := ⟨_, Try.func55, by kernel_rfl, by kernel_rfl⟩
theorem ent56 : Enters Try.prog 56 := ⟨_, Try.func56, by kernel_rfl, by kernel_rfl⟩
theorem ent58 : Enters Try.prog 58 := ⟨_, Try.func58, by kernel_rfl, by kernel_rfl⟩
theorem ent59 : Enters Try.prog 59 := ⟨_, Try.func59, by kernel_rfl, by kernel_rfl⟩
theorem ent87 : Enters Try.prog 87 := ⟨_, Try.func87, by kernel_rfl, by kernel_rfl⟩
theorem ent90 : Enters Try.prog 90 := ⟨_, Try.func90, by kernel_rfl, by kernel_rfl⟩
theorem ent91 : Enters Try.prog 91 := ⟨_, Try.func91, by kernel_rfl, by kernel_rfl⟩
theorem ent92 : Enters Try.prog 92 := ⟨_, Try.func92, by kernel_rfl, by kernel_rfl⟩
theorem ent93 : Enters Try.prog 93 := ⟨_, Try.func93, by kernel_rfl, by kernel_rfl⟩

/-- what a point is: its numbers x, y, z1 and its truth, and the residues X, Y, Z of x, y, z -/
def IsPt (x y z1 : Nat) (b : Bool) (X Y Z : Nat) : Prop :=
  (x < 115792089237316195423570985008687907853269984665640564039457584007913129639936 ∧ y < 115792089237316195423570985008687907853269984665640564039457584007913129639936 ∧ z1 < 115792089237316195423570985008687907853269984665640564039457584007913129639936) ∧ (b = true ∧ x % PP = X ∧ y % PP = Y ∧ (z1 + 1) % PP = Z ∨ b = false ∧ 0 % PP = X ∧ 1 % PP = Y ∧ 1 % PP = Z)
/-- three elements of these residues -/
def PlP (X Y Z : Nat) (w : World) (e : Ending) (w' : World) : Prop :=
  ∃ x y z : Nat, (x < 115792089237316195423570985008687907853269984665640564039457584007913129639936 ∧ y < 115792089237316195423570985008687907853269984665640564039457584007913129639936 ∧ z < 115792089237316195423570985008687907853269984665640564039457584007913129639936) ∧ (x % PP = X ∧ y % PP = Y ∧ z % PP = Z) ∧ e = .returned (.tuple #[.agg (e4 x), .agg (e4 y), .agg (e4 z)]) ∧ Below w.heap.size w w'
/-- a point of these residues -/
def PtP (X Y Z : Nat) (w : World) (e : Ending) (w' : World) : Prop :=
  ∃ (x y z1 : Nat) (b : Bool), IsPt x y z1 b X Y Z ∧ e = .returned (.agg (pt x y z1 b)) ∧ Below w.heap.size w w'

set_option maxRecDepth 100000 in
set_option linter.unusedSimpArgs false in
set_option maxHeartbeats 8000000 in
theorem plain_any (x y z1 : Nat) (b : Bool) (X Y Z : Nat) (h : IsPt x y z1 b X Y Z) (w : World) :
    Calls Try.prog 90 #[.agg (pt x y z1 b)] w (PlP X Y Z w) := by
  obtain ⟨⟨hx, hy, hz⟩, hc⟩ := h
  have hint := fun w => fint_nn 1 (by decide) w
  have hpl := fun w => plus_any z1 1 hz (by decide) w
  have Hint := Lib.hid hint; clear hint
  have Hpl := Lib.hid hpl; clear hpl
  have Hx := Lib.hid hx; clear hx
  have Hy := Lib.hid hy; clear hy
  have Hz := Lib.hid hz; clear hz
  have Hc := Lib.hid hc; clear hc
  go_enter Try.func90, Try.ntmps90
  repeat ((fail_if_success (with_reducible (show wpList _ _ _ _ _ _))); go_step)
  iterate 4 (refine wpList_step (fun K hK => ?_); go_simp; (try go_bits); refine hK _ _ ?_; clear hK K)
  refine wpList_nil ?_
  have M1 := Lib.hid ((((Has.new w  (pt x y z1 b) 53).alloc (.cells (#[.int .u64 0, .int .u64 0, .int .u64 0, .int .u64 0] : Array Value) 36)).alloc (.cells (#[.int .u64 0, .int .u64 0, .int .u64 0, .int .u64 0] : Array Value) 36)).alloc (.cells (#[.int .u64 0, .int .u64 0, .int .u64 0, .int .u64 0] : Array Value) 36))
  have M2 := Lib.hid (((HasN.new1 w (.cells (pt x y z1 b) 53) (#[.int .u64 0, .int .u64 0, .int .u64 0, .int .u64 0] : Array Value) 36 4 (by kernel_rfl)).alloc (.cells (#[.int .u64 0, .int .u64 0, .int .u64 0, .int .u64 0] : Array Value) 36)).alloc (.cells (#[.int .u64 0, .int .u64 0, .int .u64 0, .int .u64 0] : Array Value) 36))
  have M3 := Lib.hid ((HasN.new2 w (.cells (pt x y z1 b) 53) (.cells (#[.int .u64 0, .int .u64 0, .int .u64 0, .int .u64 0] : Array Value) 36) (#[.int .u64 0, .int .u64 0, .int .u64 0, .int .u64 0] : Array Value) 36 4 (by kernel_rfl)).alloc (.cells (#[.int .u64 0, .int .u64 0, .int .u64 0, .int .u64 0] : Array Value) 36))
  have M4 := Lib.hid (HasN.new3 w (.cells (pt x y z1 b) 53) (.cells (#[.int .u64 0, .int .u64 0, .int .u64 0, .int .u64 0] : Array Value) 36) (.cells (#[.int .u64 0, .int .u64 0, .int .u64 0, .int .u64 0] : Array Value) 36) (#[.int .u64 0, .int .u64 0, .int .u64 0, .int .u64 0] : Array Value) 36 4 (by kernel_rfl))
  have HB := Lib.hid (below_4 w (.cells (pt x y z1 b) 53) (.cells (#[.int .u64 0, .int .u64 0, .int .u64 0, .int .u64 0] : Array Value) 36) (.cells (#[.int .u64 0, .int .u64 0, .int .u64 0, .int .u64 0] : Array Value) 36) (.cells (#[.int .u64 0, .int .u64 0, .int .u64 0, .int .u64 0] : Array Value) 36))
  obtain ⟨yw1, hwyw1⟩ : ∃ ww, ww = ((((w.alloc (.cells (pt x y z1 b) 53)).alloc (.cells (#[.int .u64 0, .int .u64 0, .int .u64 0, .int .u64 0] : Array Value) 36)).alloc (.cells (#[.int .u64 0, .int .u64 0, .int .u64 0, .int .u64 0] : Array Value) 36)).alloc (.cells (#[.int .u64 0, .int .u64 0, .int .u64 0, .int .u64 0] : Array Value) 36)) := ⟨_, rfl⟩
  rw [← hwyw1] at M1 M2 M3 M4 HB ⊢
  clear hwyw1
  repeat ((fail_if_success (with_reducible (show wpList _ _ _ _ _ _))); go_step)
  refine wpList_call (by rfl) rfl rfl (by rfl) ent34 (by rfl) (Hint.out _) 6 rfl ?_
  rintro e uw1 ⟨rfl, hb⟩
  replace M1 := Lib.hid (M1.out.call hb)
  replace M2 := Lib.hid (M2.out.call hb)
  replace M3 := Lib.hid (M3.out.call hb)
  replace M4 := Lib.hid (M4.out.call hb)
  replace HB := Lib.hid (held_next HB.out hb)
  refine ⟨_, rfl, ?_⟩
  clear hb
  (try simp only [Act.put, sI, sS, sZ])
  refine wpList_alloc (by rfl) 36 rfl _ al36 5 rfl ?_
  intro yw2 hw2
  have hlt3 := M1.out.lt
  have hlt4 := M2.out.lt
  have hlt5 := M3.out.lt
  have hlt6 := M4.out.lt
  have hsz := HB.out.size
  replace M1 := Lib.hid (M1.out.alloc (.cells z36 36))
  replace M2 := Lib.hid (M2.out.alloc (.cells z36 36))
  replace M3 := Lib.hid (M3.out.alloc (.cells z36 36))
  replace M4 := Lib.hid (M4.out.alloc (.cells z36 36))
  have M5 := Lib.hid (HasN.new uw1 z36 36 4 (by kernel_rfl))
  replace HB := Lib.hid (HB.out.alloc hsz (.cells z36 36))
  rw [← hw2] at M1 M2 M3 M4 M5 HB; clear hw2
  (try simp only [Act.put, sI, sS, sZ])
  first | (obtain ⟨Zq, hZ, mZ⟩ := M5.out) | (obtain ⟨Zq, hZ, mZ⟩ := M5.out.toN (e4_size ..))
  refine wpList_store2 (by rfl) 36 _ _ rfl rfl (uw1.heap.size) (e4 1) rfl rfl 36 Zq mZ (by rw [e4_size]; kernel_rfl) (hZ.trans (e4_size ..).symm) (row_one _ _ _) ?_
  intro yw7 hw2
  replace M1 := Lib.hid (M1.out.setRow_other (uw1.heap.size) (e4 1) (by omega))
  replace M2 := Lib.hid (M2.out.setRow_other (uw1.heap.size) (e4 1) (by omega))
  replace M3 := Lib.hid (M3.out.setRow_other (uw1.heap.size) (e4 1) (by omega))
  replace M4 := Lib.hid (M4.out.setRow_other (uw1.heap.size) (e4 1) (by omega))
  replace M5 := Lib.hid (mZ.setRow (e4 1))
  replace HB := Lib.hid (below_setRow HB.out (uw1.heap.size) (e4 1) (by omega))
  rw [← hw2] at M1 M2 M3 M4 M5 HB; clear mZ hZ hw2
  refine wpList_nil ?_
  repeat ((fail_if_success (with_reducible (show wpList _ _ _ _ _ _))); go_step)
  have hcw := pt_w M1.out
  iterate 3 (refine wpList_step (fun K hK => ?_); go_simp; (try go_bits); refine hK _ _ ?_; clear hK K)
  refine wpList_nil ?_
  clear hcw
  cases b
  · repeat ((fail_if_success (with_reducible (show wpList _ _ _ _ _ _))); go_step)
    refine wp_region_noPanic ?_
    refine wp_region_goS (fun w' => Has w' (uw1.heap.size) (e4 1) 36) 99 6 #[ff,ff,ff,ff,ff,ff] (by kernel_rfl) rfl rfl ?_
    replace M1 := Lib.hid (M1.out.drew)
    replace M2 := Lib.hid (M2.out.drew)
    replace M3 := Lib.hid (M3.out.drew)
    replace M4 := Lib.hid (M4.out.drew)
    replace M5 := Lib.hid (M5.out.drew)
    replace HB := Lib.hid (below_drewN HB.out 1)
    obtain ⟨yw8, hwyw8⟩ : ∃ ww, ww = yw7.drew := ⟨_, rfl⟩
    rw [← hwyw8] at M1 M2 M3 M4 M5 ⊢
    have kq : Below w.heap.size w yw8 := by rw [hwyw8]; exact HB.out
    clear HB; have HB := Lib.hid kq; clear kq hwyw8
    refine go_take2 0 10 #[tt,ff,ff,ff,ff,ff] rfl rfl rfl (by kernel_rfl) (yieldsIf_build (by rfl) 36 _ rfl _ (by rfl) (e4 0) (bd36z)) (M5.out) ?_
    (try simp only [sI, sS, sZ])
    refine go_take2 1 11 #[tt,tt,ff,ff,ff,ff] rfl rfl rfl (by kernel_rfl) (yieldsIf_load_row (by rfl) 36 _ rfl (uw1.heap.size) rfl 36 (e4 1) (fun _ h => h) Try.underlying36 rfl (by rw [e4_size]; kernel_rfl)) (M5.out) ?_
    (try simp only [sI, sS, sZ])
    refine go_take2 2 12 #[tt,tt,tt,ff,ff,ff] rfl rfl rfl (by kernel_rfl) (yieldsIf_load_row (by rfl) 36 _ rfl (uw1.heap.size) rfl 36 (e4 1) (fun _ h => h) Try.underlying36 rfl (by rw [e4_size]; kernel_rfl)) (M5.out) ?_
    (try simp only [sI, sS, sZ])
    refine wpBut_r1 (i := 3) (by kernel_rfl) ?_
    first | (obtain ⟨Zq, hZ, mZ⟩ := M2.out) | (obtain ⟨Zq, hZ, mZ⟩ := M2.out.toN (e4_size ..))
    refine go_store2 3 #[tt,tt,tt,tt,ff,ff] rfl rfl rfl (by rfl) 36 _ _ rfl (w.heap.size + 1) (e4 0) rfl rfl 36 Zq mZ (by rw [e4_size]; kernel_rfl) (hZ.trans (e4_size ..).symm) (row_one _ _ _) ?_
    intro yw9 hw2
    replace M1 := Lib.hid (M1.out.setRow_other (w.heap.size + 1) (e4 0) (by omega))
    replace M3 := Lib.hid (M3.out.setRow_other (w.heap.size + 1) (e4 0) (by omega))
    replace M4 := Lib.hid (M4.out.setRow_other (w.heap.size + 1) (e4 0) (by omega))
    replace M5 := Lib.hid (M5.out.setRow_other (w.heap.size + 1) (e4 0) (by omega))
    replace M2 := Lib.hid (mZ.setRow (e4 0))
    replace HB := Lib.hid (below_setRow HB.out (w.heap.size + 1) (e4 0) (by omega))
    rw [← hw2] at M1 M3 M4 M5 M2 HB; clear mZ hZ hw2
    refine ⟨fun _ => M5.out, ?_⟩
    (try simp only [sI, sS, sZ])
    refine wpBut_r1 (i := 4) (by kernel_rfl) ?_
    first | (obtain ⟨Zq, hZ, mZ⟩ := M3.out) | (obtain ⟨Zq, hZ, mZ⟩ := M3.out.toN (e4_size ..))
    refine go_store2 4 #[tt,tt,tt,tt,tt,ff] rfl rfl rfl (by rfl) 36 _ _ rfl (w.heap.size + 1 + 1) (e4 1) rfl rfl 36 Zq mZ (by rw [e4_size]; kernel_rfl) (hZ.trans (e4_size ..).symm) (row_one _ _ _) ?_
    intro yw10 hw2
    replace M1 := Lib.hid (M1.out.setRow_other (w.heap.size + 1 + 1) (e4 1) (by omega))
    replace M2 := Lib.hid (M2.out.setRow_other (w.heap.size + 1 + 1) (e4 1) (by omega))
    replace M4 := Lib.hid (M4.out.setRow_other (w.heap.size + 1 + 1) (e4 1) (by omega))
    replace M5 := Lib.hid (M5.out.setRow_other (w.heap.size + 1 + 1) (e4 1) (by omega))
    replace M3 := Lib.hid (mZ.setRow (e4 1))
    replace HB := Lib.hid (below_setRow HB.out (w.heap.size + 1 + 1) (e4 1) (by omega))
    rw [← hw2] at M1 M2 M4 M5 M3 HB; clear mZ hZ hw2
    refine ⟨fun _ => M5.out, ?_⟩
    (try simp only [sI, sS, sZ])
    refine wpBut_r1 (i := 5) (by kernel_rfl) ?_
    first | (obtain ⟨Zq, hZ, mZ⟩ := M4.out) | (obtain ⟨Zq, hZ, mZ⟩ := M4.out.toN (e4_size ..))
    refine go_store2 5 #[tt,tt,tt,tt,tt,tt] rfl rfl rfl (by rfl) 36 _ _ rfl (w.heap.size + 1 + 1 + 1) (e4 1) rfl rfl 36 Zq mZ (by rw [e4_size]; kernel_rfl) (hZ.trans (e4_size ..).symm) (row_one _ _ _) ?_
    intro yw11 hw2
    replace M1 := Lib.hid (M1.out.setRow_other (w.heap.size + 1 + 1 + 1) (e4 1) (by omega))
    replace M2 := Lib.hid (M2.out.setRow_other (w.heap.size + 1 + 1 + 1) (e4 1) (by omega))
    replace M3 := Lib.hid (M3.out.setRow_other (w.heap.size + 1 + 1 + 1) (e4 1) (by omega))
    replace M5 := Lib.hid (M5.out.setRow_other (w.heap.size + 1 + 1 + 1) (e4 1) (by omega))
    replace M4 := Lib.hid (mZ.setRow (e4 1))
    replace HB := Lib.hid (below_setRow HB.out (w.heap.size + 1 + 1 + 1) (e4 1) (by omega))
    rw [← hw2] at M1 M2 M3 M5 M4 HB; clear mZ hZ hw2
    refine ⟨fun _ => M5.out, ?_⟩
    (try simp only [sI, sS, sZ])
    refine wpBut_done (by kernel_rfl) (NoPanic.normal ?_)
    have hr := Hc.out.resolve_left (by simp)
    go_wp2_with fail
    exact bodyPost_ret (v := .tuple #[.agg (e4 0), .agg (e4 1), .agg (e4 1)]) (results_cell3 (fn := Try.f90) (p := 2) (q := 3) (r := 4) (ty := 36) (by rfl) _ _ (w.heap.size + 1) (w.heap.size + 1 + 1) (w.heap.size + 1 + 1 + 1) 36 36 36 _ _ _ _ rfl rfl rfl M2.out M3.out M4.out Try.underlying36 rfl (by rw [e4_size]; kernel_rfl) (by rw [e4_size]; kernel_rfl) (by rw [e4_size]; kernel_rfl)) rfl ⟨0, 1, 1, ⟨by decide, by decide, by decide⟩, ⟨hr.2.1, hr.2.2.1, hr.2.2.2⟩, rfl, HB.out⟩
  · repeat ((fail_if_success (with_reducible (show wpList _ _ _ _ _ _))); go_step)
    refine wp_region_noPanic ?_
    refine wp_region_goS (fun w' => Has w' (w.heap.size) (pt x y z1 true) 53 ∧ Has w' (uw1.heap.size) (e4 1) 36) 99 11 #[ff,ff,ff,ff,ff,ff,ff,ff,ff,ff,ff] (by kernel_rfl) rfl rfl ?_
    replace M1 := Lib.hid (M1.out.drew)
    replace M2 := Lib.hid (M2.out.drew)
    replace M3 := Lib.hid (M3.out.drew)
    replace M4 := Lib.hid (M4.out.drew)
    replace M5 := Lib.hid (M5.out.drew)
    replace HB := Lib.hid (below_drewN HB.out 1)
    obtain ⟨yw8, hwyw8⟩ : ∃ ww, ww = yw7.drew := ⟨_, rfl⟩
    rw [← hwyw8] at M1 M2 M3 M4 M5 ⊢
    have kq : Below w.heap.size w yw8 := by rw [hwyw8]; exact HB.out
    clear HB; have HB := Lib.hid kq; clear kq hwyw8
    refine go_take2 0 13 #[tt,ff,ff,ff,ff,ff,ff,ff,ff,ff,ff] (v := ?uv1) rfl rfl rfl (by kernel_rfl) (Or.inl ⟨by rfl, ?uy1⟩) (⟨M1.out, M5.out⟩) ?urest1
    case uy1 => (intro _ _; go_simp; try with_reducible rfl)
    (try simp only [sI, sS, sZ])
    refine go_take2 1 14 #[tt,tt,ff,ff,ff,ff,ff,ff,ff,ff,ff] rfl rfl rfl (by kernel_rfl) (yieldsIf_loadm (by rfl) 36 _ rfl (w.heap.size) 0 rfl (e4l x) (e4 x) rfl (fun _ h => pt_x h.1) _ Try.underlying36 rfl (by rw [e4l_len]; kernel_rfl)) (⟨M1.out, M5.out⟩) ?_
    (try simp only [sI, sS, sZ])
    refine go_take2 2 15 #[tt,tt,tt,ff,ff,ff,ff,ff,ff,ff,ff] (v := ?uv2) rfl rfl rfl (by kernel_rfl) (Or.inl ⟨by rfl, ?uy2⟩) (⟨M1.out, M5.out⟩) ?urest2
    case uy2 => (intro _ _; go_simp; try with_reducible rfl)
    (try simp only [sI, sS, sZ])
    refine go_take2 3 16 #[tt,tt,tt,tt,ff,ff,ff,ff,ff,ff,ff] rfl rfl rfl (by kernel_rfl) (yieldsIf_loadm (by rfl) 36 _ rfl (w.heap.size) 4 rfl (e4l y) (e4 y) rfl (fun _ h => pt_y h.1) _ Try.underlying36 rfl (by rw [e4l_len]; kernel_rfl)) (⟨M1.out, M5.out⟩) ?_
    (try simp only [sI, sS, sZ])
    refine go_take2 4 17 #[tt,tt,tt,tt,tt,ff,ff,ff,ff,ff,ff] (v := ?uv3) rfl rfl rfl (by kernel_rfl) (Or.inl ⟨by rfl, ?uy3⟩) (⟨M1.out, M5.out⟩) ?urest3
    case uy3 => (intro _ _; go_simp; try with_reducible rfl)
    (try simp only [sI, sS, sZ])
    refine go_take2 5 18 #[tt,tt,tt,tt,tt,tt,ff,ff,ff,ff,ff] rfl rfl rfl (by kernel_rfl) (yieldsIf_loadm (by rfl) 36 _ rfl (w.heap.size) 8 rfl (e4l z1) (e4 z1) rfl (fun _ h => pt_z h.1) _ Try.underlying36 rfl (by rw [e4l_len]; kernel_rfl)) (⟨M1.out, M5.out⟩) ?_
    (try simp only [sI, sS, sZ])
    refine go_take2 6 19 #[tt,tt,tt,tt,tt,tt,tt,ff,ff,ff,ff] rfl rfl rfl (by kernel_rfl) (yieldsIf_load_row (by rfl) 36 _ rfl (uw1.heap.size) rfl 36 (e4 1) (fun _ h => h.2) Try.underlying36 rfl (by rw [e4_size]; kernel_rfl)) (⟨M1.out, M5.out⟩) ?_
    (try simp only [sI, sS, sZ])
    refine wpBut_r1 (i := 7) (by kernel_rfl) ?_
    refine go_call 7 20 #[tt,tt,tt,tt,tt,tt,tt,tt,ff,ff,ff] rfl rfl rfl (by rfl) rfl rfl (by rfl) ent37 (by rfl) (Hpl.out _) ?_
    rintro e uw2 ⟨m, hm, hmr, rfl, hb⟩
    replace M1 := Lib.hid (M1.out.call hb)
    replace M2 := Lib.hid (M2.out.call hb)
    replace M3 := Lib.hid (M3.out.call hb)
    replace M4 := Lib.hid (M4.out.call hb)
    replace M5 := Lib.hid (M5.out.call hb)
    replace HB := Lib.hid (held_next HB.out hb)
    refine ⟨_, rfl, fun _ => ⟨M1.out, M5.out⟩, ?_⟩
    clear hb
    (try simp only [sI, sS, sZ])
    refine wpBut_r1 (i := 8) (by kernel_rfl) ?_
    first | (obtain ⟨Zq, hZ, mZ⟩ := M2.out) | (obtain ⟨Zq, hZ, mZ⟩ := M2.out.toN (e4_size ..))
    refine go_store2 8 #[tt,tt,tt,tt,tt,tt,tt,tt,tt,ff,ff] rfl rfl rfl (by rfl) 36 _ _ rfl (w.heap.size + 1) (e4 x) rfl rfl 36 Zq mZ (by rw [e4_size]; kernel_rfl) (hZ.trans (e4_size ..).symm) (row_one _ _ _) ?_
    intro yw9 hw2
    replace M1 := Lib.hid (M1.out.setRow_other (w.heap.size + 1) (e4 x) (by omega))
    replace M3 := Lib.hid (M3.out.setRow_other (w.heap.size + 1) (e4 x) (by omega))
    replace M4 := Lib.hid (M4.out.setRow_other (w.heap.size + 1) (e4 x) (by omega))
    replace M5 := Lib.hid (M5.out.setRow_other (w.heap.size + 1) (e4 x) (by omega))
    replace M2 := Lib.hid (mZ.setRow (e4 x))
    replace HB := Lib.hid (below_setRow HB.out (w.heap.size + 1) (e4 x) (by omega))
    rw [← hw2] at M1 M3 M4 M5 M2 HB; clear mZ hZ hw2
    refine ⟨fun _ => ⟨M1.out, M5.out⟩, ?_⟩
    (try simp only [sI, sS, sZ])
    refine wpBut_r1 (i := 9) (by kernel_rfl) ?_
    first | (obtain ⟨Zq, hZ, mZ⟩ := M3.out) | (obtain ⟨Zq, hZ, mZ⟩ := M3.out.toN (e4_size ..))
    refine go_store2 9 #[tt,tt,tt,tt,tt,tt,tt,tt,tt,tt,ff] rfl rfl rfl (by rfl) 36 _ _ rfl (w.heap.size + 1 + 1) (e4 y) rfl rfl 36 Zq mZ (by rw [e4_size]; kernel_rfl) (hZ.trans (e4_size ..).symm) (row_one _ _ _) ?_
    intro yw10 hw2
    replace M1 := Lib.hid (M1.out.setRow_other (w.heap.size + 1 + 1) (e4 y) (by omega))
    replace M2 := Lib.hid (M2.out.setRow_other (w.heap.size + 1 + 1) (e4 y) (by omega))
    replace M4 := Lib.hid (M4.out.setRow_other (w.heap.size + 1 + 1) (e4 y) (by omega))
    replace M5 := Lib.hid (M5.out.setRow_other (w.heap.size + 1 + 1) (e4 y) (by omega))
    replace M3 := Lib.hid (mZ.setRow (e4 y))
    replace HB := Lib.hid (below_setRow HB.out (w.heap.size + 1 + 1) (e4 y) (by omega))
    rw [← hw2] at M1 M2 M4 M5 M3 HB; clear mZ hZ hw2
    refine ⟨fun _ => ⟨M1.out, M5.out⟩, ?_⟩
    (try simp only [sI, sS, sZ])
    refine wpBut_r1 (i := 10) (by kernel_rfl) ?_
    first | (obtain ⟨Zq, hZ, mZ⟩ := M4.out) | (obtain ⟨Zq, hZ, mZ⟩ := M4.out.toN (e4_size ..))
    refine go_store2 10 #[tt,tt,tt,tt,tt,tt,tt,tt,tt,tt,tt] rfl rfl rfl (by rfl) 36 _ _ rfl (w.heap.size + 1 + 1 + 1) (e4 m) rfl rfl 36 Zq mZ (by rw [e4_size]; kernel_rfl) (hZ.trans (e4_size ..).symm) (row_one _ _ _) ?_
    intro yw11 hw2
    replace M1 := Lib.hid (M1.out.setRow_other (w.heap.size + 1 + 1 + 1) (e4 m) (by omega))
    replace M2 := Lib.hid (M2.out.setRow_other (w.heap.size + 1 + 1 + 1) (e4 m) (by omega))
    replace M3 := Lib.hid (M3.out.setRow_other (w.heap.size + 1 + 1 + 1) (e4 m) (by omega))
    replace M5 := Lib.hid (M5.out.setRow_other (w.heap.size + 1 + 1 + 1) (e4 m) (by omega))
    replace M4 := Lib.hid (mZ.setRow (e4 m))
    replace HB := Lib.hid (below_setRow HB.out (w.heap.size + 1 + 1 + 1) (e4 m) (by omega))
    rw [← hw2] at M1 M2 M3 M5 M4 HB; clear mZ hZ hw2
    refine ⟨fun _ => ⟨M1.out, M5.out⟩, ?_⟩
    (try simp only [sI, sS, sZ])
    refine wpBut_done (by kernel_rfl) (NoPanic.normal ?_)
    have hr := Hc.out.resolve_right (by simp)
    go_wp2_with fail
    exact bodyPost_ret (v := .tuple #[.agg (e4 x), .agg (e4 y), .agg (e4 m)]) (results_cell3 (fn := Try.f90) (p := 2) (q := 3) (r := 4) (ty := 36) (by rfl) _ _ (w.heap.size + 1) (w.heap.size + 1 + 1) (w.heap.size + 1 + 1 + 1) 36 36 36 _ _ _ _ rfl rfl rfl M2.out M3.out M4.out Try.underlying36 rfl (by rw [e4_size]; kernel_rfl) (by rw [e4_size]; kernel_rfl) (by rw [e4_size]; kernel_rfl)) rfl ⟨x, y, m, ⟨Hx.out, Hy.out, hm⟩, ⟨hr.2.1, hr.2.2.1, hmr.trans hr.2.2.2⟩, rfl, HB.out⟩
end Go.Proofs.Ytjiagjonlcadiaa
end
section
namespace Go.Proofs.Ytjiagjonlcadiaa
open Go.RowKit Go.Lib

theorem made_res (z m : Nat) (h : m % PP = (z % PP + (PP - 1 % PP)) % PP) : (m + 1) % PP = z % PP := by
  have h1 : 1 % PP = 1 := Nat.mod_eq_of_lt (by have := PP_val; omega)
  have hp : 1 < PP := by have := PP_val; omega
  rw [h1] at h
  rw [mo_add_l m _ 1 h, Nat.add_assoc, show PP - 1 + 1 = PP by omega, Nat.add_mod_right, Nat.mod_mod]

set_option maxRecDepth 100000 in
set_option linter.unusedSimpArgs false in
set_option maxHeartbeats 8000000 in
theorem made_any (x y z : Nat) (hx : x < 115792089237316195423570985008687907853269984665640564039457584007913129639936) (hy : y < 115792089237316195423570985008687907853269984665640564039457584007913129639936) (hz : z < 115792089237316195423570985008687907853269984665640564039457584007913129639936) (w : World) :
    Calls Try.prog 93 #[.agg (e4 x), .agg (e4 y), .agg (e4 z)] w (PtP (x % PP) (y % PP) (z % PP) w) := by
  have hint := fun w => fint_nn 1 (by decide) w
  have hmi := fun w => minus_any z 1 hz (by decide) w
  have Hint := Lib.hid hint; clear hint
  have Hmi := Lib.hid hmi; clear hmi
  have Hx := Lib.hid hx; clear hx
  have Hy := Lib.hid hy; clear hy
  have Hz := Lib.hid hz; clear hz
  go_enter Try.func93, Try.ntmps93
  repeat ((fail_if_success (with_reducible (show wpList _ _ _ _ _ _))); go_step)
  iterate 4 (refine wpList_step (fun K hK => ?_); go_simp; (try go_bits); refine hK _ _ ?_; clear hK K)
  refine wpList_nil ?_
  have M3 := Lib.hid ((((Has.new w  (e4 x) 36).alloc (.cells (e4 y) 36)).alloc (.cells (e4 z) 36)).alloc (.cells (#[.int .u64 0, .int .u64 0, .int .u64 0, .int .u64 0, .int .u64 0, .int .u64 0, .int .u64 0, .int .u64 0, .int .u64 0, .int .u64 0, .int .u64 0, .int .u64 0, .bool false] : Array Value) 53))
  have M4 := Lib.hid (((Has.new1 w (.cells (e4 x) 36) (e4 y) 36).alloc (.cells (e4 z) 36)).alloc (.cells (#[.int .u64 0, .int .u64 0, .int .u64 0, .int .u64 0, .int .u64 0, .int .u64 0, .int .u64 0, .int .u64 0, .int .u64 0, .int .u64 0, .int .u64 0, .int .u64 0, .bool false] : Array Value) 53))
  have M5 := Lib.hid ((Has.new2 w (.cells (e4 x) 36) (.cells (e4 y) 36) (e4 z) 36).alloc (.cells (#[.int .u64 0, .int .u64 0, .int .u64 0, .int .u64 0, .int .u64 0, .int .u64 0, .int .u64 0, .int .u64 0, .int .u64 0, .int .u64 0, .int .u64 0, .int .u64 0, .bool false] : Array Value) 53))
  have M6 := Lib.hid (HasN.new3 w (.cells (e4 x) 36) (.cells (e4 y) 36) (.cells (e4 z) 36) (#[.int .u64 0, .int .u64 0, .int .u64 0, .int .u64 0, .int .u64 0, .int .u64 0, .int .u64 0, .int .u64 0, .int .u64 0, .int .u64 0, .int .u64 0, .int .u64 0, .bool false] : Array Value) 53 13 (by kernel_rfl))
  have HB := Lib.hid (below_4 w (.cells (e4 x) 36) (.cells (e4 y) 36) (.cells (e4 z) 36) (.cells (#[.int .u64 0, .int .u64 0, .int .u64 0, .int .u64 0, .int .u64 0, .int .u64 0, .int .u64 0, .int .u64 0, .int .u64 0, .int .u64 0, .int .u64 0, .int .u64 0, .bool false] : Array Value) 53))
  obtain ⟨yw1, hwyw1⟩ : ∃ ww, ww = ((((w.alloc (.cells (e4 x) 36)).alloc (.cells (e4 y) 36)).alloc (.cells (e4 z) 36)).alloc (.cells (#[.int .u64 0, .int .u64 0, .int .u64 0, .int .u64 0, .int .u64 0, .int .u64 0, .int .u64 0, .int .u64 0, .int .u64 0, .int .u64 0, .int .u64 0, .int .u64 0, .bool false] : Array Value) 53)) := ⟨_, rfl⟩
  rw [← hwyw1] at M3 M4 M5 M6 HB ⊢
  clear hwyw1
  repeat ((fail_if_success (with_reducible (show wpList _ _ _ _ _ _))); go_step)
  refine wp_region_noPanic ?_
  refine wp_region_go 6 7 #[ff,ff,ff,ff,ff,ff,ff] (by kernel_rfl) rfl rfl ?_
  intro W2 hW2
  rw [← hW2] at M3 M4 M5 M6 HB
  clear hW2
  have M6N := Lib.hid (by first | exact M6.out | exact M6.out.toN (by first | exact e4_size _ | exact r22_size _ | exact k32_size _ | exact pt_size .. | exact rp_size ..) : HasN W2 (w.heap.size + 1 + 1 + 1) _ _)
  refine go_take2 0 7 #[tt,ff,ff,ff,ff,ff,ff] rfl rfl rfl (by kernel_rfl) (yieldsIf_load_row (by rfl) 36 _ rfl (w.heap.size) rfl 36 (e4 x) (fun _ h => M3.out.below h M3.out.lt) Try.underlying36 rfl (by rw [e4_size]; kernel_rfl)) ((below_dr W2)) ?_
  (try simp only [sI, sS, sZ])
  refine go_take2 1 8 #[tt,tt,ff,ff,ff,ff,ff] rfl rfl rfl (by kernel_rfl) (yieldsIf_load_row (by rfl) 36 _ rfl (w.heap.size + 1) rfl 36 (e4 y) (fun _ h => M4.out.below h M4.out.lt) Try.underlying36 rfl (by rw [e4_size]; kernel_rfl)) ((below_dr W2)) ?_
  (try simp only [sI, sS, sZ])
  refine go_take2 2 9 #[tt,tt,tt,ff,ff,ff,ff] rfl rfl rfl (by kernel_rfl) (yieldsIf_load_row (by rfl) 36 _ rfl (w.heap.size + 1 + 1) rfl 36 (e4 z) (fun _ h => M5.out.below h M5.out.lt) Try.underlying36 rfl (by rw [e4_size]; kernel_rfl)) ((below_dr W2)) ?_
  (try simp only [sI, sS, sZ])
  refine wpBut_r1 (i := 3) (by kernel_rfl) ?_
  refine go_call 3 10 #[tt,tt,tt,tt,ff,ff,ff] rfl rfl rfl (by rfl) rfl rfl (by rfl) ent34 (by rfl) (Hint.out _) ?_
  rintro e wW21 ⟨rfl, hb⟩
  have hkW21 := held_next (below_dr W2) hb
  refine ⟨_, rfl, fun _ => hkW21, ?_⟩
  clear hb
  (try simp only [sI, sS, sZ])
  refine wpBut_r1 (i := 4) (by kernel_rfl) ?_
  refine go_call 4 11 #[tt,tt,tt,tt,tt,ff,ff] rfl rfl rfl (by rfl) rfl rfl (by rfl) ent39 (by rfl) (Hmi.out _) ?_
  rintro e wW22 ⟨m, hm, hmr, rfl, hb⟩
  have hkW22 := held_next hkW21 hb
  refine ⟨_, rfl, fun _ => hkW22, ?_⟩
  clear hb
  (try simp only [sI, sS, sZ])
  refine go_take2 5 12 #[tt,tt,tt,tt,tt,tt,ff] rfl rfl rfl (by kernel_rfl) (yieldsIf_build (by rfl) 53 _ rfl _ (by rfl) (pt x y m true) (bd53 x y m true)) (hkW22) ?_
  (try simp only [sI, sS, sZ])
  refine wpBut_r1 (i := 6) (by kernel_rfl) ?_
  obtain ⟨Zq, hZ, mZ⟩ := M6N.out.below hkW22 M6N.out.lt
  have MZ := Lib.hid mZ; clear mZ
  have HZ := Lib.hid hZ; clear hZ
  refine go_store 6 #[tt,tt,tt,tt,tt,tt,tt] rfl rfl rfl (by rfl) 53 _ _ rfl (w.heap.size + 1 + 1 + 1) _ rfl rfl 53 Zq MZ.out (by rw [pt_size]; kernel_rfl) (HZ.out.trans (pt_size ..).symm) (pt_one _ _ _ _) ⟨fun h => (h rfl).elim, ?_⟩
  (try simp only [sI, sS, sZ])
  refine wpBut_done (by kernel_rfl) (NoPanic.normal ?_)
  replace M3 := Lib.hid ((M3.out.call hkW22).setRow_other (w.heap.size + 1 + 1 + 1) (pt x y m true) (by omega))
  replace M4 := Lib.hid ((M4.out.call hkW22).setRow_other (w.heap.size + 1 + 1 + 1) (pt x y m true) (by omega))
  replace M5 := Lib.hid ((M5.out.call hkW22).setRow_other (w.heap.size + 1 + 1 + 1) (pt x y m true) (by omega))
  clear M6 M6N
  have M6 := Lib.hid (MZ.out.setRow (pt x y m true)); clear MZ HZ
  replace HB := Lib.hid (below_setRow (held_next HB.out hkW22) (w.heap.size + 1 + 1 + 1) (pt x y m true) (by omega))
  obtain ⟨yw3, hwyw3⟩ : ∃ ww, ww = wW22.setRow (w.heap.size + 1 + 1 + 1) (pt x y m true) := ⟨_, rfl⟩
  rw [← hwyw3] at M3 M4 M5 M6 HB ⊢
  clear hwyw3
  go_wp2_with fail
  exact bodyPost_ret (v := .agg (pt x y m true)) (results_cell_row (t := 53) (by rfl) _ _ (w.heap.size + 1 + 1 + 1) _ _ _ rfl M6.out Try.underlying53 rfl (by rw [pt_size]; kernel_rfl)) rfl ⟨x, y, m, true, ⟨⟨Hx.out, Hy.out, hm⟩, .inl ⟨rfl, rfl, rfl, made_res z m hmr⟩⟩, rfl, HB.out⟩

/-- the curve's d -/
def SL : Nat := 37095705934669439343138083508754565189542113879843219016388785533085940283555
theorem slope_pm : (PP - 121665) * Nm.pm PP 256 121666 (PP - 2) % PP = SL := by decide +kernel
theorem pp2_lt : PP - 2 < 2 ^ 256 := by decide +kernel
theorem slope_res (m1 m : Nat) (h1 : m1 % PP = PP - 121665) (h : m % PP = m1 * pwm 121666 (PP - 2) % PP) : m % PP = SL := by
  rw [h, mo_mul_l m1 (PP - 121665) _ (by rw [h1, Nat.mod_eq_of_lt (by have := PP_val; omega)]), pwm_pm _ _ pp2_lt, slope_pm]

set_option maxRecDepth 100000 in
set_option linter.unusedSimpArgs false in
set_option maxHeartbeats 8000000 in
theorem slope_any (w : World) : Calls Try.prog 91 #[] w (ElP SL w) := by
  have hneg := fun w => fint_neg (-121665) (by omega) (by omega) w
  rw [show ((-121665) % (PP : Int)).toNat = PP - 121665 by decide +kernel] at hneg
  have hint := fun w => fint_nn 121666 (by decide) w
  have hov := fun x hx w => over_any x 121666 hx (by decide) w
  have hres := slope_res
  have Hint := Lib.hid hint; clear hint
  have Hneg := Lib.hid hneg; clear hneg
  have Hov := Lib.hid hov; clear hov
  have Hres := Lib.hid hres; clear hres
  go_enter Try.func91, Try.ntmps91
  repeat ((fail_if_success (with_reducible (show wpList _ _ _ _ _ _))); go_step)
  (refine wpList_step (fun K hK => ?_); go_simp; (try go_bits); refine hK _ _ ?_; clear hK K)
  refine wpList_nil ?_
  have M0 := Lib.hid (HasN.new w  (#[.int .u64 0, .int .u64 0, .int .u64 0, .int .u64 0] : Array Value) 36 4 (by kernel_rfl))
  have HB := Lib.hid (below_1 w (.cells (#[.int .u64 0, .int .u64 0, .int .u64 0, .int .u64 0] : Array Value) 36))
  obtain ⟨yw1, hwyw1⟩ : ∃ ww, ww = (w.alloc (.cells (#[.int .u64 0, .int .u64 0, .int .u64 0, .int .u64 0] : Array Value) 36)) := ⟨_, rfl⟩
  rw [← hwyw1] at M0 HB ⊢
  clear hwyw1
  repeat ((fail_if_success (with_reducible (show wpList _ _ _ _ _ _))); go_step)
  refine wpList_call (by rfl) rfl rfl (by rfl) ent34 (by rfl) (Hneg.out _) 1 rfl ?_
  rintro e uw1 ⟨m1, hm1, hm1r, rfl, hb⟩
  replace M0 := Lib.hid (M0.out.call hb)
  replace HB := Lib.hid (held_next HB.out hb)
  refine ⟨_, rfl, ?_⟩
  clear hb
  (try simp only [Act.put, sI, sS, sZ])
  refine wpList_call (by rfl) rfl rfl (by rfl) ent34 (by rfl) (Hint.out _) 2 rfl ?_
  rintro e uw2 ⟨rfl, hb⟩
  replace M0 := Lib.hid (M0.out.call hb)
  replace HB := Lib.hid (held_next HB.out hb)
  refine ⟨_, rfl, ?_⟩
  clear hb
  (try simp only [Act.put, sI, sS, sZ])
  refine wpList_call (by rfl) rfl rfl (by rfl) ent42 (by rfl) (Hov.out m1 hm1 _) 3 rfl ?_
  rintro e uw3 ⟨m, hm, hmr, rfl, hb⟩
  replace M0 := Lib.hid (M0.out.call hb)
  replace HB := Lib.hid (held_next HB.out hb)
  refine ⟨_, rfl, ?_⟩
  clear hb
  (try simp only [Act.put, sI, sS, sZ])
  first | (obtain ⟨Zq, hZ, mZ⟩ := M0.out) | (obtain ⟨Zq, hZ, mZ⟩ := M0.out.toN (e4_size ..))
  refine wpList_store2 (by rfl) 36 _ _ rfl rfl (w.heap.size) (e4 m) rfl rfl 36 Zq mZ (by rw [e4_size]; kernel_rfl) (hZ.trans (e4_size ..).symm) (row_one _ _ _) ?_
  intro yw2 hw2
  replace M0 := Lib.hid (mZ.setRow (e4 m))
  replace HB := Lib.hid (below_setRow HB.out (w.heap.size) (e4 m) (by omega))
  rw [← hw2] at M0 HB; clear mZ hZ hw2
  refine wpList_nil ?_
  have hfin := Hres.out m1 m hm1r hmr
  go_wp2_with fail
  exact bodyPost_ret (v := .agg (e4 m)) (results_cell_row (t := 36) (by rfl) _ _ (w.heap.size) _ _ _ rfl M0.out Try.underlying36 rfl (by rw [e4_size]; kernel_rfl)) rfl ⟨m, hm, hfin, rfl, HB.out⟩
end Go.Proofs.Ytjiagjonlcadiaa
end
section
namespace Go.Proofs.Ytjiagjonlcadiaa
open Go.RowKit Go.Lib

theorem or_128 (a : Nat) (h : a < 128) : bits .or .u8 (a : Int) 128 = (a : Int) + 128 := by
  have : (List.range 128).all (fun a => bits .or .u8 (a : Int) 128 == (a : Int) + 128) = true := by decide +kernel
  simpa using List.all_eq_true.1 this a (by simpa using h)
theorem dg31_small (n : Nat) (h : n < 57896044618658097711785492504343953926634992332820282019728792003956564819968) : ∃ c : Nat, dg 256 n 31 = (c : Int) ∧ c < 128 := by
  refine ⟨n / 256 ^ 31 % 256, rfl, ?_⟩
  rw [show (256 : Nat) ^ 31 = 452312848583266388373324160190187140051835877600158453279131187530910662656 by decide +kernel]
  omega
theorem key_top (n : Nat) (h : n < 57896044618658097711785492504343953926634992332820282019728792003956564819968) (x : Int) (hx : x = dg 256 n 31 + 128) : row .u8 32 (upd (dg 256 n) 31 x) = k32 (n + 57896044618658097711785492504343953926634992332820282019728792003956564819968) := by
  refine row_ext _ _ _ _ fun i hi => ?_
  by_cases e : i = 31
  · subst e
    rw [upd_same, hx]
    unfold dg
    rw [show (256 : Nat) ^ 31 = 452312848583266388373324160190187140051835877600158453279131187530910662656 by decide +kernel]
    omega
  · rw [upd_ne _ _ _ _ e]
    unfold dg
    have e1 : 57896044618658097711785492504343953926634992332820282019728792003956564819968 = 256 ^ i * (256 * (128 * 256 ^ (30 - i))) := by
      rw [show 256 ^ i * (256 * (128 * 256 ^ (30 - i))) = 128 * (256 ^ i * 256 ^ (30 - i) * 256) by ac_rfl, ← Nat.pow_add, show i + (30 - i) = 30 by omega]
    rw [e1, Nat.add_mul_div_left _ _ (Nat.pow_pos (by omega)), Nat.add_mul_mod_self_left]
/-- the number of a point's text -/
def keyn (X Y Z : Nat) : Nat := Y * pwm Z (PP - 2) % PP + X * pwm Z (PP - 2) % PP % 2 * 57896044618658097711785492504343953926634992332820282019728792003956564819968
theorem keyn_odd (X Y Z : Nat) (h : X * pwm Z (PP - 2) % PP % 2 = 1) : Y * pwm Z (PP - 2) % PP + 57896044618658097711785492504343953926634992332820282019728792003956564819968 = keyn X Y Z := by unfold keyn; rw [h, Nat.one_mul]
theorem keyn_even (X Y Z : Nat) (h : X * pwm Z (PP - 2) % PP % 2 = 0) : Y * pwm Z (PP - 2) % PP = keyn X Y Z := by unfold keyn; rw [h, Nat.zero_mul, Nat.add_zero]
theorem PP_255 : PP < 57896044618658097711785492504343953926634992332820282019728792003956564819968 := by decide +kernel
theorem over_cong (x z q X Z : Nat) (hx : x % PP = X) (hz : z % PP = Z) (hq : q % PP = x * pwm z (PP - 2) % PP) : q % PP = X * pwm Z (PP - 2) % PP := by
  rw [hq, ← hx, ← hz, pwm_mod, Nat.mod_mul_mod]

set_option maxRecDepth 100000 in
set_option linter.unusedSimpArgs false in
set_option maxHeartbeats 8000000 in
theorem pkey_any (x y z1 : Nat) (b : Bool) (X Y Z : Nat) (h : IsPt x y z1 b X Y Z) (w : World) :
    Calls Try.prog 49 #[.agg (pt x y z1 b)] w fun e w' => e = .returned (.agg (k32 (keyn X Y Z))) ∧ Below w.heap.size w w' := by
  have hpl := fun w => plain_any x y z1 b X Y Z h w
  have hov := over_any
  have hkey := key_any
  have hevy := even_yes
  have hevn := even_no
  obtain ⟨QY, hQY⟩ : ∃ q, q = Y * pwm Z (PP - 2) % PP := ⟨_, rfl⟩
  obtain ⟨QX, hQX⟩ : ∃ q, q = X * pwm Z (PP - 2) % PP := ⟨_, rfl⟩
  have hQl : QY < 57896044618658097711785492504343953926634992332820282019728792003956564819968 := by rw [hQY]; exact Nat.lt_trans (Nat.mod_lt _ PP_pos) PP_255
  have hoc := over_cong
  obtain ⟨R, hR⟩ : ∃ r, r = keyn X Y Z := ⟨_, rfl⟩
  have hodd : QX % 2 = 1 → QY + 57896044618658097711785492504343953926634992332820282019728792003956564819968 = R := by intro h; rw [hQY, hR]; rw [hQX] at h; exact keyn_odd X Y Z h
  have heven : QX % 2 = 0 → QY = R := by intro h; rw [hQY, hR]; rw [hQX] at h; exact keyn_even X Y Z h
  rw [← hR]
  clear hR h
  have Hpl := Lib.hid hpl; clear hpl
  have Hov := Lib.hid hov; clear hov
  have Hkey := Lib.hid hkey; clear hkey
  have Hevy := Lib.hid hevy; clear hevy
  have Hevn := Lib.hid hevn; clear hevn
  have HQY := Lib.hid hQY; clear hQY
  have HQX := Lib.hid hQX; clear hQX
  have HQl := Lib.hid hQl; clear hQl
  have Hoc := Lib.hid hoc; clear hoc
  have Hodd := Lib.hid hodd; clear hodd
  have Heven := Lib.hid heven; clear heven
  go_enter Try.func49, Try.ntmps49
  repeat ((fail_if_success (with_reducible (show wpList _ _ _ _ _ _))); go_step)
  iterate 2 (refine wpList_step (fun K hK => ?_); go_simp; (try go_bits); refine hK _ _ ?_; clear hK K)
  refine wpList_nil ?_
  have M1 := Lib.hid ((Has.new w  (pt x y z1 b) 53).alloc (.cells (#[.int .u8 0, .int .u8 0, .int .u8 0, .int .u8 0, .int .u8 0, .int .u8 0, .int .u8 0, .int .u8 0, .int .u8 0, .int .u8 0, .int .u8 0, .int .u8 0, .int .u8 0, .int .u8 0, .int .u8 0, .int .u8 0, .int .u8 0, .int .u8 0, .int .u8 0, .int .u8 0, .int .u8 0, .int .u8 0, .int .u8 0, .int .u8 0, .int .u8 0, .int .u8 0, .int .u8 0, .int .u8 0, .int .u8 0, .int .u8 0, .int .u8 0, .int .u8 0] : Array Value) 24))
  have M2 := Lib.hid (HasN.new1 w (.cells (pt x y z1 b) 53) (#[.int .u8 0, .int .u8 0, .int .u8 0, .int .u8 0, .int .u8 0, .int .u8 0, .int .u8 0, .int .u8 0, .int .u8 0, .int .u8 0, .int .u8 0, .int .u8 0, .int .u8 0, .int .u8 0, .int .u8 0, .int .u8 0, .int .u8 0, .int .u8 0, .int .u8 0, .int .u8 0, .int .u8 0, .int .u8 0, .int .u8 0, .int .u8 0, .int .u8 0, .int .u8 0, .int .u8 0, .int .u8 0, .int .u8 0, .int .u8 0, .int .u8 0, .int .u8 0] : Array Value) 24 32 (by kernel_rfl))
  have HB := Lib.hid (below_2 w (.cells (pt x y z1 b) 53) (.cells (#[.int .u8 0, .int .u8 0, .int .u8 0, .int .u8 0, .int .u8 0, .int .u8 0, .int .u8 0, .int .u8 0, .int .u8 0, .int .u8 0, .int .u8 0, .int .u8 0, .int .u8 0, .int .u8 0, .int .u8 0, .int .u8 0, .int .u8 0, .int .u8 0, .int .u8 0, .int .u8 0, .int .u8 0, .int .u8 0, .int .u8 0, .int .u8 0, .int .u8 0, .int .u8 0, .int .u8 0, .int .u8 0, .int .u8 0, .int .u8 0, .int .u8 0, .int .u8 0] : Array Value) 24))
  obtain ⟨yw1, hwyw1⟩ : ∃ ww, ww = ((w.alloc (.cells (pt x y z1 b) 53)).alloc (.cells (#[.int .u8 0, .int .u8 0, .int .u8 0, .int .u8 0, .int .u8 0, .int .u8 0, .int .u8 0, .int .u8 0, .int .u8 0, .int .u8 0, .int .u8 0, .int .u8 0, .int .u8 0, .int .u8 0, .int .u8 0, .int .u8 0, .int .u8 0, .int .u8 0, .int .u8 0, .int .u8 0, .int .u8 0, .int .u8 0, .int .u8 0, .int .u8 0, .int .u8 0, .int .u8 0, .int .u8 0, .int .u8 0, .int .u8 0, .int .u8 0, .int .u8 0, .int .u8 0] : Array Value) 24)) := ⟨_, rfl⟩
  rw [← hwyw1] at M1 M2 HB ⊢
  clear hwyw1
  repeat ((fail_if_success (with_reducible (show wpList _ _ _ _ _ _))); go_step)
  refine wpList_load (by rfl) 53 _ rfl (w.heap.size) rfl 53 (pt x y z1 b) M1.out Try.underlying53 rfl (by rw [pt_size]; kernel_rfl) 8 rfl ?_
  (try simp only [Act.put, sI, sS, sZ])
  refine wpList_call (by rfl) rfl rfl (by rfl) ent90 (by rfl) (Hpl.out _) 9 rfl ?_
  rintro e uw1 ⟨mx, my, mz, ⟨hmx, hmy, hmz⟩, ⟨hrx, hry, hrz⟩, rfl, hb⟩
  replace M1 := Lib.hid (M1.out.call hb)
  replace M2 := Lib.hid (M2.out.call hb)
  replace HB := Lib.hid (held_next HB.out hb)
  refine ⟨_, rfl, ?_⟩
  clear hb
  (try simp only [Act.put, sI, sS, sZ])
  iterate 4 (refine wpList_step (fun K hK => ?_); go_simp; (try go_bits); refine hK _ _ ?_; clear hK K)
  refine wpList_alloc (by rfl) 36 rfl _ al36 3 rfl ?_
  intro yw2 hw2
  have hlt3 := M1.out.lt
  have hlt4 := M2.out.lt
  have hsz := HB.out.size
  replace M1 := Lib.hid (M1.out.alloc (.cells z36 36))
  replace M2 := Lib.hid (M2.out.alloc (.cells z36 36))
  have M3 := Lib.hid (HasN.new uw1 z36 36 4 (by kernel_rfl))
  replace HB := Lib.hid (HB.out.alloc hsz (.cells z36 36))
  rw [← hw2] at M1 M2 M3 HB; clear hw2
  (try simp only [Act.put, sI, sS, sZ])
  refine wpList_alloc (by rfl) 36 rfl _ al36 4 rfl ?_
  intro yw5 hw2
  have hlt6 := M1.out.lt
  have hlt7 := M2.out.lt
  have hlt8 := M3.out.lt
  have hsz := HB.out.size
  replace M1 := Lib.hid (M1.out.alloc (.cells z36 36))
  replace M2 := Lib.hid (M2.out.alloc (.cells z36 36))
  replace M3 := Lib.hid (M3.out.alloc (.cells z36 36))
  have M4 := Lib.hid (HasN.new yw2 z36 36 4 (by kernel_rfl))
  replace HB := Lib.hid (HB.out.alloc hsz (.cells z36 36))
  rw [← hw2] at M1 M2 M3 M4 HB; clear hw2
  (try simp only [Act.put, sI, sS, sZ])
  refine wpList_alloc (by rfl) 36 rfl _ al36 5 rfl ?_
  intro yw9 hw2
  have hlt10 := M1.out.lt
  have hlt11 := M2.out.lt
  have hlt12 := M3.out.lt
  have hlt13 := M4.out.lt
  have hsz := HB.out.size
  replace M1 := Lib.hid (M1.out.alloc (.cells z36 36))
  replace M2 := Lib.hid (M2.out.alloc (.cells z36 36))
  replace M3 := Lib.hid (M3.out.alloc (.cells z36 36))
  replace M4 := Lib.hid (M4.out.alloc (.cells z36 36))
  have M5 := Lib.hid (HasN.new yw5 z36 36 4 (by kernel_rfl))
  replace HB := Lib.hid (HB.out.alloc hsz (.cells z36 36))
  rw [← hw2] at M1 M2 M3 M4 M5 HB; clear hw2
  (try simp only [Act.put, sI, sS, sZ])
  first | (obtain ⟨Zq, hZ, mZ⟩ := M3.out) | (obtain ⟨Zq, hZ, mZ⟩ := M3.out.toN (e4_size ..))
  refine wpList_store2 (by rfl) 36 _ _ rfl rfl (uw1.heap.size) (e4 mx) rfl rfl 36 Zq mZ (by rw [e4_size]; kernel_rfl) (hZ.trans (e4_size ..).symm) (row_one _ _ _) ?_
  intro yw14 hw2
  replace M1 := Lib.hid (M1.out.setRow_other (uw1.heap.size) (e4 mx) (by omega))
  replace M2 := Lib.hid (M2.out.setRow_other (uw1.heap.size) (e4 mx) (by omega))
  replace M4 := Lib.hid (M4.out.setRow_other (uw1.heap.size) (e4 mx) (by omega))
  replace M5 := Lib.hid (M5.out.setRow_other (uw1.heap.size) (e4 mx) (by omega))
  replace M3 := Lib.hid (mZ.setRow (e4 mx))
  replace HB := Lib.hid (below_setRow HB.out (uw1.heap.size) (e4 mx) (by omega))
  rw [← hw2] at M1 M2 M4 M5 M3 HB; clear mZ hZ hw2
  first | (obtain ⟨Zq, hZ, mZ⟩ := M4.out) | (obtain ⟨Zq, hZ, mZ⟩ := M4.out.toN (e4_size ..))
  refine wpList_store2 (by rfl) 36 _ _ rfl rfl (yw2.heap.size) (e4 my) rfl rfl 36 Zq mZ (by rw [e4_size]; kernel_rfl) (hZ.trans (e4_size ..).symm) (row_one _ _ _) ?_
  intro yw15 hw2
  replace M1 := Lib.hid (M1.out.setRow_other (yw2.heap.size) (e4 my) (by omega))
  replace M2 := Lib.hid (M2.out.setRow_other (yw2.heap.size) (e4 my) (by omega))
  replace M3 := Lib.hid (M3.out.setRow_other (yw2.heap.size) (e4 my) (by omega))
  replace M5 := Lib.hid (M5.out.setRow_other (yw2.heap.size) (e4 my) (by omega))
  replace M4 := Lib.hid (mZ.setRow (e4 my))
  replace HB := Lib.hid (below_setRow HB.out (yw2.heap.size) (e4 my) (by omega))
  rw [← hw2] at M1 M2 M3 M5 M4 HB; clear mZ hZ hw2
  first | (obtain ⟨Zq, hZ, mZ⟩ := M5.out) | (obtain ⟨Zq, hZ, mZ⟩ := M5.out.toN (e4_size ..))
  refine wpList_store2 (by rfl) 36 _ _ rfl rfl (yw5.heap.size) (e4 mz) rfl rfl 36 Zq mZ (by rw [e4_size]; kernel_rfl) (hZ.trans (e4_size ..).symm) (row_one _ _ _) ?_
  intro yw16 hw2
  replace M1 := Lib.hid (M1.out.setRow_other (yw5.heap.size) (e4 mz) (by omega))
  replace M2 := Lib.hid (M2.out.setRow_other (yw5.heap.size) (e4 mz) (by omega))
  replace M3 := Lib.hid (M3.out.setRow_other (yw5.heap.size) (e4 mz) (by omega))
  replace M4 := Lib.hid (M4.out.setRow_other (yw5.heap.size) (e4 mz) (by omega))
  replace M5 := Lib.hid (mZ.setRow (e4 mz))
  replace HB := Lib.hid (below_setRow HB.out (yw5.heap.size) (e4 mz) (by omega))
  rw [← hw2] at M1 M2 M3 M4 M5 HB; clear mZ hZ hw2
  refine wpList_nil ?_
  have Hrx := Lib.hid hrx; clear hrx
  have Hry := Lib.hid hry; clear hry
  have Hrz := Lib.hid hrz; clear hrz
  repeat ((fail_if_success (with_reducible (show wpList _ _ _ _ _ _))); go_step)
  refine wpList_load (by rfl) 36 _ rfl (yw2.heap.size) rfl 36 (e4 my) M4.out Try.underlying36 rfl (by rw [e4_size]; kernel_rfl) 13 rfl ?_
  (try simp only [Act.put, sI, sS, sZ])
  refine wpList_load (by rfl) 36 _ rfl (yw5.heap.size) rfl 36 (e4 mz) M5.out Try.underlying36 rfl (by rw [e4_size]; kernel_rfl) 14 rfl ?_
  (try simp only [Act.put, sI, sS, sZ])
  refine wpList_call (by rfl) rfl rfl (by rfl) ent42 (by rfl) (Hov.out my mz hmy hmz _) 15 rfl ?_
  rintro e uw2 ⟨q1, hq1, hq1r, rfl, hb⟩
  replace M1 := Lib.hid (M1.out.call hb)
  replace M2 := Lib.hid (M2.out.call hb)
  replace M3 := Lib.hid (M3.out.call hb)
  replace M4 := Lib.hid (M4.out.call hb)
  replace M5 := Lib.hid (M5.out.call hb)
  replace HB := Lib.hid (held_next HB.out hb)
  have hq1s := (Hoc.out my mz q1 Y Z Hry.out Hrz.out hq1r).trans HQY.out.symm
  clear hq1r
  have Hq1 := Lib.hid hq1s; clear hq1s
  refine ⟨_, rfl, ?_⟩
  clear hb
  (try simp only [Act.put, sI, sS, sZ])
  refine wpList_call (by rfl) rfl rfl (by rfl) ent73 (by rfl) (Hkey.out q1 hq1 _) 16 rfl ?_
  rintro e uw3 ⟨rfl, hb⟩
  replace M1 := Lib.hid (M1.out.call hb)
  replace M2 := Lib.hid (M2.out.call hb)
  replace M3 := Lib.hid (M3.out.call hb)
  replace M4 := Lib.hid (M4.out.call hb)
  replace M5 := Lib.hid (M5.out.call hb)
  replace HB := Lib.hid (held_next HB.out hb)
  rw [Hq1.out]
  refine ⟨_, rfl, ?_⟩
  clear hb
  (try simp only [Act.put, sI, sS, sZ])
  refine wpList_alloc (by rfl) 24 rfl _ al24 6 rfl ?_
  intro yw17 hw2
  have hlt18 := M1.out.lt
  have hlt19 := M2.out.lt
  have hlt20 := M3.out.lt
  have hlt21 := M4.out.lt
  have hlt22 := M5.out.lt
  have hsz := HB.out.size
  replace M1 := Lib.hid (M1.out.alloc (.cells z24 24))
  replace M2 := Lib.hid (M2.out.alloc (.cells z24 24))
  replace M3 := Lib.hid (M3.out.alloc (.cells z24 24))
  replace M4 := Lib.hid (M4.out.alloc (.cells z24 24))
  replace M5 := Lib.hid (M5.out.alloc (.cells z24 24))
  have M6 := Lib.hid (HasN.new uw3 z24 24 32 (by kernel_rfl))
  replace HB := Lib.hid (HB.out.alloc hsz (.cells z24 24))
  rw [← hw2] at M1 M2 M3 M4 M5 M6 HB; clear hw2
  (try simp only [Act.put, sI, sS, sZ])
  first | (obtain ⟨Zq, hZ, mZ⟩ := M6.out) | (obtain ⟨Zq, hZ, mZ⟩ := M6.out.toN (k32_size ..))
  refine wpList_store2 (by rfl) 24 _ _ rfl rfl (uw3.heap.size) (k32 QY) rfl rfl 24 Zq mZ (by rw [k32_size]; kernel_rfl) (hZ.trans (k32_size ..).symm) (row_one _ _ _) ?_
  intro yw23 hw2
  replace M1 := Lib.hid (M1.out.setRow_other (uw3.heap.size) (k32 QY) (by omega))
  replace M2 := Lib.hid (M2.out.setRow_other (uw3.heap.size) (k32 QY) (by omega))
  replace M3 := Lib.hid (M3.out.setRow_other (uw3.heap.size) (k32 QY) (by omega))
  replace M4 := Lib.hid (M4.out.setRow_other (uw3.heap.size) (k32 QY) (by omega))
  replace M5 := Lib.hid (M5.out.setRow_other (uw3.heap.size) (k32 QY) (by omega))
  replace M6 := Lib.hid (mZ.setRow (k32 QY))
  replace HB := Lib.hid (below_setRow HB.out (uw3.heap.size) (k32 QY) (by omega))
  rw [← hw2] at M1 M2 M3 M4 M5 M6 HB; clear mZ hZ hw2
  refine wpList_nil ?_
  repeat ((fail_if_success (with_reducible (show wpList _ _ _ _ _ _))); go_step)
  refine wpList_load (by rfl) 36 _ rfl (uw1.heap.size) rfl 36 (e4 mx) M3.out Try.underlying36 rfl (by rw [e4_size]; kernel_rfl) 17 rfl ?_
  (try simp only [Act.put, sI, sS, sZ])
  refine wpList_load (by rfl) 36 _ rfl (yw5.heap.size) rfl 36 (e4 mz) M5.out Try.underlying36 rfl (by rw [e4_size]; kernel_rfl) 18 rfl ?_
  (try simp only [Act.put, sI, sS, sZ])
  refine wpList_call (by rfl) rfl rfl (by rfl) ent42 (by rfl) (Hov.out mx mz hmx hmz _) 19 rfl ?_
  rintro e uw4 ⟨q2, hq2, hq2r, rfl, hb⟩
  replace M1 := Lib.hid (M1.out.call hb)
  replace M2 := Lib.hid (M2.out.call hb)
  replace M3 := Lib.hid (M3.out.call hb)
  replace M4 := Lib.hid (M4.out.call hb)
  replace M5 := Lib.hid (M5.out.call hb)
  replace M6 := Lib.hid (M6.out.call hb)
  replace HB := Lib.hid (held_next HB.out hb)
  have hq2s := (Hoc.out mx mz q2 X Z Hrx.out Hrz.out hq2r).trans HQX.out.symm
  clear hq2r
  have Hq2 := Lib.hid hq2s; clear hq2s
  refine ⟨_, rfl, ?_⟩
  clear hb
  (try simp only [Act.put, sI, sS, sZ])
  
  rcases Nat.mod_two_eq_zero_or_one QX with hp | hp
  · have hE := Heven.out hp
    have hev := fun w => Hevy.out q2 hq2 (by rw [Hq2.out]; exact hp) w
    have HE := Lib.hid hE; clear hE
    have Hev := Lib.hid hev; clear hev
    have Hp := Lib.hid hp; clear hp
    refine wpList_call (by rfl) rfl rfl (by rfl) ent36 (by rfl) (Hev.out _) 20 rfl ?_
    rintro e uw5 ⟨rfl, hb⟩
    replace M1 := Lib.hid (M1.out.call hb)
    replace M2 := Lib.hid (M2.out.call hb)
    replace M3 := Lib.hid (M3.out.call hb)
    replace M4 := Lib.hid (M4.out.call hb)
    replace M5 := Lib.hid (M5.out.call hb)
    replace M6 := Lib.hid (M6.out.call hb)
    replace HB := Lib.hid (held_next HB.out hb)
    refine ⟨_, rfl, ?_⟩
    clear hb
    (try simp only [Act.put, sI, sS, sZ])
    (refine wpList_step (fun K hK => ?_); go_simp; (try go_bits); refine hK _ _ ?_; clear hK K)
    refine wpList_nil ?_
    repeat ((fail_if_success (with_reducible (show wpList _ _ _ _ _ _))); go_step)
    refine wpList_load (by rfl) 24 _ rfl (uw3.heap.size) rfl 24 (k32 QY) M6.out Try.underlying24 rfl (by rw [k32_size]; kernel_rfl) 26 rfl ?_
    (try simp only [Act.put, sI, sS, sZ])
    first | (obtain ⟨Zq, hZ, mZ⟩ := M2.out) | (obtain ⟨Zq, hZ, mZ⟩ := M2.out.toN (k32_size ..))
    refine wpList_store2 (by rfl) 24 _ _ rfl rfl (w.heap.size + 1) (k32 QY) rfl rfl 24 Zq mZ (by rw [k32_size]; kernel_rfl) (hZ.trans (k32_size ..).symm) (row_one _ _ _) ?_
    intro yw24 hw2
    replace M1 := Lib.hid (M1.out.setRow_other (w.heap.size + 1) (k32 QY) (by omega))
    replace M3 := Lib.hid (M3.out.setRow_other (w.heap.size + 1) (k32 QY) (by omega))
    replace M4 := Lib.hid (M4.out.setRow_other (w.heap.size + 1) (k32 QY) (by omega))
    replace M5 := Lib.hid (M5.out.setRow_other (w.heap.size + 1) (k32 QY) (by omega))
    replace M6 := Lib.hid (M6.out.setRow_other (w.heap.size + 1) (k32 QY) (by omega))
    replace M2 := Lib.hid (mZ.setRow (k32 QY))
    replace HB := Lib.hid (below_setRow HB.out (w.heap.size + 1) (k32 QY) (by omega))
    rw [← hw2] at M1 M3 M4 M5 M6 M2 HB; clear mZ hZ hw2
    refine wpList_nil ?_
    go_wp2_with fail
    exact bodyPost_ret (v := .agg (k32 QY)) (results_cell_row (t := 24) (by rfl) _ _ (w.heap.size + 1) _ _ _ rfl M2.out Try.underlying24 rfl (by rw [k32_size]; kernel_rfl)) rfl ⟨by rw [HE.out], HB.out⟩
  · have hE := Hodd.out hp
    have hev := fun w => Hevn.out q2 hq2 (by rw [Hq2.out]; exact hp) w
    obtain ⟨c, hc, hcl⟩ := dg31_small QY HQl.out
    have hor := or_128 c hcl
    have hkt := key_top QY HQl.out ((c : Int) + 128) (by rw [hc])
    have HE := Lib.hid hE; clear hE
    have Hev := Lib.hid hev; clear hev
    have Hp := Lib.hid hp; clear hp
    have Hkt := Lib.hid hkt; clear hkt
    have Hc := Lib.hid hc; clear hc
    refine wpList_call (by rfl) rfl rfl (by rfl) ent36 (by rfl) (Hev.out _) 20 rfl ?_
    rintro e uw5 ⟨rfl, hb⟩
    replace M1 := Lib.hid (M1.out.call hb)
    replace M2 := Lib.hid (M2.out.call hb)
    replace M3 := Lib.hid (M3.out.call hb)
    replace M4 := Lib.hid (M4.out.call hb)
    replace M5 := Lib.hid (M5.out.call hb)
    replace M6 := Lib.hid (M6.out.call hb)
    replace HB := Lib.hid (held_next HB.out hb)
    refine ⟨_, rfl, ?_⟩
    clear hb
    (try simp only [Act.put, sI, sS, sZ])
    (refine wpList_step (fun K hK => ?_); go_simp; (try go_bits); refine hK _ _ ?_; clear hK K)
    refine wpList_nil ?_
    repeat ((fail_if_success (with_reducible (show wpList _ _ _ _ _ _))); go_step)
    have h1 := M6.out.cell 31 (by omega)
    rw [Hc.out] at h1
    have hfz := M6.out.frozen 31
    iterate 5 (refine wpList_step (fun K hK => ?_); go_simp; (try go_bits); refine hK _ _ ?_; clear hK K)
    refine wpList_nil ?_
    clear h1 hfz
    have kq := M6.out.set 31 ((c : Int) + 128); rw [Hkt.out] at kq; clear M6; have M6 := Lib.hid kq; clear kq
    have kq := M1.out.other ⟨uw3.heap.size, 31, none⟩ (.int .u8 ((c : Int) + 128)) (by simp <;> omega); clear M1; have M1 := Lib.hid kq; clear kq
    have kq := M2.out.other ⟨uw3.heap.size, 31, none⟩ (.int .u8 ((c : Int) + 128)) (by simp <;> omega); clear M2; have M2 := Lib.hid kq; clear kq
    have kq := M3.out.other ⟨uw3.heap.size, 31, none⟩ (.int .u8 ((c : Int) + 128)) (by simp <;> omega); clear M3; have M3 := Lib.hid kq; clear kq
    have kq := M4.out.other ⟨uw3.heap.size, 31, none⟩ (.int .u8 ((c : Int) + 128)) (by simp <;> omega); clear M4; have M4 := Lib.hid kq; clear kq
    have kq := M5.out.other ⟨uw3.heap.size, 31, none⟩ (.int .u8 ((c : Int) + 128)) (by simp <;> omega); clear M5; have M5 := Lib.hid kq; clear kq
    replace HB := Lib.hid (HB.out.setCell (p := ⟨uw3.heap.size, 31, none⟩) (show w.heap.size ≤ uw3.heap.size by omega) (.int .u8 ((c : Int) + 128)))
    obtain ⟨yw24, hwyw24⟩ : ∃ ww, ww = uw5.setCell ⟨uw3.heap.size, 31, none⟩ (.int .u8 ((c : Int) + 128)) := ⟨_, rfl⟩
    rw [← hwyw24] at M1 M2 M3 M4 M5 M6 HB ⊢
    clear hwyw24
    repeat ((fail_if_success (with_reducible (show wpList _ _ _ _ _ _))); go_step)
    refine wpList_load (by rfl) 24 _ rfl (uw3.heap.size) rfl 24 (k32 (QY + 57896044618658097711785492504343953926634992332820282019728792003956564819968)) M6.out Try.underlying24 rfl (by rw [k32_size]; kernel_rfl) 26 rfl ?_
    (try simp only [Act.put, sI, sS, sZ])
    first | (obtain ⟨Zq, hZ, mZ⟩ := M2.out) | (obtain ⟨Zq, hZ, mZ⟩ := M2.out.toN (k32_size ..))
    refine wpList_store2 (by rfl) 24 _ _ rfl rfl (w.heap.size + 1) (k32 (QY + 57896044618658097711785492504343953926634992332820282019728792003956564819968)) rfl rfl 24 Zq mZ (by rw [k32_size]; kernel_rfl) (hZ.trans (k32_size ..).symm) (row_one _ _ _) ?_
    intro yw25 hw2
    replace M1 := Lib.hid (M1.out.setRow_other (w.heap.size + 1) (k32 (QY + 57896044618658097711785492504343953926634992332820282019728792003956564819968)) (by omega))
    replace M3 := Lib.hid (M3.out.setRow_other (w.heap.size + 1) (k32 (QY + 57896044618658097711785492504343953926634992332820282019728792003956564819968)) (by omega))
    replace M4 := Lib.hid (M4.out.setRow_other (w.heap.size + 1) (k32 (QY + 57896044618658097711785492504343953926634992332820282019728792003956564819968)) (by omega))
    replace M5 := Lib.hid (M5.out.setRow_other (w.heap.size + 1) (k32 (QY + 57896044618658097711785492504343953926634992332820282019728792003956564819968)) (by omega))
    replace M6 := Lib.hid (M6.out.setRow_other (w.heap.size + 1) (k32 (QY + 57896044618658097711785492504343953926634992332820282019728792003956564819968)) (by omega))
    replace M2 := Lib.hid (mZ.setRow (k32 (QY + 57896044618658097711785492504343953926634992332820282019728792003956564819968)))
    replace HB := Lib.hid (below_setRow HB.out (w.heap.size + 1) (k32 (QY + 57896044618658097711785492504343953926634992332820282019728792003956564819968)) (by omega))
    rw [← hw2] at M1 M3 M4 M5 M6 M2 HB; clear mZ hZ hw2
    refine wpList_nil ?_
    go_wp2_with fail
    exact bodyPost_ret (v := .agg (k32 (QY + 57896044618658097711785492504343953926634992332820282019728792003956564819968))) (results_cell_row (t := 24) (by rfl) _ _ (w.heap.size + 1) _ _ _ rfl M2.out Try.underlying24 rfl (by rw [k32_size]; kernel_rfl)) rfl ⟨by rw [HE.out], HB.out⟩
end Go.Proofs.Ytjiagjonlcadiaa
end
