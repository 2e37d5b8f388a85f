/- The program's field: Root. -/
import Derived.Test.YtjiagjonlcadiaaFldL
import Derived.Test.YtjiagjonlcadiaaRootM
namespace Go.Proofs.Ytjiagjonlcadiaa
open Go.RowKit Go.Lib

theorem is_yes (a b : Nat) (ha : a < 115792089237316195423570985008687907853269984665640564039457584007913129639936) (hb : b < 115792089237316195423570985008687907853269984665640564039457584007913129639936) (h : a % PP = b % PP) (w : World) :
    Calls Try.prog 41 #[.agg (e4 a), .agg (e4 b)] w fun e w' => e = .returned (.bool true) ∧ Below w.heap.size w w' := by
  have := is_any a b ha hb w
  rwa [decide_eq_true h] at this
theorem is_no (a b : Nat) (ha : a < 115792089237316195423570985008687907853269984665640564039457584007913129639936) (hb : b < 115792089237316195423570985008687907853269984665640564039457584007913129639936) (h : ¬ a % PP = b % PP) (w : World) :
    Calls Try.prog 41 #[.agg (e4 a), .agg (e4 b)] w fun e w' => e = .returned (.bool false) ∧ Below w.heap.size w w' := by
  have := is_any a b ha hb w
  rwa [decide_eq_false h] at this
theorem even_yes (a : Nat) (ha : a < 115792089237316195423570985008687907853269984665640564039457584007913129639936) (h : a % PP % 2 = 0) (w : World) :
    Calls Try.prog 36 #[.agg (e4 a)] w fun e w' => e = .returned (.bool true) ∧ Below w.heap.size w w' := by
  have := even_any a ha w
  rwa [show (a % PP % 2 == 0) = true by rw [h]; rfl] at this
theorem even_no (a : Nat) (ha : a < 115792089237316195423570985008687907853269984665640564039457584007913129639936) (h : a % PP % 2 = 1) (w : World) :
    Calls Try.prog 36 #[.agg (e4 a)] w fun e w' => e = .returned (.bool false) ∧ Below w.heap.size w w' := by
  have := even_any a ha w
  rwa [show (a % PP % 2 == 0) = false by rw [h]; rfl] at this

/-- a root's element, and whether it is one -/
def RtP (A : Nat) (w : World) (e : Ending) (w' : World) : Prop := ∃ m : Nat, m < 115792089237316195423570985008687907853269984665640564039457584007913129639936 ∧ m % PP = rt3 A ∧ e = .returned (.tuple #[.agg (e4 m), .bool (rtok A)]) ∧ Below w.heap.size w w'

theorem rt1_exp : (PP + 3) / 2 / 2 / 2 = 7237005577332262213973186563042994240829374041602535252466099000494570602494 := by decide +kernel
theorem rti_exp : (PP - 1 % PP) / 2 / 2 = 14474011154664524427946373126085988481658748083205070504932198000989141204987 := by decide +kernel
theorem rt1_def (a : Nat) : rt1 a = pwm a ((PP + 3) / 2 / 2 / 2) := by delta rt1; exact rfl
theorem p_root (a n1 n2 n3 n4 : Nat) (h1 : n1 % PP = pwm a 1809251394333065553493296640760748560207343510400633813116524750123642650623) (h2 : n2 % PP = pwm n1 4) (h3 : n3 % PP = n2 * a % PP) (h4 : n4 % PP = n3 * a % PP) : n4 % PP = rt1 (a % PP) := by
  have k2 := pw_go a n1 1809251394333065553493296640760748560207343510400633813116524750123642650623 4 n2 7237005577332262213973186563042994240829374041602535252466099000494570602492 h1 h2 (by decide +kernel)
  have k3 := pw_by a n2 a 7237005577332262213973186563042994240829374041602535252466099000494570602492 1 n3 7237005577332262213973186563042994240829374041602535252466099000494570602493 k2 (pw_self a) h3 (by decide +kernel)
  have k4 := pw_by a n3 a 7237005577332262213973186563042994240829374041602535252466099000494570602493 1 n4 7237005577332262213973186563042994240829374041602535252466099000494570602494 k3 (pw_self a) h4 (by decide +kernel)
  rw [rt1_def, pwm_mod, rt1_exp, k4]
theorem p_two (r n4 n5 n6 n7 n8 n9 n10 : Nat) (hr : n4 % PP = r) (h5 : n5 % PP = pwm 2 1809251394333065553493296640760748560207343510400633813116524750123642650623) (h6 : n6 % PP = pwm n5 8) (h7 : n7 % PP = pwm 2 2) (h8 : n8 % PP = n6 * n7 % PP) (h9 : n9 % PP = n8 * 2 % PP) (h10 : n10 % PP = n4 * n9 % PP) : n10 % PP = r * rti % PP := by
  have k6 := pw_go 2 n5 1809251394333065553493296640760748560207343510400633813116524750123642650623 8 n6 14474011154664524427946373126085988481658748083205070504932198000989141204984 h5 h6 (by decide +kernel)
  have k8 := pw_by 2 n6 n7 14474011154664524427946373126085988481658748083205070504932198000989141204984 2 n8 14474011154664524427946373126085988481658748083205070504932198000989141204986 k6 h7 h8 (by decide +kernel)
  have k9 := pw_by 2 n8 2 14474011154664524427946373126085988481658748083205070504932198000989141204986 1 n9 14474011154664524427946373126085988481658748083205070504932198000989141204987 k8 (pw_self 2) h9 (by decide +kernel)
  rw [rti_def, pwm_mod, rti_exp, h10, Nat.mul_mod, hr, k9]
theorem rt2_yes (a : Nat) (h : rt1 a * rt1 a % PP = a) : rt2 a = rt1 a := by unfold rt2; rw [if_pos h]
theorem rt2_no (a : Nat) (h : ¬ rt1 a * rt1 a % PP = a) : rt2 a = rt1 a * rti % PP := by unfold rt2; rw [if_neg h]
theorem rt3_odd (a : Nat) (h : rt2 a * rt2 a % PP = a) (ho : rt2 a % 2 = 1) : rt3 a = (0 % PP + (PP - rt2 a)) % PP ∧ rtok a = true := by
  have h1 : rtok a = true := by unfold rtok; exact decide_eq_true h
  refine ⟨?_, h1⟩
  unfold rt3
  have := rt2_lt a
  rw [h1, if_pos rfl, if_pos ho, Nat.zero_mod, Nat.zero_add, Nat.mod_eq_of_lt (by omega)]
theorem rt3_evn (a : Nat) (h : rt2 a * rt2 a % PP = a) (ho : ¬ rt2 a % 2 = 1) : rt3 a = rt2 a ∧ rtok a = true := by
  have h1 : rtok a = true := by unfold rtok; exact decide_eq_true h
  refine ⟨?_, h1⟩
  unfold rt3
  rw [h1, if_pos rfl, if_neg ho]
theorem rt3_non (a : Nat) (h : ¬ rt2 a * rt2 a % PP = a) : 0 % PP = rt3 a ∧ rtok a = false := by
  have h1 : rtok a = false := by unfold rtok; exact decide_eq_false h
  refine ⟨?_, h1⟩
  unfold rt3
  rw [h1, if_neg (by decide), Nat.zero_mod]
theorem two_256 : 2 < 115792089237316195423570985008687907853269984665640564039457584007913129639936 := by decide
set_option maxRecDepth 100000 in
set_option linter.unusedSimpArgs false in
set_option maxHeartbeats 8000000 in
theorem froot_any (a : Nat) (ha : a < 115792089237316195423570985008687907853269984665640564039457584007913129639936) (w : World) :
    Calls Try.prog 44 #[.agg (e4 a)] w (RtP (a % PP) w) := by
  have hpw := power_any
  have hs1 := squares_1
  have hs2 := squares_2
  have hs3 := squares_3
  have ht := fun x y hx hy w => times_any x y hx hy w
  have hmin := fun x y hx hy w => minus_any x y hx hy w
  have hint := fun w => fint_nn 2 (by decide) w
  have hpr := p_root a
  have hyes := is_yes
  have hnot := is_no
  have hevy := even_yes
  have hevn := even_no
  have hz0 := e4_zero
  obtain ⟨A, hA⟩ : ∃ A, A = a % PP := ⟨_, rfl⟩
  rw [← hA] at hpr ⊢
  have Hpw := Lib.hid hpw; clear hpw
  have Hs1 := Lib.hid hs1; clear hs1
  have Hs2 := Lib.hid hs2; clear hs2
  have Hs3 := Lib.hid hs3; clear hs3
  have Ht := Lib.hid ht; clear ht
  have Hmin := Lib.hid hmin; clear hmin
  have Hint := Lib.hid hint; clear hint
  have Hpr := Lib.hid hpr; clear hpr
  have Hyes := Lib.hid hyes; clear hyes
  have Hnot := Lib.hid hnot; clear hnot
  have Hevy := Lib.hid hevy; clear hevy
  have Hevn := Lib.hid hevn; clear hevn
  have Hz0 := Lib.hid hz0; clear hz0
  have Ha := Lib.hid ha; clear ha
  have HA := Lib.hid hA; clear hA
  go_enter Try.func44, Try.ntmps44
  repeat ((fail_if_success (with_reducible (show wpList _ _ _ _ _ _))); go_step)
  refine wpList_step (fun K hK => ?_)
  go_simp
  (try go_bits)
  refine hK _ _ ?_
  clear hK K
  refine wpList_step (fun K hK => ?_)
  go_simp
  (try go_bits)
  refine hK _ _ ?_
  clear hK K
  refine wpList_step (fun K hK => ?_)
  go_simp
  (try go_bits)
  refine hK _ _ ?_
  clear hK K
  refine wpList_nil ?_
  have M1 := Lib.hid ((Has.new w  (e4 a) 36).alloc (.cells (#[.int .u64 0, .int .u64 0, .int .u64 0, .int .u64 0] : Array Value) 36))
  have M2 := Lib.hid (HasN.new1 w (.cells (e4 a) 36) (#[.int .u64 0, .int .u64 0, .int .u64 0, .int .u64 0] : Array Value) 36 4 (by kernel_rfl))
  have HB := Lib.hid (below_2 w (.cells (e4 a) 36) (.cells (#[.int .u64 0, .int .u64 0, .int .u64 0, .int .u64 0] : Array Value) 36))
  repeat ((fail_if_success (with_reducible (show wpList _ _ _ _ _ _))); go_step)
  refine wp_region_meet (α := Nat × Nat × Nat × Nat × Nat) (fun W0 x w' => x.2.2.2.2 < 115792089237316195423570985008687907853269984665640564039457584007913129639936 ∧ x.2.2.2.2 % PP = rt1 A ∧ W0.heap.size ≤ x.1 ∧ Has w' x.1 (e4 x.2.2.2.2) 36 ∧ Below W0.heap.size W0 w') (fun ac x => ((((((((ac.put (some 6) (.agg (e4 a))).put (some 7) (.agg (e4 x.2.1))).put (some 8) (.agg (e4 x.2.2.1))).put (some 9) (.agg (e4 a))).put (some 10) (.agg (e4 x.2.2.2.1))).put (some 11) (.agg (e4 a))).put (some 12) (.agg (e4 x.2.2.2.2))).put (some 4) (.pointer (some ⟨x.1, 0, none⟩)))) ?_ ?_
  · intro Q' hQ'
    refine wp_region_noPanic ?_
    refine wp_region_go 99 9 #[false, false, false, false, false, false, false, false, false] (by kernel_rfl) rfl rfl ?_
    intro W1 hW1
    rw [← hW1] at hQ'
    simp only [Act.put, List.setIfInBounds_toArray, List.set_cons_succ, List.set_cons_zero] at hQ'
    have HQ := Lib.hid hQ'; clear hQ'
    have kq := M1.out; rw [← hW1] at kq; clear M1; have M1 := Lib.hid kq; clear kq
    have kq := M2.out; rw [← hW1] at kq; clear M2; have M2 := Lib.hid kq; clear kq
    have kq := HB.out; rw [← hW1] at kq; clear HB; have HB := Lib.hid kq; clear kq
    clear hW1
    refine go_take2 0 6 #[true, false, false, false, false, false, false, false, false] rfl rfl rfl (by kernel_rfl) (yieldsIf_load_row (by rfl) 36 _ rfl (w.heap.size) rfl 36 (e4 a) (fun _ h => M1.out.below h M1.out.lt) Try.underlying36 rfl (by rw [e4_size]; kernel_rfl)) ((below_dr W1)) ?_
    (try simp only [sI, sS, sZ])
    refine go_take2 3 9 #[true, false, false, true, false, false, false, false, false] rfl rfl rfl (by kernel_rfl) (yieldsIf_load_row (by rfl) 36 _ rfl (w.heap.size) rfl 36 (e4 a) (fun _ h => M1.out.below h M1.out.lt) Try.underlying36 rfl (by rw [e4_size]; kernel_rfl)) ((below_dr W1)) ?_
    (try simp only [sI, sS, sZ])
    refine go_take2 5 11 #[true, false, false, true, false, true, false, false, false] rfl rfl rfl (by kernel_rfl) (yieldsIf_load_row (by rfl) 36 _ rfl (w.heap.size) rfl 36 (e4 a) (fun _ h => M1.out.below h M1.out.lt) Try.underlying36 rfl (by rw [e4_size]; kernel_rfl)) ((below_dr W1)) ?_
    (try simp only [sI, sS, sZ])
    refine wpBut_r2 (i := 1) (j := 7) (by kernel_rfl) ?_ ?_
    refine go_call 1 7 #[true, true, false, true, false, true, false, false, false] rfl rfl rfl (by rfl) rfl rfl (by rfl) ent84 (by rfl) (Hpw.out a Ha.out _) ?_
    rintro e wW11 ⟨n1, hn1, hn1r, rfl, hb⟩
    have hkW11 := held_next (below_dr W1) hb
    refine ⟨_, rfl, fun _ => hkW11, ?_⟩
    clear hb
    (try simp only [sI, sS, sZ])
    refine wpBut_r2 (i := 2) (j := 7) (by kernel_rfl) ?_ ?_
    refine go_call 2 8 #[true, true, true, true, false, true, false, false, false] rfl rfl rfl (by rfl) rfl rfl (by rfl) ent83 (by rfl) (Hs2.out n1 hn1 _) ?_
    rintro e wW12 ⟨n2, hn2, hn2r, rfl, hb⟩
    have hkW12 := held_next hkW11 hb
    refine ⟨_, rfl, fun _ => hkW12, ?_⟩
    clear hb
    (try simp only [sI, sS, sZ])
    refine wpBut_r2 (i := 4) (j := 7) (by kernel_rfl) ?_ ?_
    refine go_call 4 10 #[true, true, true, true, true, true, false, false, false] rfl rfl rfl (by rfl) rfl rfl (by rfl) ent31 (by rfl) (Ht.out n2 a hn2 Ha.out _) ?_
    rintro e wW13 ⟨n3, hn3, hn3r, rfl, hb⟩
    have hkW13 := held_next hkW12 hb
    refine ⟨_, rfl, fun _ => hkW13, ?_⟩
    clear hb
    (try simp only [sI, sS, sZ])
    refine wpBut_r2 (i := 6) (j := 7) (by kernel_rfl) ?_ ?_
    refine go_call 6 12 #[true, true, true, true, true, true, true, false, false] rfl rfl rfl (by rfl) rfl rfl (by rfl) ent31 (by rfl) (Ht.out n3 a hn3 Ha.out _) ?_
    rintro e wW14 ⟨n4, hn4, hn4r, rfl, hb⟩
    have hkW14 := held_next hkW13 hb
    refine ⟨_, rfl, fun _ => hkW14, ?_⟩
    clear hb
    (try simp only [sI, sS, sZ])
    refine wpBut_r1 (i := 7) (by kernel_rfl) ?_
    refine go_alloc 7 4 #[true, true, true, true, true, true, true, true, false] rfl rfl rfl (by rfl) 36 rfl _ al36 ?_
    intro wW15 hw2
    have hkW15 := (hkW14).alloc (hkW14).size (.cells z36 36)
    rw [← hw2] at hkW15
    have MQ := HasN.new (wW14) z36 36 4 (by kernel_rfl); rw [← hw2] at MQ; have MA7 := Lib.hid MQ; clear MQ
    have HA7 := Lib.hid (show W1.heap.size ≤ _ from (hkW14).size)
    clear hw2
    refine ⟨fun _ => hkW15, ?_⟩
    (try simp only [sI, sS, sZ])
    refine wpBut_r1 (i := 8) (by kernel_rfl) ?_
    obtain ⟨Zq, hZ, mZ⟩ := MA7.out
    refine go_store2 8 #[true, true, true, true, true, true, true, true, true] rfl rfl rfl (by rfl) 36 _ _ rfl _ _ rfl rfl 36 Zq mZ (by rw [e4_size]; kernel_rfl) (hZ.trans (e4_size ..).symm) (row_one _ _ _) ?_
    intro wW16 hw2
    have hkW16 := below_setRow (hkW15) _ (e4 n4) HA7.out
    rw [← hw2] at hkW16
    clear MA7
    have MQ := mZ.setRow (e4 n4); rw [← hw2] at MQ; have MA7 := Lib.hid MQ; clear MQ mZ hZ hw2
    refine ⟨fun _ => hkW16, ?_⟩
    (try simp only [sI, sS, sZ])
    exact wpBut_done (by kernel_rfl) (NoPanic.normal (HQ.out (_, n1, n2, n3, n4) _ ⟨hn4, Hpr.out n1 n2 n3 n4 hn1r hn2r hn3r hn4r, HA7.out, MA7.out, (hkW16)⟩))
    refine go_alloc 7 4 #[true, true, true, true, true, true, false, true, false] rfl rfl rfl (by rfl) 36 rfl _ al36 ?_
    intro wW14 hw2
    have hkW14 := (hkW13).alloc (hkW13).size (.cells z36 36)
    rw [← hw2] at hkW14
    have MQ := HasN.new (wW13) z36 36 4 (by kernel_rfl); rw [← hw2] at MQ; have MA7 := Lib.hid MQ; clear MQ
    have HA7 := Lib.hid (show W1.heap.size ≤ _ from (hkW13).size)
    clear hw2
    refine ⟨fun _ => hkW14, ?_⟩
    (try simp only [sI, sS, sZ])
    refine wpBut_r1 (i := 6) (by kernel_rfl) ?_
    refine go_call 6 12 #[true, true, true, true, true, true, true, true, false] rfl rfl rfl (by rfl) rfl rfl (by rfl) ent31 (by rfl) (Ht.out n3 a hn3 Ha.out _) ?_
    rintro e wW15 ⟨n4, hn4, hn4r, rfl, hb⟩
    have hkW15 := held_next hkW14 hb
    have MQ7 := Lib.hid (MA7.out.call hb); clear MA7
    have MA7 := MQ7; clear MQ7
    refine ⟨_, rfl, fun _ => hkW15, ?_⟩
    clear hb
    (try simp only [sI, sS, sZ])
    refine wpBut_r1 (i := 8) (by kernel_rfl) ?_
    obtain ⟨Zq, hZ, mZ⟩ := MA7.out
    refine go_store2 8 #[true, true, true, true, true, true, true, true, true] rfl rfl rfl (by rfl) 36 _ _ rfl _ _ rfl rfl 36 Zq mZ (by rw [e4_size]; kernel_rfl) (hZ.trans (e4_size ..).symm) (row_one _ _ _) ?_
    intro wW16 hw2
    have hkW16 := below_setRow (hkW15) _ (e4 n4) HA7.out
    rw [← hw2] at hkW16
    clear MA7
    have MQ := mZ.setRow (e4 n4); rw [← hw2] at MQ; have MA7 := Lib.hid MQ; clear MQ mZ hZ hw2
    refine ⟨fun _ => hkW16, ?_⟩
    (try simp only [sI, sS, sZ])
    exact wpBut_done (by kernel_rfl) (NoPanic.normal (HQ.out (_, n1, n2, n3, n4) _ ⟨hn4, Hpr.out n1 n2 n3 n4 hn1r hn2r hn3r hn4r, HA7.out, MA7.out, (hkW16)⟩))
    refine go_alloc 7 4 #[true, true, true, true, false, true, false, true, false] rfl rfl rfl (by rfl) 36 rfl _ al36 ?_
    intro wW13 hw2
    have hkW13 := (hkW12).alloc (hkW12).size (.cells z36 36)
    rw [← hw2] at hkW13
    have MQ := HasN.new (wW12) z36 36 4 (by kernel_rfl); rw [← hw2] at MQ; have MA7 := Lib.hid MQ; clear MQ
    have HA7 := Lib.hid (show W1.heap.size ≤ _ from (hkW12).size)
    clear hw2
    refine ⟨fun _ => hkW13, ?_⟩
    (try simp only [sI, sS, sZ])
    refine wpBut_r1 (i := 4) (by kernel_rfl) ?_
    refine go_call 4 10 #[true, true, true, true, true, true, false, true, false] rfl rfl rfl (by rfl) rfl rfl (by rfl) ent31 (by rfl) (Ht.out n2 a hn2 Ha.out _) ?_
    rintro e wW14 ⟨n3, hn3, hn3r, rfl, hb⟩
    have hkW14 := held_next hkW13 hb
    have MQ7 := Lib.hid (MA7.out.call hb); clear MA7
    have MA7 := MQ7; clear MQ7
    refine ⟨_, rfl, fun _ => hkW14, ?_⟩
    clear hb
    (try simp only [sI, sS, sZ])
    refine wpBut_r1 (i := 6) (by kernel_rfl) ?_
    refine go_call 6 12 #[true, true, true, true, true, true, true, true, false] rfl rfl rfl (by rfl) rfl rfl (by rfl) ent31 (by rfl) (Ht.out n3 a hn3 Ha.out _) ?_
    rintro e wW15 ⟨n4, hn4, hn4r, rfl, hb⟩
    have hkW15 := held_next hkW14 hb
    have MQ7 := Lib.hid (MA7.out.call hb); clear MA7
    have MA7 := MQ7; clear MQ7
    refine ⟨_, rfl, fun _ => hkW15, ?_⟩
    clear hb
    (try simp only [sI, sS, sZ])
    refine wpBut_r1 (i := 8) (by kernel_rfl) ?_
    obtain ⟨Zq, hZ, mZ⟩ := MA7.out
    refine go_store2 8 #[true, true, true, true, true, true, true, true, true] rfl rfl rfl (by rfl) 36 _ _ rfl _ _ rfl rfl 36 Zq mZ (by rw [e4_size]; kernel_rfl) (hZ.trans (e4_size ..).symm) (row_one _ _ _) ?_
    intro wW16 hw2
    have hkW16 := below_setRow (hkW15) _ (e4 n4) HA7.out
    rw [← hw2] at hkW16
    clear MA7
    have MQ := mZ.setRow (e4 n4); rw [← hw2] at MQ; have MA7 := Lib.hid MQ; clear MQ mZ hZ hw2
    refine ⟨fun _ => hkW16, ?_⟩
    (try simp only [sI, sS, sZ])
    exact wpBut_done (by kernel_rfl) (NoPanic.normal (HQ.out (_, n1, n2, n3, n4) _ ⟨hn4, Hpr.out n1 n2 n3 n4 hn1r hn2r hn3r hn4r, HA7.out, MA7.out, (hkW16)⟩))
    refine go_alloc 7 4 #[true, true, false, true, false, true, false, true, false] rfl rfl rfl (by rfl) 36 rfl _ al36 ?_
    intro wW12 hw2
    have hkW12 := (hkW11).alloc (hkW11).size (.cells z36 36)
    rw [← hw2] at hkW12
    have MQ := HasN.new (wW11) z36 36 4 (by kernel_rfl); rw [← hw2] at MQ; have MA7 := Lib.hid MQ; clear MQ
    have HA7 := Lib.hid (show W1.heap.size ≤ _ from (hkW11).size)
    clear hw2
    refine ⟨fun _ => hkW12, ?_⟩
    (try simp only [sI, sS, sZ])
    refine wpBut_r1 (i := 2) (by kernel_rfl) ?_
    refine go_call 2 8 #[true, true, true, true, false, true, false, true, false] rfl rfl rfl (by rfl) rfl rfl (by rfl) ent83 (by rfl) (Hs2.out n1 hn1 _) ?_
    rintro e wW13 ⟨n2, hn2, hn2r, rfl, hb⟩
    have hkW13 := held_next hkW12 hb
    have MQ7 := Lib.hid (MA7.out.call hb); clear MA7
    have MA7 := MQ7; clear MQ7
    refine ⟨_, rfl, fun _ => hkW13, ?_⟩
    clear hb
    (try simp only [sI, sS, sZ])
    refine wpBut_r1 (i := 4) (by kernel_rfl) ?_
    refine go_call 4 10 #[true, true, true, true, true, true, false, true, false] rfl rfl rfl (by rfl) rfl rfl (by rfl) ent31 (by rfl) (Ht.out n2 a hn2 Ha.out _) ?_
    rintro e wW14 ⟨n3, hn3, hn3r, rfl, hb⟩
    have hkW14 := held_next hkW13 hb
    have MQ7 := Lib.hid (MA7.out.call hb); clear MA7
    have MA7 := MQ7; clear MQ7
    refine ⟨_, rfl, fun _ => hkW14, ?_⟩
    clear hb
    (try simp only [sI, sS, sZ])
    refine wpBut_r1 (i := 6) (by kernel_rfl) ?_
    refine go_call 6 12 #[true, true, true, true, true, true, true, true, false] rfl rfl rfl (by rfl) rfl rfl (by rfl) ent31 (by rfl) (Ht.out n3 a hn3 Ha.out _) ?_
    rintro e wW15 ⟨n4, hn4, hn4r, rfl, hb⟩
    have hkW15 := held_next hkW14 hb
    have MQ7 := Lib.hid (MA7.out.call hb); clear MA7
    have MA7 := MQ7; clear MQ7
    refine ⟨_, rfl, fun _ => hkW15, ?_⟩
    clear hb
    (try simp only [sI, sS, sZ])
    refine wpBut_r1 (i := 8) (by kernel_rfl) ?_
    obtain ⟨Zq, hZ, mZ⟩ := MA7.out
    refine go_store2 8 #[true, true, true, true, true, true, true, true, true] rfl rfl rfl (by rfl) 36 _ _ rfl _ _ rfl rfl 36 Zq mZ (by rw [e4_size]; kernel_rfl) (hZ.trans (e4_size ..).symm) (row_one _ _ _) ?_
    intro wW16 hw2
    have hkW16 := below_setRow (hkW15) _ (e4 n4) HA7.out
    rw [← hw2] at hkW16
    clear MA7
    have MQ := mZ.setRow (e4 n4); rw [← hw2] at MQ; have MA7 := Lib.hid MQ; clear MQ mZ hZ hw2
    refine ⟨fun _ => hkW16, ?_⟩
    (try simp only [sI, sS, sZ])
    exact wpBut_done (by kernel_rfl) (NoPanic.normal (HQ.out (_, n1, n2, n3, n4) _ ⟨hn4, Hpr.out n1 n2 n3 n4 hn1r hn2r hn3r hn4r, HA7.out, MA7.out, (hkW16)⟩))
    refine go_alloc 7 4 #[true, false, false, true, false, true, false, true, false] rfl rfl rfl (by rfl) 36 rfl _ al36 ?_
    intro wW11 hw2
    have hkW11 := ((below_dr W1)).alloc ((below_dr W1)).size (.cells z36 36)
    rw [← hw2] at hkW11
    have MQ := HasN.new (W1.drew) z36 36 4 (by kernel_rfl); rw [← hw2] at MQ; have MA7 := Lib.hid MQ; clear MQ
    have HA7 := Lib.hid (show W1.heap.size ≤ _ from ((below_dr W1)).size)
    clear hw2
    refine ⟨fun _ => hkW11, ?_⟩
    (try simp only [sI, sS, sZ])
    refine wpBut_r1 (i := 1) (by kernel_rfl) ?_
    refine go_call 1 7 #[true, true, false, true, false, true, false, true, false] rfl rfl rfl (by rfl) rfl rfl (by rfl) ent84 (by rfl) (Hpw.out a Ha.out _) ?_
    rintro e wW12 ⟨n1, hn1, hn1r, rfl, hb⟩
    have hkW12 := held_next hkW11 hb
    have MQ7 := Lib.hid (MA7.out.call hb); clear MA7
    have MA7 := MQ7; clear MQ7
    refine ⟨_, rfl, fun _ => hkW12, ?_⟩
    clear hb
    (try simp only [sI, sS, sZ])
    refine wpBut_r1 (i := 2) (by kernel_rfl) ?_
    refine go_call 2 8 #[true, true, true, true, false, true, false, true, false] rfl rfl rfl (by rfl) rfl rfl (by rfl) ent83 (by rfl) (Hs2.out n1 hn1 _) ?_
    rintro e wW13 ⟨n2, hn2, hn2r, rfl, hb⟩
    have hkW13 := held_next hkW12 hb
    have MQ7 := Lib.hid (MA7.out.call hb); clear MA7
    have MA7 := MQ7; clear MQ7
    refine ⟨_, rfl, fun _ => hkW13, ?_⟩
    clear hb
    (try simp only [sI, sS, sZ])
    refine wpBut_r1 (i := 4) (by kernel_rfl) ?_
    refine go_call 4 10 #[true, true, true, true, true, true, false, true, false] rfl rfl rfl (by rfl) rfl rfl (by rfl) ent31 (by rfl) (Ht.out n2 a hn2 Ha.out _) ?_
    rintro e wW14 ⟨n3, hn3, hn3r, rfl, hb⟩
    have hkW14 := held_next hkW13 hb
    have MQ7 := Lib.hid (MA7.out.call hb); clear MA7
    have MA7 := MQ7; clear MQ7
    refine ⟨_, rfl, fun _ => hkW14, ?_⟩
    clear hb
    (try simp only [sI, sS, sZ])
    refine wpBut_r1 (i := 6) (by kernel_rfl) ?_
    refine go_call 6 12 #[true, true, true, true, true, true, true, true, false] rfl rfl rfl (by rfl) rfl rfl (by rfl) ent31 (by rfl) (Ht.out n3 a hn3 Ha.out _) ?_
    rintro e wW15 ⟨n4, hn4, hn4r, rfl, hb⟩
    have hkW15 := held_next hkW14 hb
    have MQ7 := Lib.hid (MA7.out.call hb); clear MA7
    have MA7 := MQ7; clear MQ7
    refine ⟨_, rfl, fun _ => hkW15, ?_⟩
    clear hb
    (try simp only [sI, sS, sZ])
    refine wpBut_r1 (i := 8) (by kernel_rfl) ?_
    obtain ⟨Zq, hZ, mZ⟩ := MA7.out
    refine go_store2 8 #[true, true, true, true, true, true, true, true, true] rfl rfl rfl (by rfl) 36 _ _ rfl _ _ rfl rfl 36 Zq mZ (by rw [e4_size]; kernel_rfl) (hZ.trans (e4_size ..).symm) (row_one _ _ _) ?_
    intro wW16 hw2
    have hkW16 := below_setRow (hkW15) _ (e4 n4) HA7.out
    rw [← hw2] at hkW16
    clear MA7
    have MQ := mZ.setRow (e4 n4); rw [← hw2] at MQ; have MA7 := Lib.hid MQ; clear MQ mZ hZ hw2
    refine ⟨fun _ => hkW16, ?_⟩
    (try simp only [sI, sS, sZ])
    exact wpBut_done (by kernel_rfl) (NoPanic.normal (HQ.out (_, n1, n2, n3, n4) _ ⟨hn4, Hpr.out n1 n2 n3 n4 hn1r hn2r hn3r hn4r, HA7.out, MA7.out, (hkW16)⟩))
  · rintro W1 ⟨B4, n1, n2, n3, n4⟩ vw1 hW1 ⟨hn4, hk4, hBq0, mBq0, hbw⟩
    simp only [Act.put, List.setIfInBounds_toArray, List.set_cons_succ, List.set_cons_zero] at hn4 hk4 hBq0  mBq0 ⊢
    have kq := M1.out; rw [← hW1] at kq; clear M1; have M1 := Lib.hid kq; clear kq
    have kq := M2.out; rw [← hW1] at kq; clear M2; have M2 := Lib.hid kq; clear kq
    have kq := HB.out; rw [← hW1] at kq; clear HB; have HB := Lib.hid kq; clear kq
    clear hW1
    have hltM1_1 := M1.out.lt
    have hltM2_1 := M2.out.lt
    replace M1 := Lib.hid (M1.out.call hbw)
    replace M2 := Lib.hid (M2.out.call hbw)
    replace HB := Lib.hid (held_next HB.out hbw)
    have M4 := Lib.hid mBq0; clear mBq0
    clear hbw
    have Hk4 := Lib.hid hk4; clear hk4
    repeat ((fail_if_success (with_reducible (show wpList _ _ _ _ _ _))); go_step)
    by_cases c1 : rt1 A * rt1 A % PP = A
    · have hk2 := Hk4.out.trans (rt2_yes A c1).symm
      have C1 := Lib.hid c1; clear c1
      have Hk2 := Lib.hid hk2; clear hk2
      refine wp_region_noPanic ?_
      refine wp_region_go 99 6 #[false, false, false, false, false, false] (by kernel_rfl) rfl rfl ?_
      intro W2 hW2
      have kq := M1.out; rw [← hW2] at kq; clear M1; have M1 := Lib.hid kq; clear kq
      have kq := M2.out; rw [← hW2] at kq; clear M2; have M2 := Lib.hid kq; clear kq
      have kq := M4.out; rw [← hW2] at kq; clear M4; have M4 := Lib.hid kq; clear kq
      have kq := HB.out; rw [← hW2] at kq; clear HB; have HB := Lib.hid kq; clear kq
      clear hW2
      refine go_take2 0 13 #[true, false, false, false, false, false] rfl rfl rfl (by kernel_rfl) (yieldsIf_load_row (by rfl) 36 _ rfl (B4) rfl 36 (e4 n4) (fun _ h => M4.out.below h M4.out.lt) Try.underlying36 rfl (by rw [e4_size]; kernel_rfl)) ((below_dr W2)) ?_
      (try simp only [sI, sS, sZ])
      refine go_take2 1 14 #[true, true, false, false, false, false] rfl rfl rfl (by kernel_rfl) (yieldsIf_load_row (by rfl) 36 _ rfl (B4) rfl 36 (e4 n4) (fun _ h => M4.out.below h M4.out.lt) Try.underlying36 rfl (by rw [e4_size]; kernel_rfl)) ((below_dr W2)) ?_
      (try simp only [sI, sS, sZ])
      refine go_take2 3 16 #[true, true, false, true, false, false] rfl rfl rfl (by kernel_rfl) (yieldsIf_load_row (by rfl) 36 _ rfl (w.heap.size) rfl 36 (e4 a) (fun _ h => M1.out.below h M1.out.lt) Try.underlying36 rfl (by rw [e4_size]; kernel_rfl)) ((below_dr W2)) ?_
      (try simp only [sI, sS, sZ])
      refine wpBut_r1 (i := 2) (by kernel_rfl) ?_
      refine go_call 2 15 #[true, true, true, true, false, false] rfl rfl rfl (by rfl) rfl rfl (by rfl) ent31 (by rfl) (Ht.out n4 n4 hn4 hn4 _) ?_
      rintro e wW21 ⟨q1, hq1, hq1r, rfl, hb⟩
      have hkW21 := held_next (below_dr W2) hb
      refine ⟨_, rfl, fun _ => hkW21, ?_⟩
      clear hb
      (try simp only [sI, sS, sZ])
      refine wpBut_r1 (i := 4) (by kernel_rfl) ?_
      refine go_call 4 17 #[true, true, true, true, true, false] rfl rfl rfl (by rfl) rfl rfl (by rfl) ent41 (by rfl) (Hyes.out q1 a hq1 Ha.out (by rw [hq1r, Nat.mul_mod, Hk4.out]; exact C1.out.trans HA.out) _) ?_
      rintro e wW22 ⟨rfl, hb⟩
      have hkW22 := held_next hkW21 hb
      refine ⟨_, rfl, fun _ => hkW22, ?_⟩
      clear hb
      (try simp only [sI, sS, sZ])
      refine go_take2 5 18 #[true, true, true, true, true, true] (v := ?uv1) rfl rfl rfl (by kernel_rfl) (Or.inl ⟨by rfl, ?uy1⟩) (hkW22) ?urest1
      case uy1 => (intro _ _; go_simp; try with_reducible rfl)
      (try simp only [sI, sS, sZ])
      refine wpBut_done (by kernel_rfl) (NoPanic.normal ?_)
      replace M1 := Lib.hid (M1.out.call hkW22)
      replace M2 := Lib.hid (M2.out.call hkW22)
      replace M4 := Lib.hid (M4.out.call hkW22)
      replace HB := Lib.hid (held_next HB.out hkW22)
      repeat ((fail_if_success (with_reducible (show wpList _ _ _ _ _ _))); go_step)
      by_cases c2 : rt2 A * rt2 A % PP = A
      · have C2 := Lib.hid c2; clear c2
        refine wp_region_noPanic ?_
        refine wp_region_go 99 6 #[false, false, false, false, false, false] (by kernel_rfl) rfl rfl ?_
        intro W3 hW3
        have kq := M1.out; rw [← hW3] at kq; clear M1; have M1 := Lib.hid kq; clear kq
        have kq := M2.out; rw [← hW3] at kq; clear M2; have M2 := Lib.hid kq; clear kq
        have kq := M4.out; rw [← hW3] at kq; clear M4; have M4 := Lib.hid kq; clear kq
        have kq := HB.out; rw [← hW3] at kq; clear HB; have HB := Lib.hid kq; clear kq
        clear hW3
        refine go_take2 0 30 #[true, false, false, false, false, false] rfl rfl rfl (by kernel_rfl) (yieldsIf_load_row (by rfl) 36 _ rfl (B4) rfl 36 (e4 n4) (fun _ h => M4.out.below h M4.out.lt) Try.underlying36 rfl (by rw [e4_size]; kernel_rfl)) ((below_dr W3)) ?_
        (try simp only [sI, sS, sZ])
        refine go_take2 1 31 #[true, true, false, false, false, false] rfl rfl rfl (by kernel_rfl) (yieldsIf_load_row (by rfl) 36 _ rfl (B4) rfl 36 (e4 n4) (fun _ h => M4.out.below h M4.out.lt) Try.underlying36 rfl (by rw [e4_size]; kernel_rfl)) ((below_dr W3)) ?_
        (try simp only [sI, sS, sZ])
        refine go_take2 3 33 #[true, true, false, true, false, false] rfl rfl rfl (by kernel_rfl) (yieldsIf_load_row (by rfl) 36 _ rfl (w.heap.size) rfl 36 (e4 a) (fun _ h => M1.out.below h M1.out.lt) Try.underlying36 rfl (by rw [e4_size]; kernel_rfl)) ((below_dr W3)) ?_
        (try simp only [sI, sS, sZ])
        refine wpBut_r1 (i := 2) (by kernel_rfl) ?_
        refine go_call 2 32 #[true, true, true, true, false, false] rfl rfl rfl (by rfl) rfl rfl (by rfl) ent31 (by rfl) (Ht.out n4 n4 hn4 hn4 _) ?_
        rintro e wW31 ⟨q2, hq2, hq2r, rfl, hb⟩
        have hkW31 := held_next (below_dr W3) hb
        refine ⟨_, rfl, fun _ => hkW31, ?_⟩
        clear hb
        (try simp only [sI, sS, sZ])
        refine wpBut_r1 (i := 4) (by kernel_rfl) ?_
        refine go_call 4 34 #[true, true, true, true, true, false] rfl rfl rfl (by rfl) rfl rfl (by rfl) ent41 (by rfl) (Hyes.out q2 a hq2 Ha.out (by rw [hq2r, Nat.mul_mod, Hk2.out]; exact C2.out.trans HA.out) _) ?_
        rintro e wW32 ⟨rfl, hb⟩
        have hkW32 := held_next hkW31 hb
        refine ⟨_, rfl, fun _ => hkW32, ?_⟩
        clear hb
        (try simp only [sI, sS, sZ])
        refine go_take2 5 35 #[true, true, true, true, true, true] (v := ?uv2) rfl rfl rfl (by kernel_rfl) (Or.inl ⟨by rfl, ?uy2⟩) (hkW32) ?urest2
        case uy2 => (intro _ _; go_simp; try with_reducible rfl)
        (try simp only [sI, sS, sZ])
        refine wpBut_done (by kernel_rfl) (NoPanic.normal ?_)
        replace M1 := Lib.hid (M1.out.call hkW32)
        replace M2 := Lib.hid (M2.out.call hkW32)
        replace M4 := Lib.hid (M4.out.call hkW32)
        replace HB := Lib.hid (held_next HB.out hkW32)
        repeat ((fail_if_success (with_reducible (show wpList _ _ _ _ _ _))); go_step)
        by_cases c3 : rt2 A % 2 = 1
        · obtain ⟨hf3, hfo⟩ := rt3_odd A C2.out c3
          have hE := fun w => Hevn.out n4 hn4 (by rw [Hk2.out]; exact c3) w
          have C3 := Lib.hid c3; clear c3
          have Hf3 := Lib.hid hf3; clear hf3
          have Hfo := Lib.hid hfo; clear hfo
          have HE := Lib.hid hE; clear hE
          refine wpList_load (by rfl) 36 _ rfl (B4) rfl 36 (e4 n4) M4.out Try.underlying36 rfl (by rw [e4_size]; kernel_rfl) 37 rfl ?_
          (try simp only [Act.put, sI, sS, sZ])
          refine wpList_call (by rfl) rfl rfl (by rfl) ent36 (by rfl) (HE.out _) 38 rfl ?_
          rintro e uw1 ⟨rfl, hb⟩
          replace M1 := Lib.hid (M1.out.call hb)
          replace M2 := Lib.hid (M2.out.call hb)
          replace M4 := Lib.hid (M4.out.call hb)
          replace HB := Lib.hid (held_next HB.out hb)
          refine ⟨_, rfl, ?_⟩
          clear hb
          (try simp only [Act.put, sI, sS, sZ])
          refine wpList_step (fun K hK => ?_)
          go_simp
          (try go_bits)
          refine hK _ _ ?_
          clear hK K
          refine wpList_nil ?_
          repeat ((fail_if_success (with_reducible (show wpList _ _ _ _ _ _))); go_step)
          refine wpList_step (fun K hK => ?_)
          go_simp
          (try go_bits)
          rw [Hz0.out]
          refine hK _ _ ?_
          clear hK K
          refine wpList_load (by rfl) 36 _ rfl (B4) rfl 36 (e4 n4) M4.out Try.underlying36 rfl (by rw [e4_size]; kernel_rfl) 41 rfl ?_
          (try simp only [Act.put, sI, sS, sZ])
          refine wpList_call (by rfl) rfl rfl (by rfl) ent39 (by rfl) (Hmin.out 0 n4 (by decide) hn4 _) 42 rfl ?_
          rintro e uw2 ⟨m, hm, hmr, rfl, hb⟩
          replace M1 := Lib.hid (M1.out.call hb)
          replace M2 := Lib.hid (M2.out.call hb)
          replace M4 := Lib.hid (M4.out.call hb)
          replace HB := Lib.hid (held_next HB.out hb)
          refine ⟨_, rfl, ?_⟩
          clear hb
          (try simp only [Act.put, sI, sS, sZ])
          first | (obtain ⟨Zq, hZ, mZ⟩ := M4.out) | (obtain ⟨Zq, hZ, mZ⟩ := M4.out.toN (e4_size _))
          clear M4
          have hZ' := Lib.hid hZ; clear hZ
          have mZ' := Lib.hid mZ; clear mZ
          refine wpList_store_row rfl 36 _ _ rfl (B4) _ rfl rfl 36 Zq mZ'.out (by rw [e4_size]; kernel_rfl) (hZ'.out.trans (e4_size _).symm) (row_one _ _ _) ?_
          (try simp only [Act.put, sI, sS, sZ])
          replace M1 := Lib.hid (M1.out.setRow_other (B4) (e4 m) (by omega))
          replace M2 := Lib.hid (M2.out.setRow_other (B4) (e4 m) (by omega))
          have M4 := Lib.hid (mZ'.out.setRow (e4 m))
          clear mZ' hZ'
          replace HB := Lib.hid (below_setRow HB.out (B4) (e4 m) (by omega))
          refine wpList_nil ?_
          have Hmr := Lib.hid hmr; clear hmr
          repeat ((fail_if_success (with_reducible (show wpList _ _ _ _ _ _))); go_step)
          refine wpList_load (by rfl) 36 _ rfl (B4) rfl 36 (e4 m) M4.out Try.underlying36 rfl (by rw [e4_size]; kernel_rfl) 43 rfl ?_
          (try simp only [Act.put, sI, sS, sZ])
          first | (obtain ⟨Zq, hZ, mZ⟩ := M2.out) | (obtain ⟨Zq, hZ, mZ⟩ := M2.out.toN (e4_size _))
          clear M2
          have hZ' := Lib.hid hZ; clear hZ
          have mZ' := Lib.hid mZ; clear mZ
          refine wpList_store_row rfl 36 _ _ rfl (w.heap.size + 1) _ rfl rfl 36 Zq mZ'.out (by rw [e4_size]; kernel_rfl) (hZ'.out.trans (e4_size _).symm) (row_one _ _ _) ?_
          (try simp only [Act.put, sI, sS, sZ])
          replace M1 := Lib.hid (M1.out.setRow_other (w.heap.size + 1) (e4 m) (by omega))
          replace M4 := Lib.hid (M4.out.setRow_other (w.heap.size + 1) (e4 m) (by omega))
          have M2 := Lib.hid (mZ'.out.setRow (e4 m))
          clear mZ' hZ'
          replace HB := Lib.hid (below_setRow HB.out (w.heap.size + 1) (e4 m) (by omega))
          refine wpList_step (fun K hK => ?_)
          go_simp
          (try go_bits)
          refine hK _ _ ?_
          clear hK K
          refine wpList_nil ?_
          go_wp2_with fail
          exact bodyPost_ret (v := .tuple #[.agg (e4 m), .bool true]) (results_cell_tmp_row (fn := Try.f44) (p := 2) (t2 := 3) (ty := 36) (t := 36) (by rfl) _ _ (w.heap.size + 1) _ _ _ rfl M2.out Try.underlying36 rfl (by rw [e4_size]; kernel_rfl)) rfl ⟨m, hm, by rw [Hf3.out, Hmr.out, Hk2.out], by rw [Hfo.out], HB.out⟩
        · obtain ⟨hf3, hfo⟩ := rt3_evn A C2.out c3
          have hE := fun w => Hevy.out n4 hn4 (by rw [Hk2.out]; omega) w
          have C3 := Lib.hid c3; clear c3
          have Hf3 := Lib.hid hf3; clear hf3
          have Hfo := Lib.hid hfo; clear hfo
          have HE := Lib.hid hE; clear hE
          refine wpList_load (by rfl) 36 _ rfl (B4) rfl 36 (e4 n4) M4.out Try.underlying36 rfl (by rw [e4_size]; kernel_rfl) 37 rfl ?_
          (try simp only [Act.put, sI, sS, sZ])
          refine wpList_call (by rfl) rfl rfl (by rfl) ent36 (by rfl) (HE.out _) 38 rfl ?_
          rintro e uw1 ⟨rfl, hb⟩
          replace M1 := Lib.hid (M1.out.call hb)
          replace M2 := Lib.hid (M2.out.call hb)
          replace M4 := Lib.hid (M4.out.call hb)
          replace HB := Lib.hid (held_next HB.out hb)
          refine ⟨_, rfl, ?_⟩
          clear hb
          (try simp only [Act.put, sI, sS, sZ])
          refine wpList_step (fun K hK => ?_)
          go_simp
          (try go_bits)
          refine hK _ _ ?_
          clear hK K
          refine wpList_nil ?_
          repeat ((fail_if_success (with_reducible (show wpList _ _ _ _ _ _))); go_step)
          refine wpList_load (by rfl) 36 _ rfl (B4) rfl 36 (e4 n4) M4.out Try.underlying36 rfl (by rw [e4_size]; kernel_rfl) 43 rfl ?_
          (try simp only [Act.put, sI, sS, sZ])
          first | (obtain ⟨Zq, hZ, mZ⟩ := M2.out) | (obtain ⟨Zq, hZ, mZ⟩ := M2.out.toN (e4_size _))
          clear M2
          have hZ' := Lib.hid hZ; clear hZ
          have mZ' := Lib.hid mZ; clear mZ
          refine wpList_store_row rfl 36 _ _ rfl (w.heap.size + 1) _ rfl rfl 36 Zq mZ'.out (by rw [e4_size]; kernel_rfl) (hZ'.out.trans (e4_size _).symm) (row_one _ _ _) ?_
          (try simp only [Act.put, sI, sS, sZ])
          replace M1 := Lib.hid (M1.out.setRow_other (w.heap.size + 1) (e4 n4) (by omega))
          replace M4 := Lib.hid (M4.out.setRow_other (w.heap.size + 1) (e4 n4) (by omega))
          have M2 := Lib.hid (mZ'.out.setRow (e4 n4))
          clear mZ' hZ'
          replace HB := Lib.hid (below_setRow HB.out (w.heap.size + 1) (e4 n4) (by omega))
          refine wpList_step (fun K hK => ?_)
          go_simp
          (try go_bits)
          refine hK _ _ ?_
          clear hK K
          refine wpList_nil ?_
          go_wp2_with fail
          exact bodyPost_ret (v := .tuple #[.agg (e4 n4), .bool true]) (results_cell_tmp_row (fn := Try.f44) (p := 2) (t2 := 3) (ty := 36) (t := 36) (by rfl) _ _ (w.heap.size + 1) _ _ _ rfl M2.out Try.underlying36 rfl (by rw [e4_size]; kernel_rfl)) rfl ⟨n4, hn4, by rw [Hf3.out, Hk2.out], by rw [Hfo.out], HB.out⟩
      · obtain ⟨hf3, hfo⟩ := rt3_non A c2
        have C2 := Lib.hid c2; clear c2
        have Hf3 := Lib.hid hf3; clear hf3
        have Hfo := Lib.hid hfo; clear hfo
        refine wp_region_noPanic ?_
        refine wp_region_go 99 6 #[false, false, false, false, false, false] (by kernel_rfl) rfl rfl ?_
        intro W3 hW3
        have kq := M1.out; rw [← hW3] at kq; clear M1; have M1 := Lib.hid kq; clear kq
        have kq := M2.out; rw [← hW3] at kq; clear M2; have M2 := Lib.hid kq; clear kq
        have kq := M4.out; rw [← hW3] at kq; clear M4; have M4 := Lib.hid kq; clear kq
        have kq := HB.out; rw [← hW3] at kq; clear HB; have HB := Lib.hid kq; clear kq
        clear hW3
        refine go_take2 0 30 #[true, false, false, false, false, false] rfl rfl rfl (by kernel_rfl) (yieldsIf_load_row (by rfl) 36 _ rfl (B4) rfl 36 (e4 n4) (fun _ h => M4.out.below h M4.out.lt) Try.underlying36 rfl (by rw [e4_size]; kernel_rfl)) ((below_dr W3)) ?_
        (try simp only [sI, sS, sZ])
        refine go_take2 1 31 #[true, true, false, false, false, false] rfl rfl rfl (by kernel_rfl) (yieldsIf_load_row (by rfl) 36 _ rfl (B4) rfl 36 (e4 n4) (fun _ h => M4.out.below h M4.out.lt) Try.underlying36 rfl (by rw [e4_size]; kernel_rfl)) ((below_dr W3)) ?_
        (try simp only [sI, sS, sZ])
        refine go_take2 3 33 #[true, true, false, true, false, false] rfl rfl rfl (by kernel_rfl) (yieldsIf_load_row (by rfl) 36 _ rfl (w.heap.size) rfl 36 (e4 a) (fun _ h => M1.out.below h M1.out.lt) Try.underlying36 rfl (by rw [e4_size]; kernel_rfl)) ((below_dr W3)) ?_
        (try simp only [sI, sS, sZ])
        refine wpBut_r1 (i := 2) (by kernel_rfl) ?_
        refine go_call 2 32 #[true, true, true, true, false, false] rfl rfl rfl (by rfl) rfl rfl (by rfl) ent31 (by rfl) (Ht.out n4 n4 hn4 hn4 _) ?_
        rintro e wW31 ⟨q2, hq2, hq2r, rfl, hb⟩
        have hkW31 := held_next (below_dr W3) hb
        refine ⟨_, rfl, fun _ => hkW31, ?_⟩
        clear hb
        (try simp only [sI, sS, sZ])
        refine wpBut_r1 (i := 4) (by kernel_rfl) ?_
        refine go_call 4 34 #[true, true, true, true, true, false] rfl rfl rfl (by rfl) rfl rfl (by rfl) ent41 (by rfl) (Hnot.out q2 a hq2 Ha.out (by rw [hq2r, Nat.mul_mod, Hk2.out]; exact fun h => C2.out (h.trans HA.out.symm)) _) ?_
        rintro e wW32 ⟨rfl, hb⟩
        have hkW32 := held_next hkW31 hb
        refine ⟨_, rfl, fun _ => hkW32, ?_⟩
        clear hb
        (try simp only [sI, sS, sZ])
        refine go_take2 5 35 #[true, true, true, true, true, true] (v := ?uv3) rfl rfl rfl (by kernel_rfl) (Or.inl ⟨by rfl, ?uy3⟩) (hkW32) ?urest3
        case uy3 => (intro _ _; go_simp; try with_reducible rfl)
        (try simp only [sI, sS, sZ])
        refine wpBut_done (by kernel_rfl) (NoPanic.normal ?_)
        replace M1 := Lib.hid (M1.out.call hkW32)
        replace M2 := Lib.hid (M2.out.call hkW32)
        replace M4 := Lib.hid (M4.out.call hkW32)
        replace HB := Lib.hid (held_next HB.out hkW32)
        repeat ((fail_if_success (with_reducible (show wpList _ _ _ _ _ _))); go_step)
        refine wpList_step (fun K hK => ?_)
        go_simp
        (try go_bits)
        rw [Hz0.out]
        refine hK _ _ ?_
        clear hK K
        first | (obtain ⟨Zq, hZ, mZ⟩ := M2.out) | (obtain ⟨Zq, hZ, mZ⟩ := M2.out.toN (e4_size _))
        clear M2
        have hZ' := Lib.hid hZ; clear hZ
        have mZ' := Lib.hid mZ; clear mZ
        refine wpList_store_row rfl 36 _ _ rfl (w.heap.size + 1) _ rfl rfl 36 Zq mZ'.out (by rw [e4_size]; kernel_rfl) (hZ'.out.trans (e4_size _).symm) (row_one _ _ _) ?_
        (try simp only [Act.put, sI, sS, sZ])
        replace M1 := Lib.hid (M1.out.setRow_other (w.heap.size + 1) (e4 0) (by omega))
        replace M4 := Lib.hid (M4.out.setRow_other (w.heap.size + 1) (e4 0) (by omega))
        have M2 := Lib.hid (mZ'.out.setRow (e4 0))
        clear mZ' hZ'
        replace HB := Lib.hid (below_setRow HB.out (w.heap.size + 1) (e4 0) (by omega))
        refine wpList_step (fun K hK => ?_)
        go_simp
        (try go_bits)
        refine hK _ _ ?_
        clear hK K
        refine wpList_nil ?_
        go_wp2_with fail
        exact bodyPost_ret (v := .tuple #[.agg (e4 0), .bool false]) (results_cell_tmp_row (fn := Try.f44) (p := 2) (t2 := 3) (ty := 36) (t := 36) (by rfl) _ _ (w.heap.size + 1) _ _ _ rfl M2.out Try.underlying36 rfl (by rw [e4_size]; kernel_rfl)) rfl ⟨0, by decide, Hf3.out, by rw [Hfo.out], HB.out⟩
    · have hr2 := rt2_no A c1
      have C1 := Lib.hid c1; clear c1
      have Hr2 := Lib.hid hr2; clear hr2
      refine wp_region_noPanic ?_
      refine wp_region_go 99 6 #[false, false, false, false, false, false] (by kernel_rfl) rfl rfl ?_
      intro W2 hW2
      have kq := M1.out; rw [← hW2] at kq; clear M1; have M1 := Lib.hid kq; clear kq
      have kq := M2.out; rw [← hW2] at kq; clear M2; have M2 := Lib.hid kq; clear kq
      have kq := M4.out; rw [← hW2] at kq; clear M4; have M4 := Lib.hid kq; clear kq
      have kq := HB.out; rw [← hW2] at kq; clear HB; have HB := Lib.hid kq; clear kq
      clear hW2
      refine go_take2 0 13 #[true, false, false, false, false, false] rfl rfl rfl (by kernel_rfl) (yieldsIf_load_row (by rfl) 36 _ rfl (B4) rfl 36 (e4 n4) (fun _ h => M4.out.below h M4.out.lt) Try.underlying36 rfl (by rw [e4_size]; kernel_rfl)) ((below_dr W2)) ?_
      (try simp only [sI, sS, sZ])
      refine go_take2 1 14 #[true, true, false, false, false, false] rfl rfl rfl (by kernel_rfl) (yieldsIf_load_row (by rfl) 36 _ rfl (B4) rfl 36 (e4 n4) (fun _ h => M4.out.below h M4.out.lt) Try.underlying36 rfl (by rw [e4_size]; kernel_rfl)) ((below_dr W2)) ?_
      (try simp only [sI, sS, sZ])
      refine go_take2 3 16 #[true, true, false, true, false, false] rfl rfl rfl (by kernel_rfl) (yieldsIf_load_row (by rfl) 36 _ rfl (w.heap.size) rfl 36 (e4 a) (fun _ h => M1.out.below h M1.out.lt) Try.underlying36 rfl (by rw [e4_size]; kernel_rfl)) ((below_dr W2)) ?_
      (try simp only [sI, sS, sZ])
      refine wpBut_r1 (i := 2) (by kernel_rfl) ?_
      refine go_call 2 15 #[true, true, true, true, false, false] rfl rfl rfl (by rfl) rfl rfl (by rfl) ent31 (by rfl) (Ht.out n4 n4 hn4 hn4 _) ?_
      rintro e wW21 ⟨q1, hq1, hq1r, rfl, hb⟩
      have hkW21 := held_next (below_dr W2) hb
      refine ⟨_, rfl, fun _ => hkW21, ?_⟩
      clear hb
      (try simp only [sI, sS, sZ])
      refine wpBut_r1 (i := 4) (by kernel_rfl) ?_
      refine go_call 4 17 #[true, true, true, true, true, false] rfl rfl rfl (by rfl) rfl rfl (by rfl) ent41 (by rfl) (Hnot.out q1 a hq1 Ha.out (by rw [hq1r, Nat.mul_mod, Hk4.out]; exact fun h => C1.out (h.trans HA.out.symm)) _) ?_
      rintro e wW22 ⟨rfl, hb⟩
      have hkW22 := held_next hkW21 hb
      refine ⟨_, rfl, fun _ => hkW22, ?_⟩
      clear hb
      (try simp only [sI, sS, sZ])
      refine go_take2 5 18 #[true, true, true, true, true, true] (v := ?uv4) rfl rfl rfl (by kernel_rfl) (Or.inl ⟨by rfl, ?uy4⟩) (hkW22) ?urest4
      case uy4 => (intro _ _; go_simp; try with_reducible rfl)
      (try simp only [sI, sS, sZ])
      refine wpBut_done (by kernel_rfl) (NoPanic.normal ?_)
      replace M1 := Lib.hid (M1.out.call hkW22)
      replace M2 := Lib.hid (M2.out.call hkW22)
      replace M4 := Lib.hid (M4.out.call hkW22)
      replace HB := Lib.hid (held_next HB.out hkW22)
      repeat ((fail_if_success (with_reducible (show wpList _ _ _ _ _ _))); go_step)
      refine wpList_call (by rfl) rfl rfl (by rfl) ent34 (by rfl) (Hint.out _) 19 rfl ?_
      rintro e uw1 ⟨rfl, hb⟩
      replace M1 := Lib.hid (M1.out.call hb)
      replace M2 := Lib.hid (M2.out.call hb)
      replace M4 := Lib.hid (M4.out.call hb)
      replace HB := Lib.hid (held_next HB.out hb)
      refine ⟨_, rfl, ?_⟩
      clear hb
      (try simp only [Act.put, sI, sS, sZ])
      refine wpList_step (fun K hK => ?_)
      go_simp
      have hlt3 := M1.out.lt
      have hlt4 := M2.out.lt
      have hlt5 := M4.out.lt
      replace M1 := Lib.hid (M1.out.alloc (.cells (#[.int .u64 0, .int .u64 0, .int .u64 0, .int .u64 0] : Array Value) 36))
      replace M2 := Lib.hid (M2.out.alloc (.cells (#[.int .u64 0, .int .u64 0, .int .u64 0, .int .u64 0] : Array Value) 36))
      replace M4 := Lib.hid (M4.out.alloc (.cells (#[.int .u64 0, .int .u64 0, .int .u64 0, .int .u64 0] : Array Value) 36))
      have M5 := Lib.hid (HasN.new uw1 (#[.int .u64 0, .int .u64 0, .int .u64 0, .int .u64 0] : Array Value) 36 4 rfl)
      have hsz := HB.out.size
      replace HB := Lib.hid (HB.out.alloc hsz (.cells (#[.int .u64 0, .int .u64 0, .int .u64 0, .int .u64 0] : Array Value) 36))
      refine hK _ _ ?_
      clear hK K
      first | (obtain ⟨Zq, hZ, mZ⟩ := M5.out) | (obtain ⟨Zq, hZ, mZ⟩ := M5.out.toN (e4_size _))
      clear M5
      have hZ' := Lib.hid hZ; clear hZ
      have mZ' := Lib.hid mZ; clear mZ
      refine wpList_store_row rfl 36 _ _ rfl (uw1.heap.size) _ rfl rfl 36 Zq mZ'.out (by rw [e4_size]; kernel_rfl) (hZ'.out.trans (e4_size _).symm) (row_one _ _ _) ?_
      (try simp only [Act.put, sI, sS, sZ])
      replace M1 := Lib.hid (M1.out.setRow_other (uw1.heap.size) (e4 2) (by omega))
      replace M2 := Lib.hid (M2.out.setRow_other (uw1.heap.size) (e4 2) (by omega))
      replace M4 := Lib.hid (M4.out.setRow_other (uw1.heap.size) (e4 2) (by omega))
      have M5 := Lib.hid (mZ'.out.setRow (e4 2))
      clear mZ' hZ'
      replace HB := Lib.hid (below_setRow HB.out (uw1.heap.size) (e4 2) (by omega))
      refine wpList_nil ?_
      repeat ((fail_if_success (with_reducible (show wpList _ _ _ _ _ _))); go_step)
      refine wp_region_noPanic ?_
      refine wp_region_go 10 11 #[false, false, false, false, false, false, false, false, false, false, false] (by kernel_rfl) rfl rfl ?_
      intro W6 hW6
      have kq := M1.out; rw [← hW6] at kq; clear M1; have M1 := Lib.hid kq; clear kq
      have kq := M2.out; rw [← hW6] at kq; clear M2; have M2 := Lib.hid kq; clear kq
      have kq := M4.out; rw [← hW6] at kq; clear M4; have M4 := Lib.hid kq; clear kq
      have kq := M5.out; rw [← hW6] at kq; clear M5; have M5 := Lib.hid kq; clear kq
      have kq := HB.out; rw [← hW6] at kq; clear HB; have HB := Lib.hid kq; clear kq
      clear hW6
      have M4N := Lib.hid (by first | exact M4.out | exact M4.out.toN (by first | exact e4_size _ | exact r22_size _ | exact k32_size _ | exact pt_size .. | exact rp_size ..) : HasN W6 (B4) _ _)
      refine go_take2 0 20 #[true, false, false, false, false, false, false, false, false, false, false] rfl rfl rfl (by kernel_rfl) (yieldsIf_load_row (by rfl) 36 _ rfl (B4) rfl 36 (e4 n4) (fun _ h => M4.out.below h M4.out.lt) Try.underlying36 rfl (by rw [e4_size]; kernel_rfl)) ((below_dr W6)) ?_
      (try simp only [sI, sS, sZ])
      refine go_take2 1 21 #[true, true, false, false, false, false, false, false, false, false, false] rfl rfl rfl (by kernel_rfl) (yieldsIf_load_row (by rfl) 36 _ rfl (uw1.heap.size) rfl 36 (e4 2) (fun _ h => M5.out.below h M5.out.lt) Try.underlying36 rfl (by rw [e4_size]; kernel_rfl)) ((below_dr W6)) ?_
      (try simp only [sI, sS, sZ])
      refine go_take2 4 24 #[true, true, false, false, true, false, false, false, false, false, false] rfl rfl rfl (by kernel_rfl) (yieldsIf_load_row (by rfl) 36 _ rfl (uw1.heap.size) rfl 36 (e4 2) (fun _ h => M5.out.below h M5.out.lt) Try.underlying36 rfl (by rw [e4_size]; kernel_rfl)) ((below_dr W6)) ?_
      (try simp only [sI, sS, sZ])
      refine go_take2 7 27 #[true, true, false, false, true, false, false, true, false, false, false] rfl rfl rfl (by kernel_rfl) (yieldsIf_load_row (by rfl) 36 _ rfl (uw1.heap.size) rfl 36 (e4 2) (fun _ h => M5.out.below h M5.out.lt) Try.underlying36 rfl (by rw [e4_size]; kernel_rfl)) ((below_dr W6)) ?_
      (try simp only [sI, sS, sZ])
      refine wpBut_r1 (i := 2) (by kernel_rfl) ?_
      refine go_call 2 22 #[true, true, true, false, true, false, false, true, false, false, false] rfl rfl rfl (by rfl) rfl rfl (by rfl) ent84 (by rfl) (Hpw.out 2 two_256 _) ?_
      rintro e wW61 ⟨n5, hn5, hn5r, rfl, hb⟩
      have hkW61 := held_next (below_dr W6) hb
      refine ⟨_, rfl, fun _ => hkW61, ?_⟩
      clear hb
      (try simp only [sI, sS, sZ])
      refine wpBut_r1 (i := 3) (by kernel_rfl) ?_
      refine go_call 3 23 #[true, true, true, true, true, false, false, true, false, false, false] rfl rfl rfl (by rfl) rfl rfl (by rfl) ent83 (by rfl) (Hs3.out n5 hn5 _) ?_
      rintro e wW62 ⟨n6, hn6, hn6r, rfl, hb⟩
      have hkW62 := held_next hkW61 hb
      refine ⟨_, rfl, fun _ => hkW62, ?_⟩
      clear hb
      (try simp only [sI, sS, sZ])
      refine wpBut_r1 (i := 5) (by kernel_rfl) ?_
      refine go_call 5 25 #[true, true, true, true, true, true, false, true, false, false, false] rfl rfl rfl (by rfl) rfl rfl (by rfl) ent83 (by rfl) (Hs1.out 2 two_256 _) ?_
      rintro e wW63 ⟨n7, hn7, hn7r, rfl, hb⟩
      have hkW63 := held_next hkW62 hb
      refine ⟨_, rfl, fun _ => hkW63, ?_⟩
      clear hb
      (try simp only [sI, sS, sZ])
      refine wpBut_r1 (i := 6) (by kernel_rfl) ?_
      refine go_call 6 26 #[true, true, true, true, true, true, true, true, false, false, false] rfl rfl rfl (by rfl) rfl rfl (by rfl) ent31 (by rfl) (Ht.out n6 n7 hn6 hn7 _) ?_
      rintro e wW64 ⟨n8, hn8, hn8r, rfl, hb⟩
      have hkW64 := held_next hkW63 hb
      refine ⟨_, rfl, fun _ => hkW64, ?_⟩
      clear hb
      (try simp only [sI, sS, sZ])
      refine wpBut_r1 (i := 8) (by kernel_rfl) ?_
      refine go_call 8 28 #[true, true, true, true, true, true, true, true, true, false, false] rfl rfl rfl (by rfl) rfl rfl (by rfl) ent31 (by rfl) (Ht.out n8 2 hn8 two_256 _) ?_
      rintro e wW65 ⟨n9, hn9, hn9r, rfl, hb⟩
      have hkW65 := held_next hkW64 hb
      refine ⟨_, rfl, fun _ => hkW65, ?_⟩
      clear hb
      (try simp only [sI, sS, sZ])
      refine wpBut_r1 (i := 9) (by kernel_rfl) ?_
      refine go_call 9 29 #[true, true, true, true, true, true, true, true, true, true, false] rfl rfl rfl (by rfl) rfl rfl (by rfl) ent31 (by rfl) (Ht.out n4 n9 hn4 hn9 _) ?_
      rintro e wW66 ⟨n10, hn10, hn10r, rfl, hb⟩
      have hkW66 := held_next hkW65 hb
      refine ⟨_, rfl, fun _ => hkW66, ?_⟩
      clear hb
      (try simp only [sI, sS, sZ])
      refine wpBut_r1 (i := 10) (by kernel_rfl) ?_
      obtain ⟨Zq, hZ, mZ⟩ := M4N.out.below hkW66 M4N.out.lt
      have MZ := Lib.hid mZ; clear mZ
      have HZ := Lib.hid hZ; clear hZ
      refine go_store 10 #[true, true, true, true, true, true, true, true, true, true, true] rfl rfl rfl (by rfl) 36 _ _ rfl (B4) _ rfl rfl 36 Zq MZ.out (by rw [e4_size]; kernel_rfl) (HZ.out.trans (e4_size ..).symm) (row_one _ _ _) ⟨fun h => (h rfl).elim, ?_⟩
      (try simp only [sI, sS, sZ])
      refine wpBut_done (by kernel_rfl) (NoPanic.normal ?_)
      replace M1 := Lib.hid ((M1.out.call hkW66).setRow_other (B4) (e4 n10) (by omega))
      replace M2 := Lib.hid ((M2.out.call hkW66).setRow_other (B4) (e4 n10) (by omega))
      replace M5 := Lib.hid ((M5.out.call hkW66).setRow_other (B4) (e4 n10) (by omega))
      clear M4 M4N
      have M4 := Lib.hid (MZ.out.setRow (e4 n10)); clear MZ HZ
      replace HB := Lib.hid (below_setRow (held_next HB.out hkW66) (B4) (e4 n10) (by omega))
      have hk2 := (p_two (rt1 A) n4 n5 n6 n7 n8 n9 n10 Hk4.out hn5r hn6r hn7r hn8r hn9r hn10r).trans Hr2.out.symm
      have Hk2 := Lib.hid hk2; clear hk2
      clear M5
      repeat ((fail_if_success (with_reducible (show wpList _ _ _ _ _ _))); go_step)
      by_cases c2 : rt2 A * rt2 A % PP = A
      · have C2 := Lib.hid c2; clear c2
        refine wp_region_noPanic ?_
        refine wp_region_go 99 6 #[false, false, false, false, false, false] (by kernel_rfl) rfl rfl ?_
        intro W7 hW7
        have kq := M1.out; rw [← hW7] at kq; clear M1; have M1 := Lib.hid kq; clear kq
        have kq := M2.out; rw [← hW7] at kq; clear M2; have M2 := Lib.hid kq; clear kq
        have kq := M4.out; rw [← hW7] at kq; clear M4; have M4 := Lib.hid kq; clear kq
        have kq := HB.out; rw [← hW7] at kq; clear HB; have HB := Lib.hid kq; clear kq
        clear hW7
        refine go_take2 0 30 #[true, false, false, false, false, false] rfl rfl rfl (by kernel_rfl) (yieldsIf_load_row (by rfl) 36 _ rfl (B4) rfl 36 (e4 n10) (fun _ h => M4.out.below h M4.out.lt) Try.underlying36 rfl (by rw [e4_size]; kernel_rfl)) ((below_dr W7)) ?_
        (try simp only [sI, sS, sZ])
        refine go_take2 1 31 #[true, true, false, false, false, false] rfl rfl rfl (by kernel_rfl) (yieldsIf_load_row (by rfl) 36 _ rfl (B4) rfl 36 (e4 n10) (fun _ h => M4.out.below h M4.out.lt) Try.underlying36 rfl (by rw [e4_size]; kernel_rfl)) ((below_dr W7)) ?_
        (try simp only [sI, sS, sZ])
        refine go_take2 3 33 #[true, true, false, true, false, false] rfl rfl rfl (by kernel_rfl) (yieldsIf_load_row (by rfl) 36 _ rfl (w.heap.size) rfl 36 (e4 a) (fun _ h => M1.out.below h M1.out.lt) Try.underlying36 rfl (by rw [e4_size]; kernel_rfl)) ((below_dr W7)) ?_
        (try simp only [sI, sS, sZ])
        refine wpBut_r1 (i := 2) (by kernel_rfl) ?_
        refine go_call 2 32 #[true, true, true, true, false, false] rfl rfl rfl (by rfl) rfl rfl (by rfl) ent31 (by rfl) (Ht.out n10 n10 hn10 hn10 _) ?_
        rintro e wW71 ⟨q2, hq2, hq2r, rfl, hb⟩
        have hkW71 := held_next (below_dr W7) hb
        refine ⟨_, rfl, fun _ => hkW71, ?_⟩
        clear hb
        (try simp only [sI, sS, sZ])
        refine wpBut_r1 (i := 4) (by kernel_rfl) ?_
        refine go_call 4 34 #[true, true, true, true, true, false] rfl rfl rfl (by rfl) rfl rfl (by rfl) ent41 (by rfl) (Hyes.out q2 a hq2 Ha.out (by rw [hq2r, Nat.mul_mod, Hk2.out]; exact C2.out.trans HA.out) _) ?_
        rintro e wW72 ⟨rfl, hb⟩
        have hkW72 := held_next hkW71 hb
        refine ⟨_, rfl, fun _ => hkW72, ?_⟩
        clear hb
        (try simp only [sI, sS, sZ])
        refine go_take2 5 35 #[true, true, true, true, true, true] (v := ?uv5) rfl rfl rfl (by kernel_rfl) (Or.inl ⟨by rfl, ?uy5⟩) (hkW72) ?urest5
        case uy5 => (intro _ _; go_simp; try with_reducible rfl)
        (try simp only [sI, sS, sZ])
        refine wpBut_done (by kernel_rfl) (NoPanic.normal ?_)
        replace M1 := Lib.hid (M1.out.call hkW72)
        replace M2 := Lib.hid (M2.out.call hkW72)
        replace M4 := Lib.hid (M4.out.call hkW72)
        replace HB := Lib.hid (held_next HB.out hkW72)
        repeat ((fail_if_success (with_reducible (show wpList _ _ _ _ _ _))); go_step)
        by_cases c3 : rt2 A % 2 = 1
        · obtain ⟨hf3, hfo⟩ := rt3_odd A C2.out c3
          have hE := fun w => Hevn.out n10 hn10 (by rw [Hk2.out]; exact c3) w
          have C3 := Lib.hid c3; clear c3
          have Hf3 := Lib.hid hf3; clear hf3
          have Hfo := Lib.hid hfo; clear hfo
          have HE := Lib.hid hE; clear hE
          refine wpList_load (by rfl) 36 _ rfl (B4) rfl 36 (e4 n10) M4.out Try.underlying36 rfl (by rw [e4_size]; kernel_rfl) 37 rfl ?_
          (try simp only [Act.put, sI, sS, sZ])
          refine wpList_call (by rfl) rfl rfl (by rfl) ent36 (by rfl) (HE.out _) 38 rfl ?_
          rintro e uw2 ⟨rfl, hb⟩
          replace M1 := Lib.hid (M1.out.call hb)
          replace M2 := Lib.hid (M2.out.call hb)
          replace M4 := Lib.hid (M4.out.call hb)
          replace HB := Lib.hid (held_next HB.out hb)
          refine ⟨_, rfl, ?_⟩
          clear hb
          (try simp only [Act.put, sI, sS, sZ])
          refine wpList_step (fun K hK => ?_)
          go_simp
          (try go_bits)
          refine hK _ _ ?_
          clear hK K
          refine wpList_nil ?_
          repeat ((fail_if_success (with_reducible (show wpList _ _ _ _ _ _))); go_step)
          refine wpList_step (fun K hK => ?_)
          go_simp
          (try go_bits)
          rw [Hz0.out]
          refine hK _ _ ?_
          clear hK K
          refine wpList_load (by rfl) 36 _ rfl (B4) rfl 36 (e4 n10) M4.out Try.underlying36 rfl (by rw [e4_size]; kernel_rfl) 41 rfl ?_
          (try simp only [Act.put, sI, sS, sZ])
          refine wpList_call (by rfl) rfl rfl (by rfl) ent39 (by rfl) (Hmin.out 0 n10 (by decide) hn10 _) 42 rfl ?_
          rintro e uw3 ⟨m, hm, hmr, rfl, hb⟩
          replace M1 := Lib.hid (M1.out.call hb)
          replace M2 := Lib.hid (M2.out.call hb)
          replace M4 := Lib.hid (M4.out.call hb)
          replace HB := Lib.hid (held_next HB.out hb)
          refine ⟨_, rfl, ?_⟩
          clear hb
          (try simp only [Act.put, sI, sS, sZ])
          first | (obtain ⟨Zq, hZ, mZ⟩ := M4.out) | (obtain ⟨Zq, hZ, mZ⟩ := M4.out.toN (e4_size _))
          clear M4
          have hZ' := Lib.hid hZ; clear hZ
          have mZ' := Lib.hid mZ; clear mZ
          refine wpList_store_row rfl 36 _ _ rfl (B4) _ rfl rfl 36 Zq mZ'.out (by rw [e4_size]; kernel_rfl) (hZ'.out.trans (e4_size _).symm) (row_one _ _ _) ?_
          (try simp only [Act.put, sI, sS, sZ])
          replace M1 := Lib.hid (M1.out.setRow_other (B4) (e4 m) (by omega))
          replace M2 := Lib.hid (M2.out.setRow_other (B4) (e4 m) (by omega))
          have M4 := Lib.hid (mZ'.out.setRow (e4 m))
          clear mZ' hZ'
          replace HB := Lib.hid (below_setRow HB.out (B4) (e4 m) (by omega))
          refine wpList_nil ?_
          have Hmr := Lib.hid hmr; clear hmr
          repeat ((fail_if_success (with_reducible (show wpList _ _ _ _ _ _))); go_step)
          refine wpList_load (by rfl) 36 _ rfl (B4) rfl 36 (e4 m) M4.out Try.underlying36 rfl (by rw [e4_size]; kernel_rfl) 43 rfl ?_
          (try simp only [Act.put, sI, sS, sZ])
          first | (obtain ⟨Zq, hZ, mZ⟩ := M2.out) | (obtain ⟨Zq, hZ, mZ⟩ := M2.out.toN (e4_size _))
          clear M2
          have hZ' := Lib.hid hZ; clear hZ
          have mZ' := Lib.hid mZ; clear mZ
          refine wpList_store_row rfl 36 _ _ rfl (w.heap.size + 1) _ rfl rfl 36 Zq mZ'.out (by rw [e4_size]; kernel_rfl) (hZ'.out.trans (e4_size _).symm) (row_one _ _ _) ?_
          (try simp only [Act.put, sI, sS, sZ])
          replace M1 := Lib.hid (M1.out.setRow_other (w.heap.size + 1) (e4 m) (by omega))
          replace M4 := Lib.hid (M4.out.setRow_other (w.heap.size + 1) (e4 m) (by omega))
          have M2 := Lib.hid (mZ'.out.setRow (e4 m))
          clear mZ' hZ'
          replace HB := Lib.hid (below_setRow HB.out (w.heap.size + 1) (e4 m) (by omega))
          refine wpList_step (fun K hK => ?_)
          go_simp
          (try go_bits)
          refine hK _ _ ?_
          clear hK K
          refine wpList_nil ?_
          go_wp2_with fail
          exact bodyPost_ret (v := .tuple #[.agg (e4 m), .bool true]) (results_cell_tmp_row (fn := Try.f44) (p := 2) (t2 := 3) (ty := 36) (t := 36) (by rfl) _ _ (w.heap.size + 1) _ _ _ rfl M2.out Try.underlying36 rfl (by rw [e4_size]; kernel_rfl)) rfl ⟨m, hm, by rw [Hf3.out, Hmr.out, Hk2.out], by rw [Hfo.out], HB.out⟩
        · obtain ⟨hf3, hfo⟩ := rt3_evn A C2.out c3
          have hE := fun w => Hevy.out n10 hn10 (by rw [Hk2.out]; omega) w
          have C3 := Lib.hid c3; clear c3
          have Hf3 := Lib.hid hf3; clear hf3
          have Hfo := Lib.hid hfo; clear hfo
          have HE := Lib.hid hE; clear hE
          refine wpList_load (by rfl) 36 _ rfl (B4) rfl 36 (e4 n10) M4.out Try.underlying36 rfl (by rw [e4_size]; kernel_rfl) 37 rfl ?_
          (try simp only [Act.put, sI, sS, sZ])
          refine wpList_call (by rfl) rfl rfl (by rfl) ent36 (by rfl) (HE.out _) 38 rfl ?_
          rintro e uw2 ⟨rfl, hb⟩
          replace M1 := Lib.hid (M1.out.call hb)
          replace M2 := Lib.hid (M2.out.call hb)
          replace M4 := Lib.hid (M4.out.call hb)
          replace HB := Lib.hid (held_next HB.out hb)
          refine ⟨_, rfl, ?_⟩
          clear hb
          (try simp only [Act.put, sI, sS, sZ])
          refine wpList_step (fun K hK => ?_)
          go_simp
          (try go_bits)
          refine hK _ _ ?_
          clear hK K
          refine wpList_nil ?_
          repeat ((fail_if_success (with_reducible (show wpList _ _ _ _ _ _))); go_step)
          refine wpList_load (by rfl) 36 _ rfl (B4) rfl 36 (e4 n10) M4.out Try.underlying36 rfl (by rw [e4_size]; kernel_rfl) 43 rfl ?_
          (try simp only [Act.put, sI, sS, sZ])
          first | (obtain ⟨Zq, hZ, mZ⟩ := M2.out) | (obtain ⟨Zq, hZ, mZ⟩ := M2.out.toN (e4_size _))
          clear M2
          have hZ' := Lib.hid hZ; clear hZ
          have mZ' := Lib.hid mZ; clear mZ
          refine wpList_store_row rfl 36 _ _ rfl (w.heap.size + 1) _ rfl rfl 36 Zq mZ'.out (by rw [e4_size]; kernel_rfl) (hZ'.out.trans (e4_size _).symm) (row_one _ _ _) ?_
          (try simp only [Act.put, sI, sS, sZ])
          replace M1 := Lib.hid (M1.out.setRow_other (w.heap.size + 1) (e4 n10) (by omega))
          replace M4 := Lib.hid (M4.out.setRow_other (w.heap.size + 1) (e4 n10) (by omega))
          have M2 := Lib.hid (mZ'.out.setRow (e4 n10))
          clear mZ' hZ'
          replace HB := Lib.hid (below_setRow HB.out (w.heap.size + 1) (e4 n10) (by omega))
          refine wpList_step (fun K hK => ?_)
          go_simp
          (try go_bits)
          refine hK _ _ ?_
          clear hK K
          refine wpList_nil ?_
          go_wp2_with fail
          exact bodyPost_ret (v := .tuple #[.agg (e4 n10), .bool true]) (results_cell_tmp_row (fn := Try.f44) (p := 2) (t2 := 3) (ty := 36) (t := 36) (by rfl) _ _ (w.heap.size + 1) _ _ _ rfl M2.out Try.underlying36 rfl (by rw [e4_size]; kernel_rfl)) rfl ⟨n10, hn10, by rw [Hf3.out, Hk2.out], by rw [Hfo.out], HB.out⟩
      · obtain ⟨hf3, hfo⟩ := rt3_non A c2
        have C2 := Lib.hid c2; clear c2
        have Hf3 := Lib.hid hf3; clear hf3
        have Hfo := Lib.hid hfo; clear hfo
        refine wp_region_noPanic ?_
        refine wp_region_go 99 6 #[false, false, false, false, false, false] (by kernel_rfl) rfl rfl ?_
        intro W7 hW7
        have kq := M1.out; rw [← hW7] at kq; clear M1; have M1 := Lib.hid kq; clear kq
        have kq := M2.out; rw [← hW7] at kq; clear M2; have M2 := Lib.hid kq; clear kq
        have kq := M4.out; rw [← hW7] at kq; clear M4; have M4 := Lib.hid kq; clear kq
        have kq := HB.out; rw [← hW7] at kq; clear HB; have HB := Lib.hid kq; clear kq
        clear hW7
        refine go_take2 0 30 #[true, false, false, false, false, false] rfl rfl rfl (by kernel_rfl) (yieldsIf_load_row (by rfl) 36 _ rfl (B4) rfl 36 (e4 n10) (fun _ h => M4.out.below h M4.out.lt) Try.underlying36 rfl (by rw [e4_size]; kernel_rfl)) ((below_dr W7)) ?_
        (try simp only [sI, sS, sZ])
        refine go_take2 1 31 #[true, true, false, false, false, false] rfl rfl rfl (by kernel_rfl) (yieldsIf_load_row (by rfl) 36 _ rfl (B4) rfl 36 (e4 n10) (fun _ h => M4.out.below h M4.out.lt) Try.underlying36 rfl (by rw [e4_size]; kernel_rfl)) ((below_dr W7)) ?_
        (try simp only [sI, sS, sZ])
        refine go_take2 3 33 #[true, true, false, true, false, false] rfl rfl rfl (by kernel_rfl) (yieldsIf_load_row (by rfl) 36 _ rfl (w.heap.size) rfl 36 (e4 a) (fun _ h => M1.out.below h M1.out.lt) Try.underlying36 rfl (by rw [e4_size]; kernel_rfl)) ((below_dr W7)) ?_
        (try simp only [sI, sS, sZ])
        refine wpBut_r1 (i := 2) (by kernel_rfl) ?_
        refine go_call 2 32 #[true, true, true, true, false, false] rfl rfl rfl (by rfl) rfl rfl (by rfl) ent31 (by rfl) (Ht.out n10 n10 hn10 hn10 _) ?_
        rintro e wW71 ⟨q2, hq2, hq2r, rfl, hb⟩
        have hkW71 := held_next (below_dr W7) hb
        refine ⟨_, rfl, fun _ => hkW71, ?_⟩
        clear hb
        (try simp only [sI, sS, sZ])
        refine wpBut_r1 (i := 4) (by kernel_rfl) ?_
        refine go_call 4 34 #[true, true, true, true, true, false] rfl rfl rfl (by rfl) rfl rfl (by rfl) ent41 (by rfl) (Hnot.out q2 a hq2 Ha.out (by rw [hq2r, Nat.mul_mod, Hk2.out]; exact fun h => C2.out (h.trans HA.out.symm)) _) ?_
        rintro e wW72 ⟨rfl, hb⟩
        have hkW72 := held_next hkW71 hb
        refine ⟨_, rfl, fun _ => hkW72, ?_⟩
        clear hb
        (try simp only [sI, sS, sZ])
        refine go_take2 5 35 #[true, true, true, true, true, true] (v := ?uv6) rfl rfl rfl (by kernel_rfl) (Or.inl ⟨by rfl, ?uy6⟩) (hkW72) ?urest6
        case uy6 => (intro _ _; go_simp; try with_reducible rfl)
        (try simp only [sI, sS, sZ])
        refine wpBut_done (by kernel_rfl) (NoPanic.normal ?_)
        replace M1 := Lib.hid (M1.out.call hkW72)
        replace M2 := Lib.hid (M2.out.call hkW72)
        replace M4 := Lib.hid (M4.out.call hkW72)
        replace HB := Lib.hid (held_next HB.out hkW72)
        repeat ((fail_if_success (with_reducible (show wpList _ _ _ _ _ _))); go_step)
        refine wpList_step (fun K hK => ?_)
        go_simp
        (try go_bits)
        rw [Hz0.out]
        refine hK _ _ ?_
        clear hK K
        first | (obtain ⟨Zq, hZ, mZ⟩ := M2.out) | (obtain ⟨Zq, hZ, mZ⟩ := M2.out.toN (e4_size _))
        clear M2
        have hZ' := Lib.hid hZ; clear hZ
        have mZ' := Lib.hid mZ; clear mZ
        refine wpList_store_row rfl 36 _ _ rfl (w.heap.size + 1) _ rfl rfl 36 Zq mZ'.out (by rw [e4_size]; kernel_rfl) (hZ'.out.trans (e4_size _).symm) (row_one _ _ _) ?_
        (try simp only [Act.put, sI, sS, sZ])
        replace M1 := Lib.hid (M1.out.setRow_other (w.heap.size + 1) (e4 0) (by omega))
        replace M4 := Lib.hid (M4.out.setRow_other (w.heap.size + 1) (e4 0) (by omega))
        have M2 := Lib.hid (mZ'.out.setRow (e4 0))
        clear mZ' hZ'
        replace HB := Lib.hid (below_setRow HB.out (w.heap.size + 1) (e4 0) (by omega))
        refine wpList_step (fun K hK => ?_)
        go_simp
        (try go_bits)
        refine hK _ _ ?_
        clear hK K
        refine wpList_nil ?_
        go_wp2_with fail
        exact bodyPost_ret (v := .tuple #[.agg (e4 0), .bool false]) (results_cell_tmp_row (fn := Try.f44) (p := 2) (t2 := 3) (ty := 36) (t := 36) (by rfl) _ _ (w.heap.size + 1) _ _ _ rfl M2.out Try.underlying36 rfl (by rw [e4_size]; kernel_rfl)) rfl ⟨0, by decide, Hf3.out, by rw [Hfo.out], HB.out⟩
end Go.Proofs.Ytjiagjonlcadiaa
