/- The reference's Root. -/
import Derived.Test.YtjiagjonlcadiaaRefH
import Derived.Test.YtjiagjonlcadiaaStep
namespace Go.Proofs.Ytjiagjonlcadiaa
open Go.RowKit Go.Lib

/-- the reference's root: of a number a -/
def rt1 (a : Nat) : Nat := pwm a ((PP + 3) / 2 / 2 / 2)
def rti : Nat := pwm (2 % PP) ((PP - 1 % PP) / 2 / 2)
def rt2 (a : Nat) : Nat := if rt1 a * rt1 a % PP = a then rt1 a else rt1 a * rti % PP
def rtok (a : Nat) : Bool := decide (rt2 a * rt2 a % PP = a)
def rt3 (a : Nat) : Nat := if rtok a then (if rt2 a % 2 = 1 then PP - rt2 a else rt2 a) else 0

theorem p3_row : row .i64 22 (upd (dg 4096 PP) 0 4080) = r22 (PP + 3) := by
  refine row_ext _ _ _ _ ?_
  have : (List.range 22).all (fun i => upd (dg 4096 PP) 0 4080 i == dg 4096 (PP + 3) i) = true := by decide +kernel
  intro i hi
  simpa using List.all_eq_true.1 this i (by simpa using hi)
theorem pp0 : dg 4096 PP 0 = 4077 := by decide +kernel
theorem p3_lt : PP + 3 < 4096 ^ 22 := by decide +kernel
theorem r22_eq (x y : Nat) (hx : x < 4096 ^ 22) (hy : y < 4096 ^ 22) (w : World) : (Op.equalIn 10000 40 (.agg (r22 x)) (.agg (r22 y))).run Try.prog w = .ok (decide (x = y)) w := by
  rw [← eqr_dg 4096 22 x y hx hy]
  exact run_equalIn_row w 9998 40 3 22 .i64 Try.underlying40 Try.underlying3 sz_int _ _
theorem ei_lt : (PP - 1 % PP) / 2 / 2 < 2 ^ 255 := by decide +kernel
theorem half_lt (n : Nat) (h : n < 4096 ^ 22) : n / 2 < 4096 ^ 22 := Nat.lt_of_le_of_lt (Nat.div_le_self _ _) h
theorem e3_lt : (PP + 3) / 2 / 2 / 2 < 2 ^ 255 := by decide +kernel

theorem ent32 : Enters Try.prog 32 := ⟨_, Try.func32, by kernel_rfl, by kernel_rfl⟩
theorem ent35 : Enters Try.prog 35 := ⟨_, Try.func35, by kernel_rfl, by kernel_rfl⟩
theorem ent81 : Enters Try.prog 81 := ⟨_, Try.func81, by kernel_rfl, by kernel_rfl⟩
theorem ent82 : Enters Try.prog 82 := ⟨_, Try.func82, by kernel_rfl, by kernel_rfl⟩
theorem ent85 : Enters Try.prog 85 := ⟨_, Try.func85, by kernel_rfl, by kernel_rfl⟩
theorem ent86 : Enters Try.prog 86 := ⟨_, Try.func86, by kernel_rfl, by kernel_rfl⟩
theorem r2_cases (a : Nat) (h : rt1 a * rt1 a % PP = a) : rt2 a = rt1 a := by unfold rt2; rw [if_pos h]
theorem r2_other (a : Nat) (h : ¬ rt1 a * rt1 a % PP = a) : rt2 a = rt1 a * rti % PP := by unfold rt2; rw [if_neg h]
theorem rr_lt (a : Nat) : rt2 a < PP := by
  unfold rt2
  by_cases h : rt1 a * rt1 a % PP = a
  · rw [if_pos h]; delta rt1; exact pwm_lt _ _
  · rw [if_neg h]; exact Nat.mod_lt _ PP_pos
theorem r3_odd (a : Nat) (h : rt2 a * rt2 a % PP = a) (ho : rt2 a % 2 = 1) : rt3 a = PP - rt2 a ∧ rtok a = true := by
  have h1 : rtok a = true := by unfold rtok; exact decide_eq_true h
  refine ⟨?_, h1⟩
  unfold rt3
  rw [h1, if_pos rfl, if_pos ho]
theorem r3_even (a : Nat) (h : rt2 a * rt2 a % PP = a) (ho : ¬ rt2 a % 2 = 1) : rt3 a = rt2 a ∧ rtok a = true := by
  have h1 : rtok a = true := by unfold rtok; exact decide_eq_true h
  refine ⟨?_, h1⟩
  unfold rt3
  rw [h1, if_pos rfl, if_neg ho]
theorem r3_non (a : Nat) (h : ¬ rt2 a * rt2 a % PP = a) : rt3 a = 0 ∧ rtok a = false := by
  have h1 : rtok a = false := by unfold rtok; exact decide_eq_false h
  refine ⟨?_, h1⟩
  unfold rt3
  rw [h1, if_neg (by decide)]
theorem r22_same (x : Nat) (hx : x < 4096 ^ 22) (w : World) : (Op.equalIn 10000 40 (.agg (r22 x)) (.agg (r22 x))).run Try.prog w = .ok true w := by
  rw [r22_eq x x hx hx w, decide_eq_true rfl]
theorem r22_other (x y : Nat) (hx : x < 4096 ^ 22) (hy : y < 4096 ^ 22) (h : ¬ x = y) (w : World) : (Op.equalIn 10000 40 (.agg (r22 x)) (.agg (r22 y))).run Try.prog w = .ok false w := by
  rw [r22_eq x y hx hy w, decide_eq_false h]
theorem PPr_22 (x : Nat) (h : x < PP) : x < 4096 ^ 22 := Nat.lt_trans h PP_lt
theorem dg0_odd (r : Nat) (h : r % 2 = 1) : (dg 4096 r 0 % 2 == 1) = true := by
  have hz0 : dg 4096 r 0 % 2 = ((r % 2 : Nat) : Int) := by unfold dg; rw [Nat.pow_zero, Nat.div_one]; omega
  rw [hz0, h]; rfl
theorem dg0_even (r : Nat) (h : ¬ r % 2 = 1) : (dg 4096 r 0 % 2 == 1) = false := by
  have hz0 : dg 4096 r 0 % 2 = ((r % 2 : Nat) : Int) := by unfold dg; rw [Nat.pow_zero, Nat.div_one]; omega
  rw [hz0, show r % 2 = 0 by omega]; rfl

set_option maxRecDepth 100000 in
set_option linter.unusedSimpArgs false in
set_option maxHeartbeats 4000000 in
theorem rroot_any (a : Nat) (ha : a < PP) (w : World) :
    Calls Try.prog 45 #[.agg (r22 a)] w fun en w' => en = .returned (.tuple #[.agg (r22 (rt3 a)), .bool (rtok a)]) ∧ Below w.heap.size w w' := by
  have hp3r := p3_row
  have hp0 := pp0
  have hh1 := fun w => half_any (PP + 3) p3_lt w
  have hh2 := fun w => half_any ((PP + 3) / 2) (half_lt _ p3_lt) w
  have hh3 := fun w => half_any ((PP + 3) / 2 / 2) (half_lt _ (half_lt _ p3_lt)) w
  have hpw := fun w => rpow_any a ((PP + 3) / 2 / 2 / 2) ha e3_lt w
  have hr1 : rt1 a < PP := pwm_lt _ _
  rw [show pwm a ((PP + 3) / 2 / 2 / 2) = rt1 a from rfl] at hpw
  obtain ⟨q, hq⟩ : ∃ q, q = PP + 3 := ⟨_, rfl⟩
  rw [← hq] at hp3r hh1 hh2 hh3 hpw
  obtain ⟨q1, hq1⟩ : ∃ x, x = q / 2 := ⟨_, rfl⟩
  rw [← hq1] at hh1 hh2 hh3 hpw
  obtain ⟨q2, hq2⟩ : ∃ x, x = q1 / 2 := ⟨_, rfl⟩
  rw [← hq2] at hh2 hh3 hpw
  obtain ⟨q3, hq3⟩ : ∃ x, x = q2 / 2 := ⟨_, rfl⟩
  rw [← hq3] at hh3 hpw
  obtain ⟨r1, hrr⟩ : ∃ x, x = rt1 a := ⟨_, rfl⟩
  rw [← hrr] at hpw hr1
  have Hp3r := Lib.hid hp3r; clear hp3r
  have Hp0 := Lib.hid hp0; clear hp0
  have Hh1 := Lib.hid hh1; clear hh1
  have Hh2 := Lib.hid hh2; clear hh2
  have Hh3 := Lib.hid hh3; clear hh3
  have Hpw := Lib.hid hpw; clear hpw
  have Hr1 := Lib.hid hr1; clear hr1
  have Hrr := Lib.hid hrr; clear hrr
  clear hq hq1 hq2 hq3
  go_enter Try.func45, Try.ntmps45
  go_wp2_with fail
  refine (prime_any _).mono ?_
  rintro en w1 ⟨rfl, b1⟩
  have m0 := ((Has.new w (r22 a) 40).alloc (.cells (#[.int .i64 0, .int .i64 0, .int .i64 0, .int .i64 0, .int .i64 0, .int .i64 0, .int .i64 0, .int .i64 0, .int .i64 0, .int .i64 0, .int .i64 0, .int .i64 0, .int .i64 0, .int .i64 0, .int .i64 0, .int .i64 0, .int .i64 0, .int .i64 0, .int .i64 0, .int .i64 0, .int .i64 0, .int .i64 0] : Array Value) 40)).call b1
  have m1 := (HasN.new1 w (.cells (r22 a) 40) (#[.int .i64 0, .int .i64 0, .int .i64 0, .int .i64 0, .int .i64 0, .int .i64 0, .int .i64 0, .int .i64 0, .int .i64 0, .int .i64 0, .int .i64 0, .int .i64 0, .int .i64 0, .int .i64 0, .int .i64 0, .int .i64 0, .int .i64 0, .int .i64 0, .int .i64 0, .int .i64 0, .int .i64 0, .int .i64 0] : Array Value) 40 22 rfl).call b1
  have hB := held_next (below_2 w (.cells (r22 a) 40) (.cells (#[.int .i64 0, .int .i64 0, .int .i64 0, .int .i64 0, .int .i64 0, .int .i64 0, .int .i64 0, .int .i64 0, .int .i64 0, .int .i64 0, .int .i64 0, .int .i64 0, .int .i64 0, .int .i64 0, .int .i64 0, .int .i64 0, .int .i64 0, .int .i64 0, .int .i64 0, .int .i64 0, .int .i64 0, .int .i64 0] : Array Value) 40)) b1
  clear b1
  have hlt1 := m1.lt
  obtain ⟨Z, hZ, mz⟩ := HasN.new w1 (#[.int .i64 0, .int .i64 0, .int .i64 0, .int .i64 0, .int .i64 0, .int .i64 0, .int .i64 0, .int .i64 0, .int .i64 0, .int .i64 0, .int .i64 0, .int .i64 0, .int .i64 0, .int .i64 0, .int .i64 0, .int .i64 0, .int .i64 0, .int .i64 0, .int .i64 0, .int .i64 0, .int .i64 0, .int .i64 0] : Array Value) 40 22 rfl
  have q0 := (m0.alloc (.cells (#[.int .i64 0, .int .i64 0, .int .i64 0, .int .i64 0, .int .i64 0, .int .i64 0, .int .i64 0, .int .i64 0, .int .i64 0, .int .i64 0, .int .i64 0, .int .i64 0, .int .i64 0, .int .i64 0, .int .i64 0, .int .i64 0, .int .i64 0, .int .i64 0, .int .i64 0, .int .i64 0, .int .i64 0, .int .i64 0] : Array Value) 40)).setRow_other w1.heap.size (r22 PP) (by omega)
  have qq1 := (m1.alloc (.cells (#[.int .i64 0, .int .i64 0, .int .i64 0, .int .i64 0, .int .i64 0, .int .i64 0, .int .i64 0, .int .i64 0, .int .i64 0, .int .i64 0, .int .i64 0, .int .i64 0, .int .i64 0, .int .i64 0, .int .i64 0, .int .i64 0, .int .i64 0, .int .i64 0, .int .i64 0, .int .i64 0, .int .i64 0, .int .i64 0] : Array Value) 40)).setRow_other w1.heap.size (r22 PP) (by omega)
  have qq4 := mz.setRow (r22 PP)
  have hB2 := below_setRow (hB.alloc hB.size (.cells (#[.int .i64 0, .int .i64 0, .int .i64 0, .int .i64 0, .int .i64 0, .int .i64 0, .int .i64 0, .int .i64 0, .int .i64 0, .int .i64 0, .int .i64 0, .int .i64 0, .int .i64 0, .int .i64 0, .int .i64 0, .int .i64 0, .int .i64 0, .int .i64 0, .int .i64 0, .int .i64 0, .int .i64 0, .int .i64 0] : Array Value) 40)) w1.heap.size (r22 PP) hB.size
  have h1 := qq4.cell 0 (by omega)
  have hfz := qq4.frozen 0
  rw [Hp0.out] at h1
  have p4 := qq4.set 0 4080
  rw [Hp3r.out] at p4
  have p0 := q0.other ⟨w1.heap.size, 0, none⟩ (.int .i64 4080) (by simp <;> omega)
  have p1 := qq1.other ⟨w1.heap.size, 0, none⟩ (.int .i64 4080) (by simp <;> omega)
  have hB3 := hB2.setCell (p := ⟨w1.heap.size, 0, none⟩) (show w.heap.size ≤ w1.heap.size by omega) (.int .i64 4080)
  clear q0 qq1 hB hB2 m0 m1
  have Mz := Lib.hid mz; clear mz
  have HZ := Lib.hid hZ; clear hZ
  have P0 := Lib.hid p0; clear p0
  have P1 := Lib.hid p1; clear p1
  have P4 := Lib.hid p4; clear p4
  have HB3 := Lib.hid hB3; clear hB3
  have Qq4 := Lib.hid qq4; clear qq4
  go_wp2_with (refine wpList_store_row rfl 40 _ _ rfl (w1.heap.size) _ rfl rfl 40 Z Mz.out (by rw [r22_size]; kernel_rfl) (HZ.out.trans (r22_size _).symm) (row_one _ _ _) ?_)
  clear Mz HZ Qq4 h1 hfz
  refine wp_region_meet (α := Nat) (fun W0 x w' => W0.heap.size ≤ x ∧ Has w' x (r22 r1) 40 ∧ Below W0.heap.size W0 w') (fun ac x => (((((((ac.put (some 11) (.agg (r22 a))).put (some 12) (.agg (r22 q))).put (some 13) (.agg (r22 q1))).put (some 14) (.agg (r22 q2))).put (some 15) (.agg (r22 q3))).put (some 16) (.agg (r22 r1))).put (some 5) (.pointer (some ⟨x, 0, none⟩)))) ?_ ?_
  · intro Q' hQ'
    refine wp_region_noPanic ?_
    refine wp_region_go 99 8 #[false, false, false, false, false, false, false, false] (by kernel_rfl) rfl rfl ?_
    intro W1 hW1
    rw [← hW1] at hQ'
    simp only [Act.put, List.setIfInBounds_toArray, List.set_cons_succ, List.set_cons_zero] at hQ'
    have HQ := Lib.hid hQ'; clear hQ'
    have kq := P0.out; rw [← hW1] at kq; clear P0; have P0 := Lib.hid kq; clear kq
    have kq := P1.out; rw [← hW1] at kq; clear P1; have P1 := Lib.hid kq; clear kq
    have kq := P4.out; rw [← hW1] at kq; clear P4; have P4 := Lib.hid kq; clear kq
    have kq := HB3.out; rw [← hW1] at kq; clear HB3; have HB3 := Lib.hid kq; clear kq
    clear hW1
    refine go_take2 0 11 #[true, false, false, false, false, false, false, false] rfl rfl rfl (by kernel_rfl) (yieldsIf_load_row (by rfl) 40 _ rfl (w.heap.size) rfl 40 (r22 a) (fun _ h => P0.out.below h P0.out.lt) Try.underlying40 rfl (by rw [r22_size]; kernel_rfl)) ((below_dr W1)) ?_
    (try simp only [sI, sS, sZ])
    refine go_take2 1 12 #[true, true, false, false, false, false, false, false] rfl rfl rfl (by kernel_rfl) (yieldsIf_load_row (by rfl) 40 _ rfl (w1.heap.size) rfl 40 (r22 q) (fun _ h => P4.out.below h P4.out.lt) Try.underlying40 rfl (by rw [r22_size]; kernel_rfl)) ((below_dr W1)) ?_
    (try simp only [sI, sS, sZ])
    refine wpBut_r2 (i := 2) (j := 6) (by kernel_rfl) ?_ ?_
    refine go_call 2 13 #[true, true, true, false, false, false, false, false] rfl rfl rfl (by rfl) rfl rfl (by rfl) ent86 (by rfl) (Hh1.out _) ?_
    rintro e wW11 ⟨rfl, hb⟩
    have hkW11 := held_next (below_dr W1) hb
    refine ⟨_, rfl, fun _ => hkW11, ?_⟩
    clear hb
    (try simp only [sI, sS, sZ])
    refine wpBut_r2 (i := 3) (j := 6) (by kernel_rfl) ?_ ?_
    refine go_call 3 14 #[true, true, true, true, false, false, false, false] rfl rfl rfl (by rfl) rfl rfl (by rfl) ent86 (by rfl) (Hh2.out _) ?_
    rintro e wW12 ⟨rfl, hb⟩
    have hkW12 := held_next hkW11 hb
    refine ⟨_, rfl, fun _ => hkW12, ?_⟩
    clear hb
    (try simp only [sI, sS, sZ])
    refine wpBut_r2 (i := 4) (j := 6) (by kernel_rfl) ?_ ?_
    refine go_call 4 15 #[true, true, true, true, true, false, false, false] rfl rfl rfl (by rfl) rfl rfl (by rfl) ent86 (by rfl) (Hh3.out _) ?_
    rintro e wW13 ⟨rfl, hb⟩
    have hkW13 := held_next hkW12 hb
    refine ⟨_, rfl, fun _ => hkW13, ?_⟩
    clear hb
    (try simp only [sI, sS, sZ])
    refine wpBut_r2 (i := 5) (j := 6) (by kernel_rfl) ?_ ?_
    refine go_call 5 16 #[true, true, true, true, true, true, false, false] rfl rfl rfl (by rfl) rfl rfl (by rfl) ent85 (by rfl) (Hpw.out _) ?_
    rintro e wW14 ⟨rfl, hb⟩
    have hkW14 := held_next hkW13 hb
    refine ⟨_, rfl, fun _ => hkW14, ?_⟩
    clear hb
    (try simp only [sI, sS, sZ])
    refine wpBut_r1 (i := 6) (by kernel_rfl) ?_
    refine go_alloc 6 5 #[true, true, true, true, true, true, true, false] rfl rfl rfl (by rfl) 40 rfl _ al40 ?_
    intro wW15 hw2
    have hkW15 := (hkW14).alloc (hkW14).size (.cells z40 40)
    rw [← hw2] at hkW15
    have MQ := HasN.new (wW14) z40 40 22 (by kernel_rfl); rw [← hw2] at MQ; have MA6 := Lib.hid MQ; clear MQ
    have HA6 := Lib.hid (show W1.heap.size ≤ _ from (hkW14).size)
    clear hw2
    refine ⟨fun _ => hkW15, ?_⟩
    (try simp only [sI, sS, sZ])
    refine wpBut_r1 (i := 7) (by kernel_rfl) ?_
    obtain ⟨Zq, hZ, mZ⟩ := MA6.out
    refine go_store2 7 #[true, true, true, true, true, true, true, true] rfl rfl rfl (by rfl) 40 _ _ rfl _ _ rfl rfl 40 Zq mZ (by rw [r22_size]; kernel_rfl) (hZ.trans (r22_size ..).symm) (row_one _ _ _) ?_
    intro wW16 hw2
    have hkW16 := below_setRow (hkW15) _ (r22 r1) HA6.out
    rw [← hw2] at hkW16
    clear MA6
    have MQ := mZ.setRow (r22 r1); rw [← hw2] at MQ; have MA6 := Lib.hid MQ; clear MQ mZ hZ hw2
    refine ⟨fun _ => hkW16, ?_⟩
    (try simp only [sI, sS, sZ])
    exact wpBut_done (by kernel_rfl) (NoPanic.normal (HQ.out (_) _ ⟨HA6.out, MA6.out, (hkW16)⟩))
    refine go_alloc 6 5 #[true, true, true, true, true, false, true, false] rfl rfl rfl (by rfl) 40 rfl _ al40 ?_
    intro wW14 hw2
    have hkW14 := (hkW13).alloc (hkW13).size (.cells z40 40)
    rw [← hw2] at hkW14
    have MQ := HasN.new (wW13) z40 40 22 (by kernel_rfl); rw [← hw2] at MQ; have MA6 := Lib.hid MQ; clear MQ
    have HA6 := Lib.hid (show W1.heap.size ≤ _ from (hkW13).size)
    clear hw2
    refine ⟨fun _ => hkW14, ?_⟩
    (try simp only [sI, sS, sZ])
    refine wpBut_r1 (i := 5) (by kernel_rfl) ?_
    refine go_call 5 16 #[true, true, true, true, true, true, true, false] rfl rfl rfl (by rfl) rfl rfl (by rfl) ent85 (by rfl) (Hpw.out _) ?_
    rintro e wW15 ⟨rfl, hb⟩
    have hkW15 := held_next hkW14 hb
    have MQ6 := Lib.hid (MA6.out.call hb); clear MA6
    have MA6 := MQ6; clear MQ6
    refine ⟨_, rfl, fun _ => hkW15, ?_⟩
    clear hb
    (try simp only [sI, sS, sZ])
    refine wpBut_r1 (i := 7) (by kernel_rfl) ?_
    obtain ⟨Zq, hZ, mZ⟩ := MA6.out
    refine go_store2 7 #[true, true, true, true, true, true, true, true] rfl rfl rfl (by rfl) 40 _ _ rfl _ _ rfl rfl 40 Zq mZ (by rw [r22_size]; kernel_rfl) (hZ.trans (r22_size ..).symm) (row_one _ _ _) ?_
    intro wW16 hw2
    have hkW16 := below_setRow (hkW15) _ (r22 r1) HA6.out
    rw [← hw2] at hkW16
    clear MA6
    have MQ := mZ.setRow (r22 r1); rw [← hw2] at MQ; have MA6 := Lib.hid MQ; clear MQ mZ hZ hw2
    refine ⟨fun _ => hkW16, ?_⟩
    (try simp only [sI, sS, sZ])
    exact wpBut_done (by kernel_rfl) (NoPanic.normal (HQ.out (_) _ ⟨HA6.out, MA6.out, (hkW16)⟩))
    refine go_alloc 6 5 #[true, true, true, true, false, false, true, false] rfl rfl rfl (by rfl) 40 rfl _ al40 ?_
    intro wW13 hw2
    have hkW13 := (hkW12).alloc (hkW12).size (.cells z40 40)
    rw [← hw2] at hkW13
    have MQ := HasN.new (wW12) z40 40 22 (by kernel_rfl); rw [← hw2] at MQ; have MA6 := Lib.hid MQ; clear MQ
    have HA6 := Lib.hid (show W1.heap.size ≤ _ from (hkW12).size)
    clear hw2
    refine ⟨fun _ => hkW13, ?_⟩
    (try simp only [sI, sS, sZ])
    refine wpBut_r1 (i := 4) (by kernel_rfl) ?_
    refine go_call 4 15 #[true, true, true, true, true, false, true, false] rfl rfl rfl (by rfl) rfl rfl (by rfl) ent86 (by rfl) (Hh3.out _) ?_
    rintro e wW14 ⟨rfl, hb⟩
    have hkW14 := held_next hkW13 hb
    have MQ6 := Lib.hid (MA6.out.call hb); clear MA6
    have MA6 := MQ6; clear MQ6
    refine ⟨_, rfl, fun _ => hkW14, ?_⟩
    clear hb
    (try simp only [sI, sS, sZ])
    refine wpBut_r1 (i := 5) (by kernel_rfl) ?_
    refine go_call 5 16 #[true, true, true, true, true, true, true, false] rfl rfl rfl (by rfl) rfl rfl (by rfl) ent85 (by rfl) (Hpw.out _) ?_
    rintro e wW15 ⟨rfl, hb⟩
    have hkW15 := held_next hkW14 hb
    have MQ6 := Lib.hid (MA6.out.call hb); clear MA6
    have MA6 := MQ6; clear MQ6
    refine ⟨_, rfl, fun _ => hkW15, ?_⟩
    clear hb
    (try simp only [sI, sS, sZ])
    refine wpBut_r1 (i := 7) (by kernel_rfl) ?_
    obtain ⟨Zq, hZ, mZ⟩ := MA6.out
    refine go_store2 7 #[true, true, true, true, true, true, true, true] rfl rfl rfl (by rfl) 40 _ _ rfl _ _ rfl rfl 40 Zq mZ (by rw [r22_size]; kernel_rfl) (hZ.trans (r22_size ..).symm) (row_one _ _ _) ?_
    intro wW16 hw2
    have hkW16 := below_setRow (hkW15) _ (r22 r1) HA6.out
    rw [← hw2] at hkW16
    clear MA6
    have MQ := mZ.setRow (r22 r1); rw [← hw2] at MQ; have MA6 := Lib.hid MQ; clear MQ mZ hZ hw2
    refine ⟨fun _ => hkW16, ?_⟩
    (try simp only [sI, sS, sZ])
    exact wpBut_done (by kernel_rfl) (NoPanic.normal (HQ.out (_) _ ⟨HA6.out, MA6.out, (hkW16)⟩))
    refine go_alloc 6 5 #[true, true, true, false, false, false, true, false] rfl rfl rfl (by rfl) 40 rfl _ al40 ?_
    intro wW12 hw2
    have hkW12 := (hkW11).alloc (hkW11).size (.cells z40 40)
    rw [← hw2] at hkW12
    have MQ := HasN.new (wW11) z40 40 22 (by kernel_rfl); rw [← hw2] at MQ; have MA6 := Lib.hid MQ; clear MQ
    have HA6 := Lib.hid (show W1.heap.size ≤ _ from (hkW11).size)
    clear hw2
    refine ⟨fun _ => hkW12, ?_⟩
    (try simp only [sI, sS, sZ])
    refine wpBut_r1 (i := 3) (by kernel_rfl) ?_
    refine go_call 3 14 #[true, true, true, true, false, false, true, false] rfl rfl rfl (by rfl) rfl rfl (by rfl) ent86 (by rfl) (Hh2.out _) ?_
    rintro e wW13 ⟨rfl, hb⟩
    have hkW13 := held_next hkW12 hb
    have MQ6 := Lib.hid (MA6.out.call hb); clear MA6
    have MA6 := MQ6; clear MQ6
    refine ⟨_, rfl, fun _ => hkW13, ?_⟩
    clear hb
    (try simp only [sI, sS, sZ])
    refine wpBut_r1 (i := 4) (by kernel_rfl) ?_
    refine go_call 4 15 #[true, true, true, true, true, false, true, false] rfl rfl rfl (by rfl) rfl rfl (by rfl) ent86 (by rfl) (Hh3.out _) ?_
    rintro e wW14 ⟨rfl, hb⟩
    have hkW14 := held_next hkW13 hb
    have MQ6 := Lib.hid (MA6.out.call hb); clear MA6
    have MA6 := MQ6; clear MQ6
    refine ⟨_, rfl, fun _ => hkW14, ?_⟩
    clear hb
    (try simp only [sI, sS, sZ])
    refine wpBut_r1 (i := 5) (by kernel_rfl) ?_
    refine go_call 5 16 #[true, true, true, true, true, true, true, false] rfl rfl rfl (by rfl) rfl rfl (by rfl) ent85 (by rfl) (Hpw.out _) ?_
    rintro e wW15 ⟨rfl, hb⟩
    have hkW15 := held_next hkW14 hb
    have MQ6 := Lib.hid (MA6.out.call hb); clear MA6
    have MA6 := MQ6; clear MQ6
    refine ⟨_, rfl, fun _ => hkW15, ?_⟩
    clear hb
    (try simp only [sI, sS, sZ])
    refine wpBut_r1 (i := 7) (by kernel_rfl) ?_
    obtain ⟨Zq, hZ, mZ⟩ := MA6.out
    refine go_store2 7 #[true, true, true, true, true, true, true, true] rfl rfl rfl (by rfl) 40 _ _ rfl _ _ rfl rfl 40 Zq mZ (by rw [r22_size]; kernel_rfl) (hZ.trans (r22_size ..).symm) (row_one _ _ _) ?_
    intro wW16 hw2
    have hkW16 := below_setRow (hkW15) _ (r22 r1) HA6.out
    rw [← hw2] at hkW16
    clear MA6
    have MQ := mZ.setRow (r22 r1); rw [← hw2] at MQ; have MA6 := Lib.hid MQ; clear MQ mZ hZ hw2
    refine ⟨fun _ => hkW16, ?_⟩
    (try simp only [sI, sS, sZ])
    exact wpBut_done (by kernel_rfl) (NoPanic.normal (HQ.out (_) _ ⟨HA6.out, MA6.out, (hkW16)⟩))
    refine go_alloc 6 5 #[true, true, false, false, false, false, true, false] rfl rfl rfl (by rfl) 40 rfl _ al40 ?_
    intro wW11 hw2
    have hkW11 := ((below_dr W1)).alloc ((below_dr W1)).size (.cells z40 40)
    rw [← hw2] at hkW11
    have MQ := HasN.new (W1.drew) z40 40 22 (by kernel_rfl); rw [← hw2] at MQ; have MA6 := Lib.hid MQ; clear MQ
    have HA6 := Lib.hid (show W1.heap.size ≤ _ from ((below_dr W1)).size)
    clear hw2
    refine ⟨fun _ => hkW11, ?_⟩
    (try simp only [sI, sS, sZ])
    refine wpBut_r1 (i := 2) (by kernel_rfl) ?_
    refine go_call 2 13 #[true, true, true, false, false, false, true, false] rfl rfl rfl (by rfl) rfl rfl (by rfl) ent86 (by rfl) (Hh1.out _) ?_
    rintro e wW12 ⟨rfl, hb⟩
    have hkW12 := held_next hkW11 hb
    have MQ6 := Lib.hid (MA6.out.call hb); clear MA6
    have MA6 := MQ6; clear MQ6
    refine ⟨_, rfl, fun _ => hkW12, ?_⟩
    clear hb
    (try simp only [sI, sS, sZ])
    refine wpBut_r1 (i := 3) (by kernel_rfl) ?_
    refine go_call 3 14 #[true, true, true, true, false, false, true, false] rfl rfl rfl (by rfl) rfl rfl (by rfl) ent86 (by rfl) (Hh2.out _) ?_
    rintro e wW13 ⟨rfl, hb⟩
    have hkW13 := held_next hkW12 hb
    have MQ6 := Lib.hid (MA6.out.call hb); clear MA6
    have MA6 := MQ6; clear MQ6
    refine ⟨_, rfl, fun _ => hkW13, ?_⟩
    clear hb
    (try simp only [sI, sS, sZ])
    refine wpBut_r1 (i := 4) (by kernel_rfl) ?_
    refine go_call 4 15 #[true, true, true, true, true, false, true, false] rfl rfl rfl (by rfl) rfl rfl (by rfl) ent86 (by rfl) (Hh3.out _) ?_
    rintro e wW14 ⟨rfl, hb⟩
    have hkW14 := held_next hkW13 hb
    have MQ6 := Lib.hid (MA6.out.call hb); clear MA6
    have MA6 := MQ6; clear MQ6
    refine ⟨_, rfl, fun _ => hkW14, ?_⟩
    clear hb
    (try simp only [sI, sS, sZ])
    refine wpBut_r1 (i := 5) (by kernel_rfl) ?_
    refine go_call 5 16 #[true, true, true, true, true, true, true, false] rfl rfl rfl (by rfl) rfl rfl (by rfl) ent85 (by rfl) (Hpw.out _) ?_
    rintro e wW15 ⟨rfl, hb⟩
    have hkW15 := held_next hkW14 hb
    have MQ6 := Lib.hid (MA6.out.call hb); clear MA6
    have MA6 := MQ6; clear MQ6
    refine ⟨_, rfl, fun _ => hkW15, ?_⟩
    clear hb
    (try simp only [sI, sS, sZ])
    refine wpBut_r1 (i := 7) (by kernel_rfl) ?_
    obtain ⟨Zq, hZ, mZ⟩ := MA6.out
    refine go_store2 7 #[true, true, true, true, true, true, true, true] rfl rfl rfl (by rfl) 40 _ _ rfl _ _ rfl rfl 40 Zq mZ (by rw [r22_size]; kernel_rfl) (hZ.trans (r22_size ..).symm) (row_one _ _ _) ?_
    intro wW16 hw2
    have hkW16 := below_setRow (hkW15) _ (r22 r1) HA6.out
    rw [← hw2] at hkW16
    clear MA6
    have MQ := mZ.setRow (r22 r1); rw [← hw2] at MQ; have MA6 := Lib.hid MQ; clear MQ mZ hZ hw2
    refine ⟨fun _ => hkW16, ?_⟩
    (try simp only [sI, sS, sZ])
    exact wpBut_done (by kernel_rfl) (NoPanic.normal (HQ.out (_) _ ⟨HA6.out, MA6.out, (hkW16)⟩))
  · rintro W1 B5 vw1 hW1 ⟨hBq0, mBq0, hbw⟩
    simp only [Act.put, List.setIfInBounds_toArray, List.set_cons_succ, List.set_cons_zero] at  hBq0  mBq0 ⊢
    have kq := P0.out; rw [← hW1] at kq; clear P0; have P0 := Lib.hid kq; clear kq
    have kq := P1.out; rw [← hW1] at kq; clear P1; have P1 := Lib.hid kq; clear kq
    have kq := P4.out; rw [← hW1] at kq; clear P4; have P4 := Lib.hid kq; clear kq
    have kq := HB3.out; rw [← hW1] at kq; clear HB3; have HB3 := Lib.hid kq; clear kq
    clear hW1
    have hltP0_1 := P0.out.lt
    have hltP1_1 := P1.out.lt
    have hltP4_1 := P4.out.lt
    replace P0 := Lib.hid (P0.out.call hbw)
    replace P1 := Lib.hid (P1.out.call hbw)
    replace P4 := Lib.hid (P4.out.call hbw)
    replace HB3 := Lib.hid (held_next HB3.out hbw)
    have P5 := Lib.hid mBq0; clear mBq0
    clear hbw
    clear P4
    repeat ((fail_if_success (with_reducible (show wpList _ _ _ _ _ _))); go_step)
    have ha22 := PPr_22 a ha
    have hz0 := zero22
    have Ha22 := Lib.hid ha22; clear ha22
    have Hz0 := Lib.hid hz0; clear hz0
    by_cases c1 : rt1 a * rt1 a % PP = a
    · have hk : r1 = rt2 a := Hrr.out.trans (r2_cases a c1).symm
      have ht := fun w => rtimes_any r1 r1 Hr1.out Hr1.out w
      rw [show r1 * r1 % PP = a by rw [Hrr.out]; exact c1] at ht
      have hl2 := Hr1.out
      have heq := fun w => r22_same a Ha22.out w
      have Ht := Lib.hid ht; clear ht
      have Hk := Lib.hid hk; clear hk
      have Hl2 := Lib.hid hl2; clear hl2
      refine wp_region_noPanic ?_
      refine wp_region_go 99 5 #[false, false, false, false, false] (by kernel_rfl) rfl rfl ?_
      intro W2 hW2
      have kq := P0.out; rw [← hW2] at kq; clear P0; have P0 := Lib.hid kq; clear kq
      have kq := P1.out; rw [← hW2] at kq; clear P1; have P1 := Lib.hid kq; clear kq
      have kq := P5.out; rw [← hW2] at kq; clear P5; have P5 := Lib.hid kq; clear kq
      have kq := HB3.out; rw [← hW2] at kq; clear HB3; have HB3 := Lib.hid kq; clear kq
      clear hW2
      refine go_take2 0 17 #[true, false, false, false, false] rfl rfl rfl (by kernel_rfl) (yieldsIf_load_row (by rfl) 40 _ rfl (B5) rfl 40 (r22 r1) (fun _ h => P5.out.below h P5.out.lt) Try.underlying40 rfl (by rw [r22_size]; kernel_rfl)) ((below_dr W2)) ?_
      (try simp only [sI, sS, sZ])
      refine go_take2 1 18 #[true, true, false, false, false] rfl rfl rfl (by kernel_rfl) (yieldsIf_load_row (by rfl) 40 _ rfl (B5) rfl 40 (r22 r1) (fun _ h => P5.out.below h P5.out.lt) Try.underlying40 rfl (by rw [r22_size]; kernel_rfl)) ((below_dr W2)) ?_
      (try simp only [sI, sS, sZ])
      refine go_take2 3 20 #[true, true, false, true, false] rfl rfl rfl (by kernel_rfl) (yieldsIf_load_row (by rfl) 40 _ rfl (w.heap.size) rfl 40 (r22 a) (fun _ h => P0.out.below h P0.out.lt) Try.underlying40 rfl (by rw [r22_size]; kernel_rfl)) ((below_dr W2)) ?_
      (try simp only [sI, sS, sZ])
      refine wpBut_r1 (i := 2) (by kernel_rfl) ?_
      refine go_call 2 19 #[true, true, true, true, false] rfl rfl rfl (by rfl) rfl rfl (by rfl) ent32 (by rfl) (Ht.out _) ?_
      rintro e wW21 ⟨rfl, hb⟩
      have hkW21 := held_next (below_dr W2) hb
      refine ⟨_, rfl, fun _ => hkW21, ?_⟩
      clear hb
      (try simp only [sI, sS, sZ])
      refine go_take2 4 21 #[true, true, true, true, true] (v := ?uv1) rfl rfl rfl (by kernel_rfl) (Or.inl ⟨by rfl, ?uy1⟩) (hkW21) ?urest1
      case uy1 => (intro _ _; go_simp; try with_reducible rfl)
      (try simp only [sI, sS, sZ])
      refine wpBut_done (by kernel_rfl) (NoPanic.normal ?_)
      replace P0 := Lib.hid (P0.out.call hkW21)
      replace P1 := Lib.hid (P1.out.call hkW21)
      replace P5 := Lib.hid (P5.out.call hkW21)
      replace HB3 := Lib.hid (held_next HB3.out hkW21)
      clear heq
      repeat ((fail_if_success (with_reducible (show wpList _ _ _ _ _ _))); go_step)
      by_cases c2 : rt2 a * rt2 a % PP = a
      · have ht2 := fun w => rtimes_any r1 r1 Hl2.out Hl2.out w
        rw [show r1 * r1 % PP = a by rw [Hk.out]; exact c2] at ht2
        have heq := fun w => r22_same a Ha22.out w
        have C2 := Lib.hid c2; clear c2
        have Ht2 := Lib.hid ht2; clear ht2
        refine wp_region_noPanic ?_
        refine wp_region_go 99 5 #[false, false, false, false, false] (by kernel_rfl) rfl rfl ?_
        intro W3 hW3
        have kq := P0.out; rw [← hW3] at kq; clear P0; have P0 := Lib.hid kq; clear kq
        have kq := P1.out; rw [← hW3] at kq; clear P1; have P1 := Lib.hid kq; clear kq
        have kq := P5.out; rw [← hW3] at kq; clear P5; have P5 := Lib.hid kq; clear kq
        have kq := HB3.out; rw [← hW3] at kq; clear HB3; have HB3 := Lib.hid kq; clear kq
        clear hW3
        refine go_take2 0 31 #[true, false, false, false, false] rfl rfl rfl (by kernel_rfl) (yieldsIf_load_row (by rfl) 40 _ rfl (B5) rfl 40 (r22 r1) (fun _ h => P5.out.below h P5.out.lt) Try.underlying40 rfl (by rw [r22_size]; kernel_rfl)) ((below_dr W3)) ?_
        (try simp only [sI, sS, sZ])
        refine go_take2 1 32 #[true, true, false, false, false] rfl rfl rfl (by kernel_rfl) (yieldsIf_load_row (by rfl) 40 _ rfl (B5) rfl 40 (r22 r1) (fun _ h => P5.out.below h P5.out.lt) Try.underlying40 rfl (by rw [r22_size]; kernel_rfl)) ((below_dr W3)) ?_
        (try simp only [sI, sS, sZ])
        refine go_take2 3 34 #[true, true, false, true, false] rfl rfl rfl (by kernel_rfl) (yieldsIf_load_row (by rfl) 40 _ rfl (w.heap.size) rfl 40 (r22 a) (fun _ h => P0.out.below h P0.out.lt) Try.underlying40 rfl (by rw [r22_size]; kernel_rfl)) ((below_dr W3)) ?_
        (try simp only [sI, sS, sZ])
        refine wpBut_r1 (i := 2) (by kernel_rfl) ?_
        refine go_call 2 33 #[true, true, true, true, false] rfl rfl rfl (by rfl) rfl rfl (by rfl) ent32 (by rfl) (Ht2.out _) ?_
        rintro e wW31 ⟨rfl, hb⟩
        have hkW31 := held_next (below_dr W3) hb
        refine ⟨_, rfl, fun _ => hkW31, ?_⟩
        clear hb
        (try simp only [sI, sS, sZ])
        refine go_take2 4 35 #[true, true, true, true, true] (v := ?uv2) rfl rfl rfl (by kernel_rfl) (Or.inl ⟨by rfl, ?uy2⟩) (hkW31) ?urest2
        case uy2 => (intro _ _; go_simp; try with_reducible rfl)
        (try simp only [sI, sS, sZ])
        refine wpBut_done (by kernel_rfl) (NoPanic.normal ?_)
        replace P0 := Lib.hid (P0.out.call hkW31)
        replace P1 := Lib.hid (P1.out.call hkW31)
        replace P5 := Lib.hid (P5.out.call hkW31)
        replace HB3 := Lib.hid (held_next HB3.out hkW31)
        clear heq
        repeat ((fail_if_success (with_reducible (show wpList _ _ _ _ _ _))); go_step)
        have h1 := P5.out.cell 0 (by omega)
        have hzn := dg_nn r1 0
        by_cases c3 : r1 % 2 = 1
        · have ht := dg0_odd r1 c3
          obtain ⟨hf3, hfo⟩ := r3_odd a C2.out (by rw [← Hk.out]; exact c3)
          have hls := fun w => less_any PP r1 (Nat.le_of_lt Hl2.out) PP_lt w
          obtain ⟨z, hz⟩ : ∃ z, z = dg 4096 r1 0 := ⟨_, rfl⟩
          rw [← hz] at h1 ht hzn
          clear hz
          have C3 := Lib.hid c3; clear c3
          have Hf3 := Lib.hid hf3; clear hf3
          have Hfo := Lib.hid hfo; clear hfo
          have Hls := Lib.hid hls; clear hls
          refine wpList_step (fun K hK => ?_)
          go_simp
          (try go_bits)
          refine hK _ _ ?_
          clear hK K
          refine wpList_step (fun K hK => ?_)
          go_simp
          (try go_bits)
          refine hK _ _ ?_
          clear hK K
          refine wpList_step (fun K hK => ?_)
          go_simp
          (try go_bits)
          refine hK _ _ ?_
          clear hK K
          refine wpList_step (fun K hK => ?_)
          go_simp
          (try go_bits)
          refine hK _ _ ?_
          clear hK K
          refine wpList_nil ?_
          clear h1 ht hzn
          repeat ((fail_if_success (with_reducible (show wpList _ _ _ _ _ _))); go_step)
          obtain ⟨g, hg⟩ : ∃ g, g = PP - r1 := ⟨_, rfl⟩
          rw [← hg] at Hls
          have Hg := Lib.hid hg; clear hg
          refine wp_region_noPanic ?_
          refine wp_region_go 3 4 #[false, false, false, false] (by kernel_rfl) rfl rfl ?_
          intro W4 hW4
          have kq := P0.out; rw [← hW4] at kq; clear P0; have P0 := Lib.hid kq; clear kq
          have kq := P1.out; rw [← hW4] at kq; clear P1; have P1 := Lib.hid kq; clear kq
          have kq := P5.out; rw [← hW4] at kq; clear P5; have P5 := Lib.hid kq; clear kq
          have kq := HB3.out; rw [← hW4] at kq; clear HB3; have HB3 := Lib.hid kq; clear kq
          clear hW4
          have P5N := Lib.hid (by first | exact P5.out | exact P5.out.toN (by first | exact e4_size _ | exact r22_size _ | exact k32_size _ | exact pt_size .. | exact rp_size ..) : HasN W4 (B5) _ _)
          refine go_take2 1 42 #[false, true, false, false] rfl rfl rfl (by kernel_rfl) (yieldsIf_load_row (by rfl) 40 _ rfl (B5) rfl 40 (r22 r1) (fun _ h => P5.out.below h P5.out.lt) Try.underlying40 rfl (by rw [r22_size]; kernel_rfl)) ((below_dr W4)) ?_
          (try simp only [sI, sS, sZ])
          refine wpBut_r1 (i := 0) (by kernel_rfl) ?_
          refine go_call 0 41 #[true, true, false, false] rfl rfl rfl (by rfl) rfl rfl (by rfl) ent82 (by rfl) (prime_any _) ?_
          rintro e wW41 ⟨rfl, hb⟩
          have hkW41 := held_next (below_dr W4) hb
          refine ⟨_, rfl, fun _ => hkW41, ?_⟩
          clear hb
          (try simp only [sI, sS, sZ])
          refine wpBut_r1 (i := 2) (by kernel_rfl) ?_
          refine go_call 2 43 #[true, true, true, false] rfl rfl rfl (by rfl) rfl rfl (by rfl) ent81 (by rfl) (Hls.out _) ?_
          rintro e wW42 ⟨rfl, hb⟩
          have hkW42 := held_next hkW41 hb
          refine ⟨_, rfl, fun _ => hkW42, ?_⟩
          clear hb
          (try simp only [sI, sS, sZ])
          refine wpBut_r1 (i := 3) (by kernel_rfl) ?_
          obtain ⟨Zq, hZ, mZ⟩ := P5N.out.below hkW42 P5N.out.lt
          have MZ := Lib.hid mZ; clear mZ
          have HZ := Lib.hid hZ; clear hZ
          refine go_store 3 #[true, true, true, true] rfl rfl rfl (by rfl) 40 _ _ rfl (B5) _ rfl rfl 40 Zq MZ.out (by rw [r22_size]; kernel_rfl) (HZ.out.trans (r22_size ..).symm) (row_one _ _ _) ⟨fun h => (h rfl).elim, ?_⟩
          (try simp only [sI, sS, sZ])
          refine wpBut_done (by kernel_rfl) (NoPanic.normal ?_)
          replace P0 := Lib.hid ((P0.out.call hkW42).setRow_other (B5) (r22 g) (by omega))
          replace P1 := Lib.hid ((P1.out.call hkW42).setRow_other (B5) (r22 g) (by omega))
          clear P5 P5N
          have P5 := Lib.hid (MZ.out.setRow (r22 g)); clear MZ HZ
          replace HB3 := Lib.hid (below_setRow (held_next HB3.out hkW42) (B5) (r22 g) (by omega))
          repeat ((fail_if_success (with_reducible (show wpList _ _ _ _ _ _))); go_step)
          refine wpList_load (by rfl) 40 _ rfl (B5) rfl 40 (r22 g) P5.out Try.underlying40 rfl (by rw [r22_size]; kernel_rfl) 44 rfl ?_
          (try simp only [Act.put, sI, sS, sZ])
          first | (obtain ⟨Zq, hZ, mZ⟩ := P1.out) | (obtain ⟨Zq, hZ, mZ⟩ := P1.out.toN (r22_size _))
          clear P1
          have hZ' := Lib.hid hZ; clear hZ
          have mZ' := Lib.hid mZ; clear mZ
          refine wpList_store_row rfl 40 _ _ rfl (w.heap.size + 1) _ rfl rfl 40 Zq mZ'.out (by rw [r22_size]; kernel_rfl) (hZ'.out.trans (r22_size _).symm) (row_one _ _ _) ?_
          (try simp only [Act.put, sI, sS, sZ])
          replace P0 := Lib.hid (P0.out.setRow_other (w.heap.size + 1) (r22 g) (by omega))
          replace P5 := Lib.hid (P5.out.setRow_other (w.heap.size + 1) (r22 g) (by omega))
          have P1 := Lib.hid (mZ'.out.setRow (r22 g))
          clear mZ' hZ'
          replace HB3 := Lib.hid (below_setRow HB3.out (w.heap.size + 1) (r22 g) (by omega))
          refine wpList_step (fun K hK => ?_)
          go_simp
          (try go_bits)
          refine hK _ _ ?_
          clear hK K
          refine wpList_nil ?_
          go_wp2_with fail
          exact bodyPost_ret (v := .tuple #[.agg (r22 g), .bool true]) (results_cell_tmp_row (fn := Try.f45) (p := 2) (t2 := 3) (ty := 40) (t := 40) (by rfl) _ _ (w.heap.size + 1) _ _ _ rfl P1.out Try.underlying40 rfl (by rw [r22_size]; kernel_rfl)) rfl ⟨by rw [Hf3.out, Hfo.out, Hg.out, Hk.out], HB3.out⟩
        · have ht := dg0_even r1 c3
          obtain ⟨hf3, hfo⟩ := r3_even a C2.out (by rw [← Hk.out]; exact c3)
          obtain ⟨z, hz⟩ : ∃ z, z = dg 4096 r1 0 := ⟨_, rfl⟩
          rw [← hz] at h1 ht hzn
          clear hz
          have C3 := Lib.hid c3; clear c3
          have Hf3 := Lib.hid hf3; clear hf3
          have Hfo := Lib.hid hfo; clear hfo
          refine wpList_step (fun K hK => ?_)
          go_simp
          (try go_bits)
          refine hK _ _ ?_
          clear hK K
          refine wpList_step (fun K hK => ?_)
          go_simp
          (try go_bits)
          refine hK _ _ ?_
          clear hK K
          refine wpList_step (fun K hK => ?_)
          go_simp
          (try go_bits)
          refine hK _ _ ?_
          clear hK K
          refine wpList_step (fun K hK => ?_)
          go_simp
          (try go_bits)
          refine hK _ _ ?_
          clear hK K
          refine wpList_nil ?_
          clear h1 ht hzn
          repeat ((fail_if_success (with_reducible (show wpList _ _ _ _ _ _))); go_step)
          refine wpList_load (by rfl) 40 _ rfl (B5) rfl 40 (r22 r1) P5.out Try.underlying40 rfl (by rw [r22_size]; kernel_rfl) 44 rfl ?_
          (try simp only [Act.put, sI, sS, sZ])
          first | (obtain ⟨Zq, hZ, mZ⟩ := P1.out) | (obtain ⟨Zq, hZ, mZ⟩ := P1.out.toN (r22_size _))
          clear P1
          have hZ' := Lib.hid hZ; clear hZ
          have mZ' := Lib.hid mZ; clear mZ
          refine wpList_store_row rfl 40 _ _ rfl (w.heap.size + 1) _ rfl rfl 40 Zq mZ'.out (by rw [r22_size]; kernel_rfl) (hZ'.out.trans (r22_size _).symm) (row_one _ _ _) ?_
          (try simp only [Act.put, sI, sS, sZ])
          replace P0 := Lib.hid (P0.out.setRow_other (w.heap.size + 1) (r22 r1) (by omega))
          replace P5 := Lib.hid (P5.out.setRow_other (w.heap.size + 1) (r22 r1) (by omega))
          have P1 := Lib.hid (mZ'.out.setRow (r22 r1))
          clear mZ' hZ'
          replace HB3 := Lib.hid (below_setRow HB3.out (w.heap.size + 1) (r22 r1) (by omega))
          refine wpList_step (fun K hK => ?_)
          go_simp
          (try go_bits)
          refine hK _ _ ?_
          clear hK K
          refine wpList_nil ?_
          go_wp2_with fail
          exact bodyPost_ret (v := .tuple #[.agg (r22 r1), .bool true]) (results_cell_tmp_row (fn := Try.f45) (p := 2) (t2 := 3) (ty := 40) (t := 40) (by rfl) _ _ (w.heap.size + 1) _ _ _ rfl P1.out Try.underlying40 rfl (by rw [r22_size]; kernel_rfl)) rfl ⟨by rw [Hf3.out, Hfo.out, Hk.out], HB3.out⟩
      · obtain ⟨hf3, hfo⟩ := r3_non a c2
        have ht2 := fun w => rtimes_any r1 r1 Hl2.out Hl2.out w
        have hne : ¬ r1 * r1 % PP = a := by rw [Hk.out]; exact c2
        have hs2 : r1 * r1 % PP < PP := Nat.mod_lt _ PP_pos
        obtain ⟨s2, hs2e⟩ : ∃ s, s = r1 * r1 % PP := ⟨_, rfl⟩
        rw [← hs2e] at ht2 hne hs2
        have heq := fun w => r22_other s2 a (PPr_22 _ hs2) Ha22.out hne w
        clear hne hs2 hs2e
        have C2 := Lib.hid c2; clear c2
        have Hf3 := Lib.hid hf3; clear hf3
        have Hfo := Lib.hid hfo; clear hfo
        have Ht2 := Lib.hid ht2; clear ht2
        refine wp_region_noPanic ?_
        refine wp_region_go 99 5 #[false, false, false, false, false] (by kernel_rfl) rfl rfl ?_
        intro W3 hW3
        have kq := P0.out; rw [← hW3] at kq; clear P0; have P0 := Lib.hid kq; clear kq
        have kq := P1.out; rw [← hW3] at kq; clear P1; have P1 := Lib.hid kq; clear kq
        have kq := P5.out; rw [← hW3] at kq; clear P5; have P5 := Lib.hid kq; clear kq
        have kq := HB3.out; rw [← hW3] at kq; clear HB3; have HB3 := Lib.hid kq; clear kq
        clear hW3
        refine go_take2 0 31 #[true, false, false, false, false] rfl rfl rfl (by kernel_rfl) (yieldsIf_load_row (by rfl) 40 _ rfl (B5) rfl 40 (r22 r1) (fun _ h => P5.out.below h P5.out.lt) Try.underlying40 rfl (by rw [r22_size]; kernel_rfl)) ((below_dr W3)) ?_
        (try simp only [sI, sS, sZ])
        refine go_take2 1 32 #[true, true, false, false, false] rfl rfl rfl (by kernel_rfl) (yieldsIf_load_row (by rfl) 40 _ rfl (B5) rfl 40 (r22 r1) (fun _ h => P5.out.below h P5.out.lt) Try.underlying40 rfl (by rw [r22_size]; kernel_rfl)) ((below_dr W3)) ?_
        (try simp only [sI, sS, sZ])
        refine go_take2 3 34 #[true, true, false, true, false] rfl rfl rfl (by kernel_rfl) (yieldsIf_load_row (by rfl) 40 _ rfl (w.heap.size) rfl 40 (r22 a) (fun _ h => P0.out.below h P0.out.lt) Try.underlying40 rfl (by rw [r22_size]; kernel_rfl)) ((below_dr W3)) ?_
        (try simp only [sI, sS, sZ])
        refine wpBut_r1 (i := 2) (by kernel_rfl) ?_
        refine go_call 2 33 #[true, true, true, true, false] rfl rfl rfl (by rfl) rfl rfl (by rfl) ent32 (by rfl) (Ht2.out _) ?_
        rintro e wW31 ⟨rfl, hb⟩
        have hkW31 := held_next (below_dr W3) hb
        refine ⟨_, rfl, fun _ => hkW31, ?_⟩
        clear hb
        (try simp only [sI, sS, sZ])
        refine go_take2 4 35 #[true, true, true, true, true] (v := ?uv3) rfl rfl rfl (by kernel_rfl) (Or.inl ⟨by rfl, ?uy3⟩) (hkW31) ?urest3
        case uy3 => (intro _ _; go_simp; try with_reducible rfl)
        (try simp only [sI, sS, sZ])
        refine wpBut_done (by kernel_rfl) (NoPanic.normal ?_)
        replace P0 := Lib.hid (P0.out.call hkW31)
        replace P1 := Lib.hid (P1.out.call hkW31)
        replace P5 := Lib.hid (P5.out.call hkW31)
        replace HB3 := Lib.hid (held_next HB3.out hkW31)
        clear heq
        repeat ((fail_if_success (with_reducible (show wpList _ _ _ _ _ _))); go_step)
        refine wpList_step (fun K hK => ?_)
        go_simp
        (try go_bits)
        rw [Hz0.out]
        refine hK _ _ ?_
        clear hK K
        first | (obtain ⟨Zq, hZ, mZ⟩ := P1.out) | (obtain ⟨Zq, hZ, mZ⟩ := P1.out.toN (r22_size _))
        clear P1
        have hZ' := Lib.hid hZ; clear hZ
        have mZ' := Lib.hid mZ; clear mZ
        refine wpList_store_row rfl 40 _ _ rfl (w.heap.size + 1) _ rfl rfl 40 Zq mZ'.out (by rw [r22_size]; kernel_rfl) (hZ'.out.trans (r22_size _).symm) (row_one _ _ _) ?_
        (try simp only [Act.put, sI, sS, sZ])
        replace P0 := Lib.hid (P0.out.setRow_other (w.heap.size + 1) (r22 0) (by omega))
        replace P5 := Lib.hid (P5.out.setRow_other (w.heap.size + 1) (r22 0) (by omega))
        have P1 := Lib.hid (mZ'.out.setRow (r22 0))
        clear mZ' hZ'
        replace HB3 := Lib.hid (below_setRow HB3.out (w.heap.size + 1) (r22 0) (by omega))
        refine wpList_step (fun K hK => ?_)
        go_simp
        (try go_bits)
        refine hK _ _ ?_
        clear hK K
        refine wpList_nil ?_
        go_wp2_with fail
        exact bodyPost_ret (v := .tuple #[.agg (r22 0), .bool false]) (results_cell_tmp_row (fn := Try.f45) (p := 2) (t2 := 3) (ty := 40) (t := 40) (by rfl) _ _ (w.heap.size + 1) _ _ _ rfl P1.out Try.underlying40 rfl (by rw [r22_size]; kernel_rfl)) rfl ⟨by rw [Hf3.out, Hfo.out], HB3.out⟩
    · have hr2 := r2_other a c1
      have ht := fun w => rtimes_any r1 r1 Hr1.out Hr1.out w
      have hne : ¬ r1 * r1 % PP = a := by rw [Hrr.out]; exact c1
      have hs1 : r1 * r1 % PP < PP := Nat.mod_lt _ PP_pos
      obtain ⟨s1, hs⟩ : ∃ s, s = r1 * r1 % PP := ⟨_, rfl⟩
      rw [← hs] at ht hne hs1
      have heq := fun w => r22_other s1 a (PPr_22 _ hs1) Ha22.out hne w
      have k1 := fun w => rint_nn 2 (by omega) w
      have k2 := fun w => rint_nn 1 (by omega) w
      have k3 := fun w => less_any PP (1 % PP) (Nat.le_of_lt (Nat.mod_lt _ PP_pos)) PP_lt w
      have k4 := fun w => half_any (PP - 1 % PP) (Nat.lt_of_le_of_lt (Nat.sub_le _ _) PP_lt) w
      have k5 := fun w => half_any ((PP - 1 % PP) / 2) (half_lt _ (Nat.lt_of_le_of_lt (Nat.sub_le _ _) PP_lt)) w
      have k6 := fun w => rpow_any (2 % PP) ((PP - 1 % PP) / 2 / 2) (Nat.mod_lt _ PP_pos) ei_lt w
      have hti : rti < PP := pwm_lt _ _
      rw [show pwm (2 % PP) ((PP - 1 % PP) / 2 / 2) = rti from rfl] at k6
      obtain ⟨ti, hti2⟩ : ∃ x, x = rti := ⟨_, rfl⟩
      rw [← hti2] at k6 hti hr2
      have k7 := fun w => rtimes_any r1 ti Hr1.out hti w
      obtain ⟨v2, hv2⟩ : ∃ x, x = 2 % PP := ⟨_, rfl⟩
      rw [← hv2] at k1 k6
      obtain ⟨v1, hv1⟩ : ∃ x, x = 1 % PP := ⟨_, rfl⟩
      rw [← hv1] at k2 k3 k4 k5 k6
      obtain ⟨v3, hv3⟩ : ∃ x, x = PP - v1 := ⟨_, rfl⟩
      rw [← hv3] at k3 k4 k5 k6
      obtain ⟨v4, hv4⟩ : ∃ x, x = v3 / 2 := ⟨_, rfl⟩
      rw [← hv4] at k4 k5 k6
      obtain ⟨v5, hv5⟩ : ∃ x, x = v4 / 2 := ⟨_, rfl⟩
      rw [← hv5] at k5 k6
      have hk : r1 * ti % PP = rt2 a := by rw [hr2, Hrr.out]
      have hl2 : r1 * ti % PP < PP := Nat.mod_lt _ PP_pos
      obtain ⟨r2, hr2e⟩ : ∃ r, r = r1 * ti % PP := ⟨_, rfl⟩
      rw [← hr2e] at k7 hk hl2
      clear hne hs1 hs hti hr2e hv5 hv4 hv3 hv1 hv2 hti2
      have Ht := Lib.hid ht; clear ht
      have C1 := Lib.hid c1; clear c1
      have Hr2 := Lib.hid hr2; clear hr2
      have K1 := Lib.hid k1; clear k1
      have K2 := Lib.hid k2; clear k2
      have K3 := Lib.hid k3; clear k3
      have K4 := Lib.hid k4; clear k4
      have K5 := Lib.hid k5; clear k5
      have K6 := Lib.hid k6; clear k6
      have K7 := Lib.hid k7; clear k7
      have Hk := Lib.hid hk; clear hk
      have Hl2 := Lib.hid hl2; clear hl2
      refine wp_region_noPanic ?_
      refine wp_region_go 99 5 #[false, false, false, false, false] (by kernel_rfl) rfl rfl ?_
      intro W2 hW2
      have kq := P0.out; rw [← hW2] at kq; clear P0; have P0 := Lib.hid kq; clear kq
      have kq := P1.out; rw [← hW2] at kq; clear P1; have P1 := Lib.hid kq; clear kq
      have kq := P5.out; rw [← hW2] at kq; clear P5; have P5 := Lib.hid kq; clear kq
      have kq := HB3.out; rw [← hW2] at kq; clear HB3; have HB3 := Lib.hid kq; clear kq
      clear hW2
      refine go_take2 0 17 #[true, false, false, false, false] rfl rfl rfl (by kernel_rfl) (yieldsIf_load_row (by rfl) 40 _ rfl (B5) rfl 40 (r22 r1) (fun _ h => P5.out.below h P5.out.lt) Try.underlying40 rfl (by rw [r22_size]; kernel_rfl)) ((below_dr W2)) ?_
      (try simp only [sI, sS, sZ])
      refine go_take2 1 18 #[true, true, false, false, false] rfl rfl rfl (by kernel_rfl) (yieldsIf_load_row (by rfl) 40 _ rfl (B5) rfl 40 (r22 r1) (fun _ h => P5.out.below h P5.out.lt) Try.underlying40 rfl (by rw [r22_size]; kernel_rfl)) ((below_dr W2)) ?_
      (try simp only [sI, sS, sZ])
      refine go_take2 3 20 #[true, true, false, true, false] rfl rfl rfl (by kernel_rfl) (yieldsIf_load_row (by rfl) 40 _ rfl (w.heap.size) rfl 40 (r22 a) (fun _ h => P0.out.below h P0.out.lt) Try.underlying40 rfl (by rw [r22_size]; kernel_rfl)) ((below_dr W2)) ?_
      (try simp only [sI, sS, sZ])
      refine wpBut_r1 (i := 2) (by kernel_rfl) ?_
      refine go_call 2 19 #[true, true, true, true, false] rfl rfl rfl (by rfl) rfl rfl (by rfl) ent32 (by rfl) (Ht.out _) ?_
      rintro e wW21 ⟨rfl, hb⟩
      have hkW21 := held_next (below_dr W2) hb
      refine ⟨_, rfl, fun _ => hkW21, ?_⟩
      clear hb
      (try simp only [sI, sS, sZ])
      refine go_take2 4 21 #[true, true, true, true, true] (v := ?uv4) rfl rfl rfl (by kernel_rfl) (Or.inl ⟨by rfl, ?uy4⟩) (hkW21) ?urest4
      case uy4 => (intro _ _; go_simp; try with_reducible rfl)
      (try simp only [sI, sS, sZ])
      refine wpBut_done (by kernel_rfl) (NoPanic.normal ?_)
      replace P0 := Lib.hid (P0.out.call hkW21)
      replace P1 := Lib.hid (P1.out.call hkW21)
      replace P5 := Lib.hid (P5.out.call hkW21)
      replace HB3 := Lib.hid (held_next HB3.out hkW21)
      clear heq
      repeat ((fail_if_success (with_reducible (show wpList _ _ _ _ _ _))); go_step)
      refine wp_region_noPanic ?_
      refine wp_region_go 9 10 #[false, false, false, false, false, false, false, false, false, false] (by kernel_rfl) rfl rfl ?_
      intro W3 hW3
      have kq := P0.out; rw [← hW3] at kq; clear P0; have P0 := Lib.hid kq; clear kq
      have kq := P1.out; rw [← hW3] at kq; clear P1; have P1 := Lib.hid kq; clear kq
      have kq := P5.out; rw [← hW3] at kq; clear P5; have P5 := Lib.hid kq; clear kq
      have kq := HB3.out; rw [← hW3] at kq; clear HB3; have HB3 := Lib.hid kq; clear kq
      clear hW3
      have P5N := Lib.hid (by first | exact P5.out | exact P5.out.toN (by first | exact e4_size _ | exact r22_size _ | exact k32_size _ | exact pt_size .. | exact rp_size ..) : HasN W3 (B5) _ _)
      refine go_take2 0 22 #[true, false, false, false, false, false, false, false, false, false] rfl rfl rfl (by kernel_rfl) (yieldsIf_load_row (by rfl) 40 _ rfl (B5) rfl 40 (r22 r1) (fun _ h => P5.out.below h P5.out.lt) Try.underlying40 rfl (by rw [r22_size]; kernel_rfl)) ((below_dr W3)) ?_
      (try simp only [sI, sS, sZ])
      refine wpBut_r1 (i := 1) (by kernel_rfl) ?_
      refine go_call 1 23 #[true, true, false, false, false, false, false, false, false, false] rfl rfl rfl (by rfl) rfl rfl (by rfl) ent35 (by rfl) (K1.out _) ?_
      rintro e wW31 ⟨rfl, hb⟩
      have hkW31 := held_next (below_dr W3) hb
      refine ⟨_, rfl, fun _ => hkW31, ?_⟩
      clear hb
      (try simp only [sI, sS, sZ])
      refine wpBut_r1 (i := 2) (by kernel_rfl) ?_
      refine go_call 2 24 #[true, true, true, false, false, false, false, false, false, false] rfl rfl rfl (by rfl) rfl rfl (by rfl) ent82 (by rfl) (prime_any _) ?_
      rintro e wW32 ⟨rfl, hb⟩
      have hkW32 := held_next hkW31 hb
      refine ⟨_, rfl, fun _ => hkW32, ?_⟩
      clear hb
      (try simp only [sI, sS, sZ])
      refine wpBut_r1 (i := 3) (by kernel_rfl) ?_
      refine go_call 3 25 #[true, true, true, true, false, false, false, false, false, false] rfl rfl rfl (by rfl) rfl rfl (by rfl) ent35 (by rfl) (K2.out _) ?_
      rintro e wW33 ⟨rfl, hb⟩
      have hkW33 := held_next hkW32 hb
      refine ⟨_, rfl, fun _ => hkW33, ?_⟩
      clear hb
      (try simp only [sI, sS, sZ])
      refine wpBut_r1 (i := 4) (by kernel_rfl) ?_
      refine go_call 4 26 #[true, true, true, true, true, false, false, false, false, false] rfl rfl rfl (by rfl) rfl rfl (by rfl) ent81 (by rfl) (K3.out _) ?_
      rintro e wW34 ⟨rfl, hb⟩
      have hkW34 := held_next hkW33 hb
      refine ⟨_, rfl, fun _ => hkW34, ?_⟩
      clear hb
      (try simp only [sI, sS, sZ])
      refine wpBut_r1 (i := 5) (by kernel_rfl) ?_
      refine go_call 5 27 #[true, true, true, true, true, true, false, false, false, false] rfl rfl rfl (by rfl) rfl rfl (by rfl) ent86 (by rfl) (K4.out _) ?_
      rintro e wW35 ⟨rfl, hb⟩
      have hkW35 := held_next hkW34 hb
      refine ⟨_, rfl, fun _ => hkW35, ?_⟩
      clear hb
      (try simp only [sI, sS, sZ])
      refine wpBut_r1 (i := 6) (by kernel_rfl) ?_
      refine go_call 6 28 #[true, true, true, true, true, true, true, false, false, false] rfl rfl rfl (by rfl) rfl rfl (by rfl) ent86 (by rfl) (K5.out _) ?_
      rintro e wW36 ⟨rfl, hb⟩
      have hkW36 := held_next hkW35 hb
      refine ⟨_, rfl, fun _ => hkW36, ?_⟩
      clear hb
      (try simp only [sI, sS, sZ])
      refine wpBut_r1 (i := 7) (by kernel_rfl) ?_
      refine go_call 7 29 #[true, true, true, true, true, true, true, true, false, false] rfl rfl rfl (by rfl) rfl rfl (by rfl) ent85 (by rfl) (K6.out _) ?_
      rintro e wW37 ⟨rfl, hb⟩
      have hkW37 := held_next hkW36 hb
      refine ⟨_, rfl, fun _ => hkW37, ?_⟩
      clear hb
      (try simp only [sI, sS, sZ])
      refine wpBut_r1 (i := 8) (by kernel_rfl) ?_
      refine go_call 8 30 #[true, true, true, true, true, true, true, true, true, false] rfl rfl rfl (by rfl) rfl rfl (by rfl) ent32 (by rfl) (K7.out _) ?_
      rintro e wW38 ⟨rfl, hb⟩
      have hkW38 := held_next hkW37 hb
      refine ⟨_, rfl, fun _ => hkW38, ?_⟩
      clear hb
      (try simp only [sI, sS, sZ])
      refine wpBut_r1 (i := 9) (by kernel_rfl) ?_
      obtain ⟨Zq, hZ, mZ⟩ := P5N.out.below hkW38 P5N.out.lt
      have MZ := Lib.hid mZ; clear mZ
      have HZ := Lib.hid hZ; clear hZ
      refine go_store 9 #[true, true, true, true, true, true, true, true, true, true] rfl rfl rfl (by rfl) 40 _ _ rfl (B5) _ rfl rfl 40 Zq MZ.out (by rw [r22_size]; kernel_rfl) (HZ.out.trans (r22_size ..).symm) (row_one _ _ _) ⟨fun h => (h rfl).elim, ?_⟩
      (try simp only [sI, sS, sZ])
      refine wpBut_done (by kernel_rfl) (NoPanic.normal ?_)
      replace P0 := Lib.hid ((P0.out.call hkW38).setRow_other (B5) (r22 r2) (by omega))
      replace P1 := Lib.hid ((P1.out.call hkW38).setRow_other (B5) (r22 r2) (by omega))
      clear P5 P5N
      have P5 := Lib.hid (MZ.out.setRow (r22 r2)); clear MZ HZ
      replace HB3 := Lib.hid (below_setRow (held_next HB3.out hkW38) (B5) (r22 r2) (by omega))
      repeat ((fail_if_success (with_reducible (show wpList _ _ _ _ _ _))); go_step)
      by_cases c2 : rt2 a * rt2 a % PP = a
      · have ht2 := fun w => rtimes_any r2 r2 Hl2.out Hl2.out w
        rw [show r2 * r2 % PP = a by rw [Hk.out]; exact c2] at ht2
        have heq := fun w => r22_same a Ha22.out w
        have C2 := Lib.hid c2; clear c2
        have Ht2 := Lib.hid ht2; clear ht2
        refine wp_region_noPanic ?_
        refine wp_region_go 99 5 #[false, false, false, false, false] (by kernel_rfl) rfl rfl ?_
        intro W4 hW4
        have kq := P0.out; rw [← hW4] at kq; clear P0; have P0 := Lib.hid kq; clear kq
        have kq := P1.out; rw [← hW4] at kq; clear P1; have P1 := Lib.hid kq; clear kq
        have kq := P5.out; rw [← hW4] at kq; clear P5; have P5 := Lib.hid kq; clear kq
        have kq := HB3.out; rw [← hW4] at kq; clear HB3; have HB3 := Lib.hid kq; clear kq
        clear hW4
        refine go_take2 0 31 #[true, false, false, false, false] rfl rfl rfl (by kernel_rfl) (yieldsIf_load_row (by rfl) 40 _ rfl (B5) rfl 40 (r22 r2) (fun _ h => P5.out.below h P5.out.lt) Try.underlying40 rfl (by rw [r22_size]; kernel_rfl)) ((below_dr W4)) ?_
        (try simp only [sI, sS, sZ])
        refine go_take2 1 32 #[true, true, false, false, false] rfl rfl rfl (by kernel_rfl) (yieldsIf_load_row (by rfl) 40 _ rfl (B5) rfl 40 (r22 r2) (fun _ h => P5.out.below h P5.out.lt) Try.underlying40 rfl (by rw [r22_size]; kernel_rfl)) ((below_dr W4)) ?_
        (try simp only [sI, sS, sZ])
        refine go_take2 3 34 #[true, true, false, true, false] rfl rfl rfl (by kernel_rfl) (yieldsIf_load_row (by rfl) 40 _ rfl (w.heap.size) rfl 40 (r22 a) (fun _ h => P0.out.below h P0.out.lt) Try.underlying40 rfl (by rw [r22_size]; kernel_rfl)) ((below_dr W4)) ?_
        (try simp only [sI, sS, sZ])
        refine wpBut_r1 (i := 2) (by kernel_rfl) ?_
        refine go_call 2 33 #[true, true, true, true, false] rfl rfl rfl (by rfl) rfl rfl (by rfl) ent32 (by rfl) (Ht2.out _) ?_
        rintro e wW41 ⟨rfl, hb⟩
        have hkW41 := held_next (below_dr W4) hb
        refine ⟨_, rfl, fun _ => hkW41, ?_⟩
        clear hb
        (try simp only [sI, sS, sZ])
        refine go_take2 4 35 #[true, true, true, true, true] (v := ?uv5) rfl rfl rfl (by kernel_rfl) (Or.inl ⟨by rfl, ?uy5⟩) (hkW41) ?urest5
        case uy5 => (intro _ _; go_simp; try with_reducible rfl)
        (try simp only [sI, sS, sZ])
        refine wpBut_done (by kernel_rfl) (NoPanic.normal ?_)
        replace P0 := Lib.hid (P0.out.call hkW41)
        replace P1 := Lib.hid (P1.out.call hkW41)
        replace P5 := Lib.hid (P5.out.call hkW41)
        replace HB3 := Lib.hid (held_next HB3.out hkW41)
        clear heq
        repeat ((fail_if_success (with_reducible (show wpList _ _ _ _ _ _))); go_step)
        have h1 := P5.out.cell 0 (by omega)
        have hzn := dg_nn r2 0
        by_cases c3 : r2 % 2 = 1
        · have ht := dg0_odd r2 c3
          obtain ⟨hf3, hfo⟩ := r3_odd a C2.out (by rw [← Hk.out]; exact c3)
          have hls := fun w => less_any PP r2 (Nat.le_of_lt Hl2.out) PP_lt w
          obtain ⟨z, hz⟩ : ∃ z, z = dg 4096 r2 0 := ⟨_, rfl⟩
          rw [← hz] at h1 ht hzn
          clear hz
          have C3 := Lib.hid c3; clear c3
          have Hf3 := Lib.hid hf3; clear hf3
          have Hfo := Lib.hid hfo; clear hfo
          have Hls := Lib.hid hls; clear hls
          refine wpList_step (fun K hK => ?_)
          go_simp
          (try go_bits)
          refine hK _ _ ?_
          clear hK K
          refine wpList_step (fun K hK => ?_)
          go_simp
          (try go_bits)
          refine hK _ _ ?_
          clear hK K
          refine wpList_step (fun K hK => ?_)
          go_simp
          (try go_bits)
          refine hK _ _ ?_
          clear hK K
          refine wpList_step (fun K hK => ?_)
          go_simp
          (try go_bits)
          refine hK _ _ ?_
          clear hK K
          refine wpList_nil ?_
          clear h1 ht hzn
          repeat ((fail_if_success (with_reducible (show wpList _ _ _ _ _ _))); go_step)
          obtain ⟨g, hg⟩ : ∃ g, g = PP - r2 := ⟨_, rfl⟩
          rw [← hg] at Hls
          have Hg := Lib.hid hg; clear hg
          refine wp_region_noPanic ?_
          refine wp_region_go 3 4 #[false, false, false, false] (by kernel_rfl) rfl rfl ?_
          intro W5 hW5
          have kq := P0.out; rw [← hW5] at kq; clear P0; have P0 := Lib.hid kq; clear kq
          have kq := P1.out; rw [← hW5] at kq; clear P1; have P1 := Lib.hid kq; clear kq
          have kq := P5.out; rw [← hW5] at kq; clear P5; have P5 := Lib.hid kq; clear kq
          have kq := HB3.out; rw [← hW5] at kq; clear HB3; have HB3 := Lib.hid kq; clear kq
          clear hW5
          have P5N := Lib.hid (by first | exact P5.out | exact P5.out.toN (by first | exact e4_size _ | exact r22_size _ | exact k32_size _ | exact pt_size .. | exact rp_size ..) : HasN W5 (B5) _ _)
          refine go_take2 1 42 #[false, true, false, false] rfl rfl rfl (by kernel_rfl) (yieldsIf_load_row (by rfl) 40 _ rfl (B5) rfl 40 (r22 r2) (fun _ h => P5.out.below h P5.out.lt) Try.underlying40 rfl (by rw [r22_size]; kernel_rfl)) ((below_dr W5)) ?_
          (try simp only [sI, sS, sZ])
          refine wpBut_r1 (i := 0) (by kernel_rfl) ?_
          refine go_call 0 41 #[true, true, false, false] rfl rfl rfl (by rfl) rfl rfl (by rfl) ent82 (by rfl) (prime_any _) ?_
          rintro e wW51 ⟨rfl, hb⟩
          have hkW51 := held_next (below_dr W5) hb
          refine ⟨_, rfl, fun _ => hkW51, ?_⟩
          clear hb
          (try simp only [sI, sS, sZ])
          refine wpBut_r1 (i := 2) (by kernel_rfl) ?_
          refine go_call 2 43 #[true, true, true, false] rfl rfl rfl (by rfl) rfl rfl (by rfl) ent81 (by rfl) (Hls.out _) ?_
          rintro e wW52 ⟨rfl, hb⟩
          have hkW52 := held_next hkW51 hb
          refine ⟨_, rfl, fun _ => hkW52, ?_⟩
          clear hb
          (try simp only [sI, sS, sZ])
          refine wpBut_r1 (i := 3) (by kernel_rfl) ?_
          obtain ⟨Zq, hZ, mZ⟩ := P5N.out.below hkW52 P5N.out.lt
          have MZ := Lib.hid mZ; clear mZ
          have HZ := Lib.hid hZ; clear hZ
          refine go_store 3 #[true, true, true, true] rfl rfl rfl (by rfl) 40 _ _ rfl (B5) _ rfl rfl 40 Zq MZ.out (by rw [r22_size]; kernel_rfl) (HZ.out.trans (r22_size ..).symm) (row_one _ _ _) ⟨fun h => (h rfl).elim, ?_⟩
          (try simp only [sI, sS, sZ])
          refine wpBut_done (by kernel_rfl) (NoPanic.normal ?_)
          replace P0 := Lib.hid ((P0.out.call hkW52).setRow_other (B5) (r22 g) (by omega))
          replace P1 := Lib.hid ((P1.out.call hkW52).setRow_other (B5) (r22 g) (by omega))
          clear P5 P5N
          have P5 := Lib.hid (MZ.out.setRow (r22 g)); clear MZ HZ
          replace HB3 := Lib.hid (below_setRow (held_next HB3.out hkW52) (B5) (r22 g) (by omega))
          repeat ((fail_if_success (with_reducible (show wpList _ _ _ _ _ _))); go_step)
          refine wpList_load (by rfl) 40 _ rfl (B5) rfl 40 (r22 g) P5.out Try.underlying40 rfl (by rw [r22_size]; kernel_rfl) 44 rfl ?_
          (try simp only [Act.put, sI, sS, sZ])
          first | (obtain ⟨Zq, hZ, mZ⟩ := P1.out) | (obtain ⟨Zq, hZ, mZ⟩ := P1.out.toN (r22_size _))
          clear P1
          have hZ' := Lib.hid hZ; clear hZ
          have mZ' := Lib.hid mZ; clear mZ
          refine wpList_store_row rfl 40 _ _ rfl (w.heap.size + 1) _ rfl rfl 40 Zq mZ'.out (by rw [r22_size]; kernel_rfl) (hZ'.out.trans (r22_size _).symm) (row_one _ _ _) ?_
          (try simp only [Act.put, sI, sS, sZ])
          replace P0 := Lib.hid (P0.out.setRow_other (w.heap.size + 1) (r22 g) (by omega))
          replace P5 := Lib.hid (P5.out.setRow_other (w.heap.size + 1) (r22 g) (by omega))
          have P1 := Lib.hid (mZ'.out.setRow (r22 g))
          clear mZ' hZ'
          replace HB3 := Lib.hid (below_setRow HB3.out (w.heap.size + 1) (r22 g) (by omega))
          refine wpList_step (fun K hK => ?_)
          go_simp
          (try go_bits)
          refine hK _ _ ?_
          clear hK K
          refine wpList_nil ?_
          go_wp2_with fail
          exact bodyPost_ret (v := .tuple #[.agg (r22 g), .bool true]) (results_cell_tmp_row (fn := Try.f45) (p := 2) (t2 := 3) (ty := 40) (t := 40) (by rfl) _ _ (w.heap.size + 1) _ _ _ rfl P1.out Try.underlying40 rfl (by rw [r22_size]; kernel_rfl)) rfl ⟨by rw [Hf3.out, Hfo.out, Hg.out, Hk.out], HB3.out⟩
        · have ht := dg0_even r2 c3
          obtain ⟨hf3, hfo⟩ := r3_even a C2.out (by rw [← Hk.out]; exact c3)
          obtain ⟨z, hz⟩ : ∃ z, z = dg 4096 r2 0 := ⟨_, rfl⟩
          rw [← hz] at h1 ht hzn
          clear hz
          have C3 := Lib.hid c3; clear c3
          have Hf3 := Lib.hid hf3; clear hf3
          have Hfo := Lib.hid hfo; clear hfo
          refine wpList_step (fun K hK => ?_)
          go_simp
          (try go_bits)
          refine hK _ _ ?_
          clear hK K
          refine wpList_step (fun K hK => ?_)
          go_simp
          (try go_bits)
          refine hK _ _ ?_
          clear hK K
          refine wpList_step (fun K hK => ?_)
          go_simp
          (try go_bits)
          refine hK _ _ ?_
          clear hK K
          refine wpList_step (fun K hK => ?_)
          go_simp
          (try go_bits)
          refine hK _ _ ?_
          clear hK K
          refine wpList_nil ?_
          clear h1 ht hzn
          repeat ((fail_if_success (with_reducible (show wpList _ _ _ _ _ _))); go_step)
          refine wpList_load (by rfl) 40 _ rfl (B5) rfl 40 (r22 r2) P5.out Try.underlying40 rfl (by rw [r22_size]; kernel_rfl) 44 rfl ?_
          (try simp only [Act.put, sI, sS, sZ])
          first | (obtain ⟨Zq, hZ, mZ⟩ := P1.out) | (obtain ⟨Zq, hZ, mZ⟩ := P1.out.toN (r22_size _))
          clear P1
          have hZ' := Lib.hid hZ; clear hZ
          have mZ' := Lib.hid mZ; clear mZ
          refine wpList_store_row rfl 40 _ _ rfl (w.heap.size + 1) _ rfl rfl 40 Zq mZ'.out (by rw [r22_size]; kernel_rfl) (hZ'.out.trans (r22_size _).symm) (row_one _ _ _) ?_
          (try simp only [Act.put, sI, sS, sZ])
          replace P0 := Lib.hid (P0.out.setRow_other (w.heap.size + 1) (r22 r2) (by omega))
          replace P5 := Lib.hid (P5.out.setRow_other (w.heap.size + 1) (r22 r2) (by omega))
          have P1 := Lib.hid (mZ'.out.setRow (r22 r2))
          clear mZ' hZ'
          replace HB3 := Lib.hid (below_setRow HB3.out (w.heap.size + 1) (r22 r2) (by omega))
          refine wpList_step (fun K hK => ?_)
          go_simp
          (try go_bits)
          refine hK _ _ ?_
          clear hK K
          refine wpList_nil ?_
          go_wp2_with fail
          exact bodyPost_ret (v := .tuple #[.agg (r22 r2), .bool true]) (results_cell_tmp_row (fn := Try.f45) (p := 2) (t2 := 3) (ty := 40) (t := 40) (by rfl) _ _ (w.heap.size + 1) _ _ _ rfl P1.out Try.underlying40 rfl (by rw [r22_size]; kernel_rfl)) rfl ⟨by rw [Hf3.out, Hfo.out, Hk.out], HB3.out⟩
      · obtain ⟨hf3, hfo⟩ := r3_non a c2
        have ht2 := fun w => rtimes_any r2 r2 Hl2.out Hl2.out w
        have hne : ¬ r2 * r2 % PP = a := by rw [Hk.out]; exact c2
        have hs2 : r2 * r2 % PP < PP := Nat.mod_lt _ PP_pos
        obtain ⟨s2, hs2e⟩ : ∃ s, s = r2 * r2 % PP := ⟨_, rfl⟩
        rw [← hs2e] at ht2 hne hs2
        have heq := fun w => r22_other s2 a (PPr_22 _ hs2) Ha22.out hne w
        clear hne hs2 hs2e
        have C2 := Lib.hid c2; clear c2
        have Hf3 := Lib.hid hf3; clear hf3
        have Hfo := Lib.hid hfo; clear hfo
        have Ht2 := Lib.hid ht2; clear ht2
        refine wp_region_noPanic ?_
        refine wp_region_go 99 5 #[false, false, false, false, false] (by kernel_rfl) rfl rfl ?_
        intro W4 hW4
        have kq := P0.out; rw [← hW4] at kq; clear P0; have P0 := Lib.hid kq; clear kq
        have kq := P1.out; rw [← hW4] at kq; clear P1; have P1 := Lib.hid kq; clear kq
        have kq := P5.out; rw [← hW4] at kq; clear P5; have P5 := Lib.hid kq; clear kq
        have kq := HB3.out; rw [← hW4] at kq; clear HB3; have HB3 := Lib.hid kq; clear kq
        clear hW4
        refine go_take2 0 31 #[true, false, false, false, false] rfl rfl rfl (by kernel_rfl) (yieldsIf_load_row (by rfl) 40 _ rfl (B5) rfl 40 (r22 r2) (fun _ h => P5.out.below h P5.out.lt) Try.underlying40 rfl (by rw [r22_size]; kernel_rfl)) ((below_dr W4)) ?_
        (try simp only [sI, sS, sZ])
        refine go_take2 1 32 #[true, true, false, false, false] rfl rfl rfl (by kernel_rfl) (yieldsIf_load_row (by rfl) 40 _ rfl (B5) rfl 40 (r22 r2) (fun _ h => P5.out.below h P5.out.lt) Try.underlying40 rfl (by rw [r22_size]; kernel_rfl)) ((below_dr W4)) ?_
        (try simp only [sI, sS, sZ])
        refine go_take2 3 34 #[true, true, false, true, false] rfl rfl rfl (by kernel_rfl) (yieldsIf_load_row (by rfl) 40 _ rfl (w.heap.size) rfl 40 (r22 a) (fun _ h => P0.out.below h P0.out.lt) Try.underlying40 rfl (by rw [r22_size]; kernel_rfl)) ((below_dr W4)) ?_
        (try simp only [sI, sS, sZ])
        refine wpBut_r1 (i := 2) (by kernel_rfl) ?_
        refine go_call 2 33 #[true, true, true, true, false] rfl rfl rfl (by rfl) rfl rfl (by rfl) ent32 (by rfl) (Ht2.out _) ?_
        rintro e wW41 ⟨rfl, hb⟩
        have hkW41 := held_next (below_dr W4) hb
        refine ⟨_, rfl, fun _ => hkW41, ?_⟩
        clear hb
        (try simp only [sI, sS, sZ])
        refine go_take2 4 35 #[true, true, true, true, true] (v := ?uv6) rfl rfl rfl (by kernel_rfl) (Or.inl ⟨by rfl, ?uy6⟩) (hkW41) ?urest6
        case uy6 => (intro _ _; go_simp; try with_reducible rfl)
        (try simp only [sI, sS, sZ])
        refine wpBut_done (by kernel_rfl) (NoPanic.normal ?_)
        replace P0 := Lib.hid (P0.out.call hkW41)
        replace P1 := Lib.hid (P1.out.call hkW41)
        replace P5 := Lib.hid (P5.out.call hkW41)
        replace HB3 := Lib.hid (held_next HB3.out hkW41)
        clear heq
        repeat ((fail_if_success (with_reducible (show wpList _ _ _ _ _ _))); go_step)
        refine wpList_step (fun K hK => ?_)
        go_simp
        (try go_bits)
        rw [Hz0.out]
        refine hK _ _ ?_
        clear hK K
        first | (obtain ⟨Zq, hZ, mZ⟩ := P1.out) | (obtain ⟨Zq, hZ, mZ⟩ := P1.out.toN (r22_size _))
        clear P1
        have hZ' := Lib.hid hZ; clear hZ
        have mZ' := Lib.hid mZ; clear mZ
        refine wpList_store_row rfl 40 _ _ rfl (w.heap.size + 1) _ rfl rfl 40 Zq mZ'.out (by rw [r22_size]; kernel_rfl) (hZ'.out.trans (r22_size _).symm) (row_one _ _ _) ?_
        (try simp only [Act.put, sI, sS, sZ])
        replace P0 := Lib.hid (P0.out.setRow_other (w.heap.size + 1) (r22 0) (by omega))
        replace P5 := Lib.hid (P5.out.setRow_other (w.heap.size + 1) (r22 0) (by omega))
        have P1 := Lib.hid (mZ'.out.setRow (r22 0))
        clear mZ' hZ'
        replace HB3 := Lib.hid (below_setRow HB3.out (w.heap.size + 1) (r22 0) (by omega))
        refine wpList_step (fun K hK => ?_)
        go_simp
        (try go_bits)
        refine hK _ _ ?_
        clear hK K
        refine wpList_nil ?_
        go_wp2_with fail
        exact bodyPost_ret (v := .tuple #[.agg (r22 0), .bool false]) (results_cell_tmp_row (fn := Try.f45) (p := 2) (t2 := 3) (ty := 40) (t := 40) (by rfl) _ _ (w.heap.size + 1) _ _ _ rfl P1.out Try.underlying40 rfl (by rw [r22_size]; kernel_rfl)) rfl ⟨by rw [Hf3.out, Hfo.out], HB3.out⟩
end Go.Proofs.Ytjiagjonlcadiaa
