/- The reference's Root. -/
import Derived.Test.YtjiagjonlcadiaaRefH
namespace Go.Proofs.Ytjiagjonlcadiaa
open Go.RowKit Go.Lib

/-- the reference's root: of a number a -/
def rt1 (a : Nat) : Nat := pwm a ((PP + 3) / 2 / 2 / 2)
def rti : Nat := pwm (2 % PP) ((PP - 1 % PP) / 2 / 2)
def rt2 (a : Nat) : Nat := if rt1 a * rt1 a % PP = a then rt1 a else rt1 a * rti % PP
def rtok (a : Nat) : Bool := decide (rt2 a * rt2 a % PP = a)
def rt3 (a : Nat) : Nat := if rtok a then (if rt2 a % 2 = 1 then PP - rt2 a else rt2 a) else 0

theorem p3_row : row .i64 22 (upd (dg 4096 PP) 0 4080) = r22 (PP + 3) := by
  refine row_ext _ _ _ _ ?_
  have : (List.range 22).all (fun i => upd (dg 4096 PP) 0 4080 i == dg 4096 (PP + 3) i) = true := by decide +kernel
  intro i hi
  simpa using List.all_eq_true.1 this i (by simpa using hi)
theorem pp0 : dg 4096 PP 0 = 4077 := by decide +kernel
theorem p3_lt : PP + 3 < 4096 ^ 22 := by decide +kernel
theorem r22_eq (x y : Nat) (hx : x < 4096 ^ 22) (hy : y < 4096 ^ 22) (w : World) : (Op.equalIn 10000 40 (.agg (r22 x)) (.agg (r22 y))).run Try.prog w = .ok (decide (x = y)) w := by
  rw [← eqr_dg 4096 22 x y hx hy]
  exact run_equalIn_row w 9998 40 3 22 .i64 Try.underlying40 Try.underlying3 sz_int _ _
theorem ei_lt : (PP - 1 % PP) / 2 / 2 < 2 ^ 255 := by decide +kernel
theorem half_lt (n : Nat) (h : n < 4096 ^ 22) : n / 2 < 4096 ^ 22 := Nat.lt_of_le_of_lt (Nat.div_le_self _ _) h
theorem e3_lt : (PP + 3) / 2 / 2 / 2 < 2 ^ 255 := by decide +kernel

set_option maxRecDepth 100000 in
set_option maxHeartbeats 4000000 in
theorem rroot_any (a : Nat) (ha : a < PP) (w : World) :
    Calls Try.prog 45 #[.agg (r22 a)] w fun en w' => en = .returned (.tuple #[.agg (r22 (rt3 a)), .bool (rtok a)]) ∧ Below w.heap.size w w' := by
  have hp3r := p3_row
  have hp0 := pp0
  have hh1 := fun w => half_any (PP + 3) p3_lt w
  have hh2 := fun w => half_any ((PP + 3) / 2) (half_lt _ p3_lt) w
  have hh3 := fun w => half_any ((PP + 3) / 2 / 2) (half_lt _ (half_lt _ p3_lt)) w
  have hpw := fun w => rpow_any a ((PP + 3) / 2 / 2 / 2) ha e3_lt w
  have hr1 : rt1 a < PP := pwm_lt _ _
  rw [show pwm a ((PP + 3) / 2 / 2 / 2) = rt1 a from rfl] at hpw
  obtain ⟨q, hq⟩ : ∃ q, q = PP + 3 := ⟨_, rfl⟩
  rw [← hq] at hp3r hh1 hh2 hh3 hpw
  obtain ⟨q1, hq1⟩ : ∃ x, x = q / 2 := ⟨_, rfl⟩
  rw [← hq1] at hh1 hh2 hh3 hpw
  obtain ⟨q2, hq2⟩ : ∃ x, x = q1 / 2 := ⟨_, rfl⟩
  rw [← hq2] at hh2 hh3 hpw
  obtain ⟨q3, hq3⟩ : ∃ x, x = q2 / 2 := ⟨_, rfl⟩
  rw [← hq3] at hh3 hpw
  obtain ⟨r1, hrr⟩ : ∃ x, x = rt1 a := ⟨_, rfl⟩
  rw [← hrr] at hpw hr1
  have Hp3r := Lib.hid hp3r; clear hp3r
  have Hp0 := Lib.hid hp0; clear hp0
  have Hh1 := Lib.hid hh1; clear hh1
  have Hh2 := Lib.hid hh2; clear hh2
  have Hh3 := Lib.hid hh3; clear hh3
  have Hpw := Lib.hid hpw; clear hpw
  have Hr1 := Lib.hid hr1; clear hr1
  have Hrr := Lib.hid hrr; clear hrr
  clear hq hq1 hq2 hq3
  go_enter Try.func45, Try.ntmps45
  go_wp2_with fail
  refine (prime_any _).mono ?_
  rintro en w1 ⟨rfl, b1⟩
  have m0 := ((Has.new w (r22 a) 40).alloc (.cells (#[.int .i64 0, .int .i64 0, .int .i64 0, .int .i64 0, .int .i64 0, .int .i64 0, .int .i64 0, .int .i64 0, .int .i64 0, .int .i64 0, .int .i64 0, .int .i64 0, .int .i64 0, .int .i64 0, .int .i64 0, .int .i64 0, .int .i64 0, .int .i64 0, .int .i64 0, .int .i64 0, .int .i64 0, .int .i64 0] : Array Value) 40)).call b1
  have m1 := (HasN.new1 w (.cells (r22 a) 40) (#[.int .i64 0, .int .i64 0, .int .i64 0, .int .i64 0, .int .i64 0, .int .i64 0, .int .i64 0, .int .i64 0, .int .i64 0, .int .i64 0, .int .i64 0, .int .i64 0, .int .i64 0, .int .i64 0, .int .i64 0, .int .i64 0, .int .i64 0, .int .i64 0, .int .i64 0, .int .i64 0, .int .i64 0, .int .i64 0] : Array Value) 40 22 rfl).call b1
  have hB := held_next (below_2 w (.cells (r22 a) 40) (.cells (#[.int .i64 0, .int .i64 0, .int .i64 0, .int .i64 0, .int .i64 0, .int .i64 0, .int .i64 0, .int .i64 0, .int .i64 0, .int .i64 0, .int .i64 0, .int .i64 0, .int .i64 0, .int .i64 0, .int .i64 0, .int .i64 0, .int .i64 0, .int .i64 0, .int .i64 0, .int .i64 0, .int .i64 0, .int .i64 0] : Array Value) 40)) b1
  clear b1
  have hlt1 := m1.lt
  obtain ⟨Z, hZ, mz⟩ := HasN.new w1 (#[.int .i64 0, .int .i64 0, .int .i64 0, .int .i64 0, .int .i64 0, .int .i64 0, .int .i64 0, .int .i64 0, .int .i64 0, .int .i64 0, .int .i64 0, .int .i64 0, .int .i64 0, .int .i64 0, .int .i64 0, .int .i64 0, .int .i64 0, .int .i64 0, .int .i64 0, .int .i64 0, .int .i64 0, .int .i64 0] : Array Value) 40 22 rfl
  have q0 := (m0.alloc (.cells (#[.int .i64 0, .int .i64 0, .int .i64 0, .int .i64 0, .int .i64 0, .int .i64 0, .int .i64 0, .int .i64 0, .int .i64 0, .int .i64 0, .int .i64 0, .int .i64 0, .int .i64 0, .int .i64 0, .int .i64 0, .int .i64 0, .int .i64 0, .int .i64 0, .int .i64 0, .int .i64 0, .int .i64 0, .int .i64 0] : Array Value) 40)).setRow_other w1.heap.size (r22 PP) (by omega)
  have qq1 := (m1.alloc (.cells (#[.int .i64 0, .int .i64 0, .int .i64 0, .int .i64 0, .int .i64 0, .int .i64 0, .int .i64 0, .int .i64 0, .int .i64 0, .int .i64 0, .int .i64 0, .int .i64 0, .int .i64 0, .int .i64 0, .int .i64 0, .int .i64 0, .int .i64 0, .int .i64 0, .int .i64 0, .int .i64 0, .int .i64 0, .int .i64 0] : Array Value) 40)).setRow_other w1.heap.size (r22 PP) (by omega)
  have qq4 := mz.setRow (r22 PP)
  have hB2 := below_setRow (hB.alloc hB.size (.cells (#[.int .i64 0, .int .i64 0, .int .i64 0, .int .i64 0, .int .i64 0, .int .i64 0, .int .i64 0, .int .i64 0, .int .i64 0, .int .i64 0, .int .i64 0, .int .i64 0, .int .i64 0, .int .i64 0, .int .i64 0, .int .i64 0, .int .i64 0, .int .i64 0, .int .i64 0, .int .i64 0, .int .i64 0, .int .i64 0] : Array Value) 40)) w1.heap.size (r22 PP) hB.size
  have h1 := qq4.cell 0 (by omega)
  have hfz := qq4.frozen 0
  rw [Hp0.out] at h1
  have p4 := qq4.set 0 4080
  rw [Hp3r.out] at p4
  have p0 := q0.other ⟨w1.heap.size, 0, none⟩ (.int .i64 4080) (by simp <;> omega)
  have p1 := qq1.other ⟨w1.heap.size, 0, none⟩ (.int .i64 4080) (by simp <;> omega)
  have hB3 := hB2.setCell (p := ⟨w1.heap.size, 0, none⟩) (show w.heap.size ≤ w1.heap.size by omega) (.int .i64 4080)
  clear q0 qq1 hB hB2 m0 m1
  have Mz := Lib.hid mz; clear mz
  have HZ := Lib.hid hZ; clear hZ
  have P0 := Lib.hid p0; clear p0
  have P1 := Lib.hid p1; clear p1
  have P4 := Lib.hid p4; clear p4
  have HB3 := Lib.hid hB3; clear hB3
  have Qq4 := Lib.hid qq4; clear qq4
  go_wp2_with (refine wpList_store_row rfl 40 _ _ rfl (w1.heap.size) _ rfl rfl 40 Z Mz.out (by rw [r22_size]; kernel_rfl) (HZ.out.trans (r22_size _).symm) (row_one _ _ _) ?_)
  clear Mz HZ Qq4 h1 hfz
  refine wp_region_join (fun W0 B w' => W0.heap.size ≤ B ∧ Has w' B (r22 r1) 40 ∧ Below W0.heap.size W0 w') (fun ac B => ((((((ac.put (some 11) (.agg (r22 a))).put (some 12) (.agg (r22 q))).put (some 13) (.agg (r22 q1))).put (some 14) (.agg (r22 q2))).put (some 15) (.agg (r22 q3))).put (some 16) (.agg (r22 r1))).put (some 5) (.pointer (some ⟨B, 0, none⟩))) ?_ ?_
  · intro Q' hQ'
    refine wp_region_noPanic ?_
    refine wp_region_below 7 (by kernel_rfl) ?_
    intro W0 hW0
    have N0 := Lib.hid (show Has W0 w.heap.size (r22 a) 40 by rw [hW0]; exact P0.out)
    have N4 := Lib.hid (show Has W0 w1.heap.size (r22 q) 40 by rw [hW0]; exact P4.out)
    rw [← hW0] at hQ'
    clear hW0
    refine wpBut_take (i := 0) rfl (by kernel_rfl) (by kernel_rfl) (by kernel_rfl) (by kernel_rfl) (by kernel_rfl) (fun _ _ _ h => h) (yieldsIf_load_row (by rfl) 40 _ rfl (w.heap.size) rfl 40 (r22 a) (fun _ h => N0.out.below h N0.out.lt) Try.underlying40 rfl (by rw [r22_size]; kernel_rfl)) ((show Below W0.heap.size W0 W0.drew from (Below.refl _ _).drew)) ?_
    (try simp only [Act.put]); (try simp only [List.setIfInBounds_toArray])
    refine wpBut_take (i := 1) rfl (by kernel_rfl) (by kernel_rfl) (by kernel_rfl) (by kernel_rfl) (by kernel_rfl) (fun _ _ _ h => h) (yieldsIf_load_row (by rfl) 40 _ rfl (w1.heap.size) rfl 40 (r22 q) (fun _ h => N4.out.below h N4.out.lt) Try.underlying40 rfl (by rw [r22_size]; kernel_rfl)) ((show Below W0.heap.size W0 W0.drew from (Below.refl _ _).drew)) ?_
    (try simp only [Act.put]); (try simp only [List.setIfInBounds_toArray])
    refine wpBut_two (i := 2) (j := 6) (by kernel_rfl) rfl rfl (fun K hK => ?_) (fun K hK => ?_)
    · go_simp
      go_at_call 86
      refine (Hh1.out _).mono ?_
      rintro e wW01 ⟨rfl, hb⟩
      have hkW01 := held_next ((show Below W0.heap.size W0 W0.drew from (Below.refl _ _).drew)) hb
      refine hK.out _ _ (fun _ => hkW01) ?_
      clear hK K hb
      refine wpBut_two (i := 3) (j := 6) (by kernel_rfl) rfl rfl (fun K hK => ?_) (fun K hK => ?_)
      · go_simp
        go_at_call 86
        refine (Hh2.out _).mono ?_
        rintro e wW02 ⟨rfl, hb⟩
        have hkW02 := held_next (hkW01) hb
        refine hK.out _ _ (fun _ => hkW02) ?_
        clear hK K hb
        refine wpBut_two (i := 4) (j := 6) (by kernel_rfl) rfl rfl (fun K hK => ?_) (fun K hK => ?_)
        · go_simp
          go_at_call 86
          refine (Hh3.out _).mono ?_
          rintro e wW03 ⟨rfl, hb⟩
          have hkW03 := held_next (hkW02) hb
          refine hK.out _ _ (fun _ => hkW03) ?_
          clear hK K hb
          refine wpBut_two (i := 5) (j := 6) (by kernel_rfl) rfl rfl (fun K hK => ?_) (fun K hK => ?_)
          · go_simp
            go_at_call 85
            refine (Hpw.out _).mono ?_
            rintro e wW04 ⟨rfl, hb⟩
            have hkW04 := held_next (hkW03) hb
            refine hK.out _ _ (fun _ => hkW04) ?_
            clear hK K hb
            refine wpBut_one (i := 6) (by kernel_rfl) rfl (fun K hK => ?_)
            go_simp
            have hka := (hkW04).alloc (hkW04).size (.cells (row .i64 22 fun _ => 0) 40)
            have MA := Lib.hid (HasN.new wW04 (row .i64 22 fun _ => 0) 40 22 (row_size _ _ _))
            have HA := Lib.hid (show W0.heap.size ≤ wW04.heap.size from (hkW04).size)
            refine hK.out _ _ (fun _ => hka) ?_
            clear hK K
            refine wpBut_one (i := 7) (by kernel_rfl) rfl (fun K hK => ?_)
            rw [if_pos (by rfl)]
            obtain ⟨Z, hZ, mZ⟩ := MA.out
            refine wp_store_row 40 _ _ rfl _ _ rfl rfl 40 Z mZ (by rw [r22_size]; kernel_rfl) (hZ.trans (r22_size _).symm) (row_one _ _ _) ?_
            refine hK.out _ _ (fun h => (h rfl).elim) ?_
            clear hK K
            (try simp only [Act.put]); (try simp only [List.setIfInBounds_toArray])
            exact wpBut_done (by kernel_rfl) (NoPanic.normal (hQ' _ _ ⟨HA.out, mZ.setRow _, below_setRow (hka) _ _ HA.out⟩))
          · go_simp
            have hka := (hkW03).alloc (hkW03).size (.cells (row .i64 22 fun _ => 0) 40)
            have MA := Lib.hid (HasN.new wW03 (row .i64 22 fun _ => 0) 40 22 (row_size _ _ _))
            have HA := Lib.hid (show W0.heap.size ≤ wW03.heap.size from (hkW03).size)
            refine hK.out _ _ (fun _ => hka) ?_
            clear hK K
            refine wpBut_one (i := 5) (by kernel_rfl) rfl (fun K hK => ?_)
            go_simp
            go_at_call 85
            refine (Hpw.out _).mono ?_
            rintro e wW04 ⟨rfl, hb⟩
            have hkW04 := held_next (hka) hb
            have MA' := Lib.hid (MA.out.call hb)
            clear MA
            have MA := MA'
            clear MA'
            refine hK.out _ _ (fun _ => hkW04) ?_
            clear hK K hb
            refine wpBut_one (i := 7) (by kernel_rfl) rfl (fun K hK => ?_)
            rw [if_pos (by rfl)]
            obtain ⟨Z, hZ, mZ⟩ := MA.out
            refine wp_store_row 40 _ _ rfl _ _ rfl rfl 40 Z mZ (by rw [r22_size]; kernel_rfl) (hZ.trans (r22_size _).symm) (row_one _ _ _) ?_
            refine hK.out _ _ (fun h => (h rfl).elim) ?_
            clear hK K
            (try simp only [Act.put]); (try simp only [List.setIfInBounds_toArray])
            exact wpBut_done (by kernel_rfl) (NoPanic.normal (hQ' _ _ ⟨HA.out, mZ.setRow _, below_setRow (hkW04) _ _ HA.out⟩))
        · go_simp
          have hka := (hkW02).alloc (hkW02).size (.cells (row .i64 22 fun _ => 0) 40)
          have MA := Lib.hid (HasN.new wW02 (row .i64 22 fun _ => 0) 40 22 (row_size _ _ _))
          have HA := Lib.hid (show W0.heap.size ≤ wW02.heap.size from (hkW02).size)
          refine hK.out _ _ (fun _ => hka) ?_
          clear hK K
          refine wpBut_one (i := 4) (by kernel_rfl) rfl (fun K hK => ?_)
          go_simp
          go_at_call 86
          refine (Hh3.out _).mono ?_
          rintro e wW03 ⟨rfl, hb⟩
          have hkW03 := held_next (hka) hb
          have MA' := Lib.hid (MA.out.call hb)
          clear MA
          have MA := MA'
          clear MA'
          refine hK.out _ _ (fun _ => hkW03) ?_
          clear hK K hb
          refine wpBut_one (i := 5) (by kernel_rfl) rfl (fun K hK => ?_)
          go_simp
          go_at_call 85
          refine (Hpw.out _).mono ?_
          rintro e wW04 ⟨rfl, hb⟩
          have hkW04 := held_next (hkW03) hb
          have MA' := Lib.hid (MA.out.call hb)
          clear MA
          have MA := MA'
          clear MA'
          refine hK.out _ _ (fun _ => hkW04) ?_
          clear hK K hb
          refine wpBut_one (i := 7) (by kernel_rfl) rfl (fun K hK => ?_)
          rw [if_pos (by rfl)]
          obtain ⟨Z, hZ, mZ⟩ := MA.out
          refine wp_store_row 40 _ _ rfl _ _ rfl rfl 40 Z mZ (by rw [r22_size]; kernel_rfl) (hZ.trans (r22_size _).symm) (row_one _ _ _) ?_
          refine hK.out _ _ (fun h => (h rfl).elim) ?_
          clear hK K
          (try simp only [Act.put]); (try simp only [List.setIfInBounds_toArray])
          exact wpBut_done (by kernel_rfl) (NoPanic.normal (hQ' _ _ ⟨HA.out, mZ.setRow _, below_setRow (hkW04) _ _ HA.out⟩))
      · go_simp
        have hka := (hkW01).alloc (hkW01).size (.cells (row .i64 22 fun _ => 0) 40)
        have MA := Lib.hid (HasN.new wW01 (row .i64 22 fun _ => 0) 40 22 (row_size _ _ _))
        have HA := Lib.hid (show W0.heap.size ≤ wW01.heap.size from (hkW01).size)
        refine hK.out _ _ (fun _ => hka) ?_
        clear hK K
        refine wpBut_one (i := 3) (by kernel_rfl) rfl (fun K hK => ?_)
        go_simp
        go_at_call 86
        refine (Hh2.out _).mono ?_
        rintro e wW02 ⟨rfl, hb⟩
        have hkW02 := held_next (hka) hb
        have MA' := Lib.hid (MA.out.call hb)
        clear MA
        have MA := MA'
        clear MA'
        refine hK.out _ _ (fun _ => hkW02) ?_
        clear hK K hb
        refine wpBut_one (i := 4) (by kernel_rfl) rfl (fun K hK => ?_)
        go_simp
        go_at_call 86
        refine (Hh3.out _).mono ?_
        rintro e wW03 ⟨rfl, hb⟩
        have hkW03 := held_next (hkW02) hb
        have MA' := Lib.hid (MA.out.call hb)
        clear MA
        have MA := MA'
        clear MA'
        refine hK.out _ _ (fun _ => hkW03) ?_
        clear hK K hb
        refine wpBut_one (i := 5) (by kernel_rfl) rfl (fun K hK => ?_)
        go_simp
        go_at_call 85
        refine (Hpw.out _).mono ?_
        rintro e wW04 ⟨rfl, hb⟩
        have hkW04 := held_next (hkW03) hb
        have MA' := Lib.hid (MA.out.call hb)
        clear MA
        have MA := MA'
        clear MA'
        refine hK.out _ _ (fun _ => hkW04) ?_
        clear hK K hb
        refine wpBut_one (i := 7) (by kernel_rfl) rfl (fun K hK => ?_)
        rw [if_pos (by rfl)]
        obtain ⟨Z, hZ, mZ⟩ := MA.out
        refine wp_store_row 40 _ _ rfl _ _ rfl rfl 40 Z mZ (by rw [r22_size]; kernel_rfl) (hZ.trans (r22_size _).symm) (row_one _ _ _) ?_
        refine hK.out _ _ (fun h => (h rfl).elim) ?_
        clear hK K
        (try simp only [Act.put]); (try simp only [List.setIfInBounds_toArray])
        exact wpBut_done (by kernel_rfl) (NoPanic.normal (hQ' _ _ ⟨HA.out, mZ.setRow _, below_setRow (hkW04) _ _ HA.out⟩))
    · go_simp
      have hka := ((show Below W0.heap.size W0 W0.drew from (Below.refl _ _).drew)).alloc ((show Below W0.heap.size W0 W0.drew from (Below.refl _ _).drew)).size (.cells (row .i64 22 fun _ => 0) 40)
      have MA := Lib.hid (HasN.new W0.drew (row .i64 22 fun _ => 0) 40 22 (row_size _ _ _))
      have HA := Lib.hid (show W0.heap.size ≤ W0.drew.heap.size from ((show Below W0.heap.size W0 W0.drew from (Below.refl _ _).drew)).size)
      refine hK.out _ _ (fun _ => hka) ?_
      clear hK K
      refine wpBut_one (i := 2) (by kernel_rfl) rfl (fun K hK => ?_)
      go_simp
      go_at_call 86
      refine (Hh1.out _).mono ?_
      rintro e wW01 ⟨rfl, hb⟩
      have hkW01 := held_next (hka) hb
      have MA' := Lib.hid (MA.out.call hb)
      clear MA
      have MA := MA'
      clear MA'
      refine hK.out _ _ (fun _ => hkW01) ?_
      clear hK K hb
      refine wpBut_one (i := 3) (by kernel_rfl) rfl (fun K hK => ?_)
      go_simp
      go_at_call 86
      refine (Hh2.out _).mono ?_
      rintro e wW02 ⟨rfl, hb⟩
      have hkW02 := held_next (hkW01) hb
      have MA' := Lib.hid (MA.out.call hb)
      clear MA
      have MA := MA'
      clear MA'
      refine hK.out _ _ (fun _ => hkW02) ?_
      clear hK K hb
      refine wpBut_one (i := 4) (by kernel_rfl) rfl (fun K hK => ?_)
      go_simp
      go_at_call 86
      refine (Hh3.out _).mono ?_
      rintro e wW03 ⟨rfl, hb⟩
      have hkW03 := held_next (hkW02) hb
      have MA' := Lib.hid (MA.out.call hb)
      clear MA
      have MA := MA'
      clear MA'
      refine hK.out _ _ (fun _ => hkW03) ?_
      clear hK K hb
      refine wpBut_one (i := 5) (by kernel_rfl) rfl (fun K hK => ?_)
      go_simp
      go_at_call 85
      refine (Hpw.out _).mono ?_
      rintro e wW04 ⟨rfl, hb⟩
      have hkW04 := held_next (hkW03) hb
      have MA' := Lib.hid (MA.out.call hb)
      clear MA
      have MA := MA'
      clear MA'
      refine hK.out _ _ (fun _ => hkW04) ?_
      clear hK K hb
      refine wpBut_one (i := 7) (by kernel_rfl) rfl (fun K hK => ?_)
      rw [if_pos (by rfl)]
      obtain ⟨Z, hZ, mZ⟩ := MA.out
      refine wp_store_row 40 _ _ rfl _ _ rfl rfl 40 Z mZ (by rw [r22_size]; kernel_rfl) (hZ.trans (r22_size _).symm) (row_one _ _ _) ?_
      refine hK.out _ _ (fun h => (h rfl).elim) ?_
      clear hK K
      (try simp only [Act.put]); (try simp only [List.setIfInBounds_toArray])
      exact wpBut_done (by kernel_rfl) (NoPanic.normal (hQ' _ _ ⟨HA.out, mZ.setRow _, below_setRow (hkW04) _ _ HA.out⟩))
  · intro W0 B5 w5 hW0 hC
    obtain ⟨hB5, m5, hBw⟩ := hC
    have P0' := Lib.hid (show Has W0 w.heap.size (r22 a) 40 by rw [hW0]; exact P0.out)
    have P1' := Lib.hid (show HasN W0 (w.heap.size + 1) 22 40 by rw [hW0]; exact P1.out)
    have HB' := Lib.hid (show Below w.heap.size w W0 by rw [hW0]; exact HB3.out)
    clear P0 P1 P4 HB3 hW0
    have n0 := P0'.out.call hBw
    have n1 := P1'.out.call hBw
    have hB := held_next HB'.out hBw
    have hl0 := P0'.out.lt
    have hl1 := P1'.out.lt
    have hl5 : w.heap.size + 1 < B5 := by omega
    clear P0' P1' HB' hBw hB5 hl0 hl1
    have N0 := Lib.hid n0; clear n0
    have N1 := Lib.hid n1; clear n1
    have M5 := Lib.hid m5; clear m5
    have HB := Lib.hid hB; clear hB
    simp only [Act.put, List.setIfInBounds_toArray, List.set_cons_zero, List.set_cons_succ]
    clear hlt1
    go_wp2_with fail
    have ha22 : a < 4096 ^ 22 := Nat.lt_trans ha PP_lt
    have ht := fun w => rtimes_any r1 r1 Hr1.out Hr1.out w
    have hs1 : r1 * r1 % PP < 4096 ^ 22 := Nat.lt_trans (Nat.mod_lt _ PP_pos) PP_lt
    obtain ⟨s1, hs⟩ : ∃ s, s = r1 * r1 % PP := ⟨_, rfl⟩
    rw [← hs] at ht hs1
    have heq := fun w => r22_eq s1 a hs1 ha22 w
    have Ht := Lib.hid ht; clear ht
    have Hs := Lib.hid hs; clear hs
    have Hs1 := Lib.hid hs1; clear hs1
    have Ha22 := Lib.hid ha22; clear ha22
    by_cases c1 : s1 = a
    · rw [decide_eq_true c1] at heq
      have C1 := Lib.hid c1; clear c1
      refine wp_region_noPanic ?_
      refine wp_region_below 99 (by kernel_rfl) ?_
      intro w6 hw6
      subst hw6
      have N5 := M5
      refine wpBut_take (i := 0) rfl (by kernel_rfl) (by kernel_rfl) (by kernel_rfl) (by kernel_rfl) (by kernel_rfl) (fun _ _ _ h => h) (yieldsIf_load_row (by rfl) 40 _ rfl (B5) rfl 40 (r22 r1) (fun _ h => N5.out.below h N5.out.lt) Try.underlying40 rfl (by rw [r22_size]; kernel_rfl)) ((Below.refl _ _).drew) ?_
      (try simp only [Act.put]); (try simp only [List.setIfInBounds_toArray])
      refine wpBut_take (i := 1) rfl (by kernel_rfl) (by kernel_rfl) (by kernel_rfl) (by kernel_rfl) (by kernel_rfl) (fun _ _ _ h => h) (yieldsIf_load_row (by rfl) 40 _ rfl (B5) rfl 40 (r22 r1) (fun _ h => N5.out.below h N5.out.lt) Try.underlying40 rfl (by rw [r22_size]; kernel_rfl)) ((Below.refl _ _).drew) ?_
      (try simp only [Act.put]); (try simp only [List.setIfInBounds_toArray])
      refine wpBut_take (i := 3) rfl (by kernel_rfl) (by kernel_rfl) (by kernel_rfl) (by kernel_rfl) (by kernel_rfl) (fun _ _ _ h => h) (yieldsIf_load_row (by rfl) 40 _ rfl (w.heap.size) rfl 40 (r22 a) (fun _ h => N0.out.below h N0.out.lt) Try.underlying40 rfl (by rw [r22_size]; kernel_rfl)) ((Below.refl _ _).drew) ?_
      (try simp only [Act.put]); (try simp only [List.setIfInBounds_toArray])
      refine wpBut_one (i := 2) (by kernel_rfl) rfl (fun K hK => ?_)
      go_simp
      go_at_call 32
      refine (Ht.out _).mono ?_
      rintro e ww61 ⟨rfl, hb⟩
      have hkw61 := held_next (Below.refl _ _).drew hb
      refine hK.out _ _ (fun _ => hkw61) ?_
      clear hK K hb
      refine wpBut_one (i := 4) (by kernel_rfl) rfl (fun K hK => ?_)
      go_simp
      refine hK.out _ _ (fun _ => hkw61) ?_
      clear hK K
      refine wpBut_done (by kernel_rfl) (NoPanic.normal ?_)
      have n0 := N0.out.call hkw61
      have n1 := N1.out.call hkw61
      have n5 := N5.out.call hkw61
      have hB' := held_next HB.out hkw61
      clear N0 N1 N5 M5 HB hkw61
      have HB := Lib.hid hB'; clear hB'
      have N0 := Lib.hid n0; clear n0
      have N1 := Lib.hid n1; clear n1
      have N5 := Lib.hid n5; clear n5
      obtain ⟨r2, hr2e⟩ : ∃ r, r = r1 := ⟨_, rfl⟩
      rw [← hr2e] at N5
      have Hr2 := Lib.hid (show r2 < PP by rw [hr2e]; exact Hr1.out)
      have Hrr2 := Lib.hid (show r2 = rt2 a by unfold rt2; rw [← Hrr.out, ← Hs.out, C1.out, if_pos rfl, hr2e])
      clear hr2e heq
      have ht2 := fun w => rtimes_any r2 r2 Hr2.out Hr2.out w
      have hs2' : r2 * r2 % PP < 4096 ^ 22 := Nat.lt_trans (Nat.mod_lt _ PP_pos) PP_lt
      have hok : rtok a = decide (r2 * r2 % PP = a) := by rw [Hrr2.out]; rfl
      have hv3 : rt3 a = if rtok a then (if r2 % 2 = 1 then PP - r2 else r2) else 0 := by rw [Hrr2.out]; rfl
      obtain ⟨s2, hs2⟩ : ∃ s, s = r2 * r2 % PP := ⟨_, rfl⟩
      rw [← hs2] at ht2 hs2' hok
      have heq2 := fun w => r22_eq s2 a hs2' Ha22.out w
      have Ht2 := Lib.hid ht2; clear ht2
      have Hs2 := Lib.hid hs2; clear hs2
      clear hs2'
      go_wp2_with fail
      by_cases c2 : s2 = a
      · rw [decide_eq_true c2] at heq2 hok
        have C2 := Lib.hid c2; clear c2
        refine wp_region_noPanic ?_
        refine wp_region_below 99 (by kernel_rfl) ?_
        intro w8 hw8
        subst hw8
        refine wpBut_take (i := 0) rfl (by kernel_rfl) (by kernel_rfl) (by kernel_rfl) (by kernel_rfl) (by kernel_rfl) (fun _ _ _ h => h) (yieldsIf_load_row (by rfl) 40 _ rfl (B5) rfl 40 (r22 r2) (fun _ h => N5.out.below h N5.out.lt) Try.underlying40 rfl (by rw [r22_size]; kernel_rfl)) ((Below.refl _ _).drew) ?_
        (try simp only [Act.put]); (try simp only [List.setIfInBounds_toArray])
        refine wpBut_take (i := 1) rfl (by kernel_rfl) (by kernel_rfl) (by kernel_rfl) (by kernel_rfl) (by kernel_rfl) (fun _ _ _ h => h) (yieldsIf_load_row (by rfl) 40 _ rfl (B5) rfl 40 (r22 r2) (fun _ h => N5.out.below h N5.out.lt) Try.underlying40 rfl (by rw [r22_size]; kernel_rfl)) ((Below.refl _ _).drew) ?_
        (try simp only [Act.put]); (try simp only [List.setIfInBounds_toArray])
        refine wpBut_take (i := 3) rfl (by kernel_rfl) (by kernel_rfl) (by kernel_rfl) (by kernel_rfl) (by kernel_rfl) (fun _ _ _ h => h) (yieldsIf_load_row (by rfl) 40 _ rfl (w.heap.size) rfl 40 (r22 a) (fun _ h => N0.out.below h N0.out.lt) Try.underlying40 rfl (by rw [r22_size]; kernel_rfl)) ((Below.refl _ _).drew) ?_
        (try simp only [Act.put]); (try simp only [List.setIfInBounds_toArray])
        refine wpBut_one (i := 2) (by kernel_rfl) rfl (fun K hK => ?_)
        go_simp
        go_at_call 32
        refine (Ht2.out _).mono ?_
        rintro e ww81 ⟨rfl, hb⟩
        have hkw81 := held_next (Below.refl _ _).drew hb
        refine hK.out _ _ (fun _ => hkw81) ?_
        clear hK K hb
        refine wpBut_one (i := 4) (by kernel_rfl) rfl (fun K hK => ?_)
        go_simp
        refine hK.out _ _ (fun _ => hkw81) ?_
        clear hK K
        refine wpBut_done (by kernel_rfl) (NoPanic.normal ?_)
        have n0 := N0.out.call hkw81
        have n1 := N1.out.call hkw81
        have n5 := N5.out.call hkw81
        have hB := held_next HB.out hkw81
        clear N0 N1 N5 HB
        have N0 := Lib.hid n0; clear n0
        have N1 := Lib.hid n1; clear n1
        have N5 := Lib.hid n5; clear n5
        have HB := Lib.hid hB; clear hB
        rw [hok, if_pos rfl] at hv3
        have h1 := N5.out.cell 0 (by omega)
        have hz0 : dg 4096 r2 0 % 2 = ((r2 % 2 : Nat) : Int) := by unfold dg; rw [Nat.pow_zero, Nat.div_one]; omega
        have hzn := dg_nn r2 0
        obtain ⟨z, hz⟩ : ∃ z, z = dg 4096 r2 0 := ⟨_, rfl⟩
        rw [← hz] at h1 hz0 hzn
        have Hz := Lib.hid hz; clear hz
        have Hz0 := Lib.hid hz0; clear hz0
        have Hok := Lib.hid hok; clear hok
        by_cases c3 : r2 % 2 = 1
        · have ht : (z % 2 == 1) = true := by rw [Hz0.out, c3]; rfl
          rw [if_pos c3] at hv3
          have hl := fun w => less_any PP r2 (Nat.le_of_lt Hr2.out) PP_lt w
          rw [← hv3] at hl
          have Hl := Lib.hid hl; clear hl
          have Hv3 := Lib.hid hv3; clear hv3
          have C3 := Lib.hid c3; clear c3
          go_wp2_with fail
          refine wp_region_noPanic ?_
          refine wp_region_below 3 (by kernel_rfl) ?_
          intro w9 hw9
          subst hw9
          have N5N := Lib.hid (N5.out.toN (r22_size _))
          refine wpBut_take (i := 1) rfl (by kernel_rfl) (by kernel_rfl) (by kernel_rfl) (by kernel_rfl) (by kernel_rfl) (fun _ _ _ h => h) (yieldsIf_load_row (by rfl) 40 _ rfl (B5) rfl 40 (r22 r2) (fun _ h => N5.out.below h N5.out.lt) Try.underlying40 rfl (by rw [r22_size]; kernel_rfl)) ((Below.refl _ _).drew) ?_
          (try simp only [Act.put]); (try simp only [List.setIfInBounds_toArray])
          refine wpBut_one (i := 0) (by kernel_rfl) rfl (fun K hK => ?_)
          go_simp
          go_at_call 82
          refine (prime_any _).mono ?_
          rintro e ww91 ⟨rfl, hb⟩
          have hkw91 := held_next (Below.refl _ _).drew hb
          refine hK.out _ _ (fun _ => hkw91) ?_
          clear hK K hb
          refine wpBut_one (i := 2) (by kernel_rfl) rfl (fun K hK => ?_)
          go_simp
          go_at_call 81
          refine (Hl.out _).mono ?_
          rintro e ww92 ⟨rfl, hb⟩
          have hkw92 := held_next hkw91 hb
          refine hK.out _ _ (fun _ => hkw92) ?_
          clear hK K hb
          obtain ⟨Z, hZ, mZ⟩ := N5N.out.below hkw92 N5N.out.lt
          have MZ := Lib.hid mZ; clear mZ
          have HZ := Lib.hid hZ; clear hZ
          refine wpBut_one (i := 3) (by kernel_rfl) rfl (fun K hK => ?_)
          rw [if_pos (by rfl)]
          refine wp_store_row 40 _ _ rfl (B5) _ rfl rfl 40 Z MZ.out (by rw [r22_size]; kernel_rfl) (HZ.out.trans (r22_size _).symm) (row_one _ _ _) ?_
          refine hK.out _ _ (fun h => (h rfl).elim) ?_
          clear hK K
          (try simp only [Act.put]); (try simp only [List.setIfInBounds_toArray])
          refine wpBut_done (by kernel_rfl) (NoPanic.normal ?_)
          have n1 := (N1.out.call hkw92).setRow_other B5 (r22 (rt3 a)) (by omega)
          have n5 := MZ.out.setRow (r22 (rt3 a))
          have hB := below_setRow (held_next HB.out hkw92) B5 (r22 (rt3 a)) (by omega)
          clear N0 N1 N5 HB MZ HZ N5N
          have N1 := Lib.hid n1; clear n1
          have N5 := Lib.hid n5; clear n5
          have HB := Lib.hid hB; clear hB
          obtain ⟨Z, hZ, mz⟩ := N1.out
          have HZ := Lib.hid hZ; clear hZ
          have Mz := Lib.hid mz; clear mz
          have HBB := Lib.hid (below_setRow HB.out (w.heap.size + 1) (r22 (rt3 a)) (by omega))
          go_wp2_with (first | (refine wpList_load_row rfl 40 _ rfl (B5) rfl 40 (r22 (rt3 a)) (0, 0) _ N5.out Try.underlying40 rfl (by rw [r22_size]; kernel_rfl) ?_) | (refine wpList_store_row rfl 40 _ _ rfl (w.heap.size + 1) _ rfl rfl 40 Z Mz.out (by rw [r22_size]; kernel_rfl) (HZ.out.trans (r22_size _).symm) (row_one _ _ _) ?_))
          exact bodyPost_ret (v := .tuple #[.agg (r22 (rt3 a)), .bool true]) (results_cell_tmp_row (fn := Try.f45) (p := 2) (t2 := 3) (ty := 40) (t := 40) (by rfl) _ _ (w.heap.size + 1) _ _ _ rfl (Mz.out.setRow _) Try.underlying40 rfl (by rw [r22_size]; kernel_rfl)) rfl ⟨by rw [Hok.out], HBB.out⟩
        · have ht : (z % 2 == 1) = false := by rw [Hz0.out, show r2 % 2 = 0 by omega]; rfl
          rw [if_neg c3] at hv3
          have Hv3 := Lib.hid hv3; clear hv3
          clear c3
          obtain ⟨Z, hZ, mz⟩ := N1.out
          have HZ := Lib.hid hZ; clear hZ
          have Mz := Lib.hid mz; clear mz
          have HBB := Lib.hid (below_setRow HB.out (w.heap.size + 1) (r22 r2) (by omega))
          go_wp2_with (first | (refine wpList_load_row rfl 40 _ rfl (B5) rfl 40 (r22 r2) (0, 0) _ N5.out Try.underlying40 rfl (by rw [r22_size]; kernel_rfl) ?_) | (refine wpList_store_row rfl 40 _ _ rfl (w.heap.size + 1) _ rfl rfl 40 Z Mz.out (by rw [r22_size]; kernel_rfl) (HZ.out.trans (r22_size _).symm) (row_one _ _ _) ?_))
          exact bodyPost_ret (v := .tuple #[.agg (r22 r2), .bool true]) (results_cell_tmp_row (fn := Try.f45) (p := 2) (t2 := 3) (ty := 40) (t := 40) (by rfl) _ _ (w.heap.size + 1) _ _ _ rfl (Mz.out.setRow _) Try.underlying40 rfl (by rw [r22_size]; kernel_rfl)) rfl ⟨by rw [Hok.out, Hv3.out], HBB.out⟩
      · rw [decide_eq_false c2] at heq2 hok
        have C2 := Lib.hid c2; clear c2
        refine wp_region_noPanic ?_
        refine wp_region_below 99 (by kernel_rfl) ?_
        intro w8 hw8
        subst hw8
        refine wpBut_take (i := 0) rfl (by kernel_rfl) (by kernel_rfl) (by kernel_rfl) (by kernel_rfl) (by kernel_rfl) (fun _ _ _ h => h) (yieldsIf_load_row (by rfl) 40 _ rfl (B5) rfl 40 (r22 r2) (fun _ h => N5.out.below h N5.out.lt) Try.underlying40 rfl (by rw [r22_size]; kernel_rfl)) ((Below.refl _ _).drew) ?_
        (try simp only [Act.put]); (try simp only [List.setIfInBounds_toArray])
        refine wpBut_take (i := 1) rfl (by kernel_rfl) (by kernel_rfl) (by kernel_rfl) (by kernel_rfl) (by kernel_rfl) (fun _ _ _ h => h) (yieldsIf_load_row (by rfl) 40 _ rfl (B5) rfl 40 (r22 r2) (fun _ h => N5.out.below h N5.out.lt) Try.underlying40 rfl (by rw [r22_size]; kernel_rfl)) ((Below.refl _ _).drew) ?_
        (try simp only [Act.put]); (try simp only [List.setIfInBounds_toArray])
        refine wpBut_take (i := 3) rfl (by kernel_rfl) (by kernel_rfl) (by kernel_rfl) (by kernel_rfl) (by kernel_rfl) (fun _ _ _ h => h) (yieldsIf_load_row (by rfl) 40 _ rfl (w.heap.size) rfl 40 (r22 a) (fun _ h => N0.out.below h N0.out.lt) Try.underlying40 rfl (by rw [r22_size]; kernel_rfl)) ((Below.refl _ _).drew) ?_
        (try simp only [Act.put]); (try simp only [List.setIfInBounds_toArray])
        refine wpBut_one (i := 2) (by kernel_rfl) rfl (fun K hK => ?_)
        go_simp
        go_at_call 32
        refine (Ht2.out _).mono ?_
        rintro e ww81 ⟨rfl, hb⟩
        have hkw81 := held_next (Below.refl _ _).drew hb
        refine hK.out _ _ (fun _ => hkw81) ?_
        clear hK K hb
        refine wpBut_one (i := 4) (by kernel_rfl) rfl (fun K hK => ?_)
        go_simp
        refine hK.out _ _ (fun _ => hkw81) ?_
        clear hK K
        refine wpBut_done (by kernel_rfl) (NoPanic.normal ?_)
        have n0 := N0.out.call hkw81
        have n1 := N1.out.call hkw81
        have n5 := N5.out.call hkw81
        have hB := held_next HB.out hkw81
        clear N0 N1 N5 HB
        have N0 := Lib.hid n0; clear n0
        have N1 := Lib.hid n1; clear n1
        have N5 := Lib.hid n5; clear n5
        have HB := Lib.hid hB; clear hB
        rw [hok, if_neg (by decide)] at hv3
        have Hv3 := Lib.hid hv3; clear hv3
        have Hok := Lib.hid hok; clear hok
        have hz22 := zero22
        obtain ⟨Z, hZ, mz⟩ := N1.out
        have HZ := Lib.hid hZ; clear hZ
        have Mz := Lib.hid mz; clear mz
        have HBB := Lib.hid (below_setRow HB.out (w.heap.size + 1) (r22 0) (by omega))
        go_wp2_with (first | (refine wpList_store_row rfl 40 _ _ rfl (w.heap.size + 1) _ rfl rfl 40 Z Mz.out (by rw [r22_size]; kernel_rfl) (HZ.out.trans (r22_size _).symm) (row_one _ _ _) ?_))
        exact bodyPost_ret (v := .tuple #[.agg (r22 0), .bool false]) (results_cell_tmp_row (fn := Try.f45) (p := 2) (t2 := 3) (ty := 40) (t := 40) (by rfl) _ _ (w.heap.size + 1) _ _ _ rfl (Mz.out.setRow _) Try.underlying40 rfl (by rw [r22_size]; kernel_rfl)) rfl ⟨by rw [Hok.out, Hv3.out], HBB.out⟩
    · rw [decide_eq_false c1] at heq
      have hr2v : rt2 a = r1 * rti % PP := by unfold rt2; rw [← Hrr.out, ← Hs.out, if_neg c1]
      have k1 := fun w => rint_nn 2 (by omega) w
      have k2 := fun w => rint_nn 1 (by omega) w
      have k3 := fun w => less_any PP (1 % PP) (Nat.le_of_lt (Nat.mod_lt _ PP_pos)) PP_lt w
      have k4 := fun w => half_any (PP - 1 % PP) (Nat.lt_of_le_of_lt (Nat.sub_le _ _) PP_lt) w
      have k5 := fun w => half_any ((PP - 1 % PP) / 2) (half_lt _ (Nat.lt_of_le_of_lt (Nat.sub_le _ _) PP_lt)) w
      have k6 := fun w => rpow_any (2 % PP) ((PP - 1 % PP) / 2 / 2) (Nat.mod_lt _ PP_pos) ei_lt w
      have hti : rti < PP := pwm_lt _ _
      rw [show pwm (2 % PP) ((PP - 1 % PP) / 2 / 2) = rti from rfl] at k6
      obtain ⟨ti, hti2⟩ : ∃ x, x = rti := ⟨_, rfl⟩
      rw [← hti2] at k6 hti hr2v
      obtain ⟨v2, hv2⟩ : ∃ x, x = 2 % PP := ⟨_, rfl⟩
      rw [← hv2] at k1 k6
      obtain ⟨v1, hv1⟩ : ∃ x, x = 1 % PP := ⟨_, rfl⟩
      rw [← hv1] at k2 k3 k4 k5 k6
      obtain ⟨v3, hv3⟩ : ∃ x, x = PP - v1 := ⟨_, rfl⟩
      rw [← hv3] at k3 k4 k5 k6
      obtain ⟨v4, hv4⟩ : ∃ x, x = v3 / 2 := ⟨_, rfl⟩
      rw [← hv4] at k4 k5 k6
      obtain ⟨v5, hv5⟩ : ∃ x, x = v4 / 2 := ⟨_, rfl⟩
      rw [← hv5] at k5 k6
      have k7 := fun w => rtimes_any r1 ti Hr1.out hti w
      have hr2p : r1 * ti % PP < PP := Nat.mod_lt _ PP_pos
      obtain ⟨r2, hr2e⟩ : ∃ r, r = r1 * ti % PP := ⟨_, rfl⟩
      rw [← hr2e] at k7 hr2v hr2p
      have Hr2 := Lib.hid hr2p; clear hr2p
      have Hrr2 := Lib.hid hr2v.symm; clear hr2v
      have K1 := Lib.hid k1; clear k1
      have K2 := Lib.hid k2; clear k2
      have K3 := Lib.hid k3; clear k3
      have K4 := Lib.hid k4; clear k4
      have K5 := Lib.hid k5; clear k5
      have K6 := Lib.hid k6; clear k6
      have K7 := Lib.hid k7; clear k7
      clear c1 hti hti2 hv1 hv2 hv3 hv4 hv5 hr2e
      refine wp_region_noPanic ?_
      refine wp_region_below 99 (by kernel_rfl) ?_
      intro w6 hw6
      subst hw6
      have N5 := M5
      refine wpBut_take (i := 0) rfl (by kernel_rfl) (by kernel_rfl) (by kernel_rfl) (by kernel_rfl) (by kernel_rfl) (fun _ _ _ h => h) (yieldsIf_load_row (by rfl) 40 _ rfl (B5) rfl 40 (r22 r1) (fun _ h => N5.out.below h N5.out.lt) Try.underlying40 rfl (by rw [r22_size]; kernel_rfl)) ((Below.refl _ _).drew) ?_
      (try simp only [Act.put]); (try simp only [List.setIfInBounds_toArray])
      refine wpBut_take (i := 1) rfl (by kernel_rfl) (by kernel_rfl) (by kernel_rfl) (by kernel_rfl) (by kernel_rfl) (fun _ _ _ h => h) (yieldsIf_load_row (by rfl) 40 _ rfl (B5) rfl 40 (r22 r1) (fun _ h => N5.out.below h N5.out.lt) Try.underlying40 rfl (by rw [r22_size]; kernel_rfl)) ((Below.refl _ _).drew) ?_
      (try simp only [Act.put]); (try simp only [List.setIfInBounds_toArray])
      refine wpBut_take (i := 3) rfl (by kernel_rfl) (by kernel_rfl) (by kernel_rfl) (by kernel_rfl) (by kernel_rfl) (fun _ _ _ h => h) (yieldsIf_load_row (by rfl) 40 _ rfl (w.heap.size) rfl 40 (r22 a) (fun _ h => N0.out.below h N0.out.lt) Try.underlying40 rfl (by rw [r22_size]; kernel_rfl)) ((Below.refl _ _).drew) ?_
      (try simp only [Act.put]); (try simp only [List.setIfInBounds_toArray])
      refine wpBut_one (i := 2) (by kernel_rfl) rfl (fun K hK => ?_)
      go_simp
      go_at_call 32
      refine (Ht.out _).mono ?_
      rintro e ww61 ⟨rfl, hb⟩
      have hkw61 := held_next (Below.refl _ _).drew hb
      refine hK.out _ _ (fun _ => hkw61) ?_
      clear hK K hb
      refine wpBut_one (i := 4) (by kernel_rfl) rfl (fun K hK => ?_)
      go_simp
      refine hK.out _ _ (fun _ => hkw61) ?_
      clear hK K
      refine wpBut_done (by kernel_rfl) (NoPanic.normal ?_)
      have n0 := N0.out.call hkw61
      have n1 := N1.out.call hkw61
      have n5 := N5.out.call hkw61
      have hB' := held_next HB.out hkw61
      clear N0 N1 N5 M5 HB hkw61
      have HB := Lib.hid hB'; clear hB' heq
      have N0 := Lib.hid n0; clear n0
      have N1 := Lib.hid n1; clear n1
      have N5 := Lib.hid n5; clear n5
      go_wp2_with fail
      refine wp_region_noPanic ?_
      refine wp_region_below 9 (by kernel_rfl) ?_
      intro w7 hw7
      subst hw7
      have N5N := Lib.hid (N5.out.toN (r22_size _))
      refine wpBut_take (i := 0) rfl (by kernel_rfl) (by kernel_rfl) (by kernel_rfl) (by kernel_rfl) (by kernel_rfl) (fun _ _ _ h => h) (yieldsIf_load_row (by rfl) 40 _ rfl (B5) rfl 40 (r22 r1) (fun _ h => N5.out.below h N5.out.lt) Try.underlying40 rfl (by rw [r22_size]; kernel_rfl)) ((Below.refl _ _).drew) ?_
      (try simp only [Act.put]); (try simp only [List.setIfInBounds_toArray])
      refine wpBut_one (i := 1) (by kernel_rfl) rfl (fun K hK => ?_)
      go_simp
      go_at_call 35
      refine (K1.out _).mono ?_
      rintro e ww71 ⟨rfl, hb⟩
      have hkw71 := held_next (Below.refl _ _).drew hb
      refine hK.out _ _ (fun _ => hkw71) ?_
      clear hK K hb
      refine wpBut_one (i := 2) (by kernel_rfl) rfl (fun K hK => ?_)
      go_simp
      go_at_call 82
      refine (prime_any _).mono ?_
      rintro e ww72 ⟨rfl, hb⟩
      have hkw72 := held_next hkw71 hb
      refine hK.out _ _ (fun _ => hkw72) ?_
      clear hK K hb
      refine wpBut_one (i := 3) (by kernel_rfl) rfl (fun K hK => ?_)
      go_simp
      go_at_call 35
      refine (K2.out _).mono ?_
      rintro e ww73 ⟨rfl, hb⟩
      have hkw73 := held_next hkw72 hb
      refine hK.out _ _ (fun _ => hkw73) ?_
      clear hK K hb
      refine wpBut_one (i := 4) (by kernel_rfl) rfl (fun K hK => ?_)
      go_simp
      go_at_call 81
      refine (K3.out _).mono ?_
      rintro e ww74 ⟨rfl, hb⟩
      have hkw74 := held_next hkw73 hb
      refine hK.out _ _ (fun _ => hkw74) ?_
      clear hK K hb
      refine wpBut_one (i := 5) (by kernel_rfl) rfl (fun K hK => ?_)
      go_simp
      go_at_call 86
      refine (K4.out _).mono ?_
      rintro e ww75 ⟨rfl, hb⟩
      have hkw75 := held_next hkw74 hb
      refine hK.out _ _ (fun _ => hkw75) ?_
      clear hK K hb
      refine wpBut_one (i := 6) (by kernel_rfl) rfl (fun K hK => ?_)
      go_simp
      go_at_call 86
      refine (K5.out _).mono ?_
      rintro e ww76 ⟨rfl, hb⟩
      have hkw76 := held_next hkw75 hb
      refine hK.out _ _ (fun _ => hkw76) ?_
      clear hK K hb
      refine wpBut_one (i := 7) (by kernel_rfl) rfl (fun K hK => ?_)
      go_simp
      go_at_call 85
      refine (K6.out _).mono ?_
      rintro e ww77 ⟨rfl, hb⟩
      have hkw77 := held_next hkw76 hb
      refine hK.out _ _ (fun _ => hkw77) ?_
      clear hK K hb
      refine wpBut_one (i := 8) (by kernel_rfl) rfl (fun K hK => ?_)
      go_simp
      go_at_call 32
      refine (K7.out _).mono ?_
      rintro e ww78 ⟨rfl, hb⟩
      have hkw78 := held_next hkw77 hb
      refine hK.out _ _ (fun _ => hkw78) ?_
      clear hK K hb
      obtain ⟨Z, hZ, mZ⟩ := N5N.out.below hkw78 N5N.out.lt
      have MZ := Lib.hid mZ; clear mZ
      have HZ := Lib.hid hZ; clear hZ
      refine wpBut_one (i := 9) (by kernel_rfl) rfl (fun K hK => ?_)
      rw [if_pos (by rfl)]
      refine wp_store_row 40 _ _ rfl (B5) _ rfl rfl 40 Z MZ.out (by rw [r22_size]; kernel_rfl) (HZ.out.trans (r22_size _).symm) (row_one _ _ _) ?_
      refine hK.out _ _ (fun h => (h rfl).elim) ?_
      clear hK K
      (try simp only [Act.put]); (try simp only [List.setIfInBounds_toArray])
      refine wpBut_done (by kernel_rfl) (NoPanic.normal ?_)
      have n0 := (N0.out.call hkw78).setRow_other B5 (r22 r2) (by omega)
      have n1 := (N1.out.call hkw78).setRow_other B5 (r22 r2) (by omega)
      have n5 := MZ.out.setRow (r22 r2)
      have hB := below_setRow (held_next HB.out hkw78) B5 (r22 r2) (by omega)
      clear N0 N1 N5 HB MZ HZ N5N hkw71 hkw72 hkw73 hkw74 hkw75 hkw76 hkw77 hkw78
      have N0 := Lib.hid n0; clear n0
      have N1 := Lib.hid n1; clear n1
      have N5 := Lib.hid n5; clear n5
      have HB := Lib.hid hB; clear hB
      have ht2 := fun w => rtimes_any r2 r2 Hr2.out Hr2.out w
      have hs2' : r2 * r2 % PP < 4096 ^ 22 := Nat.lt_trans (Nat.mod_lt _ PP_pos) PP_lt
      have hok : rtok a = decide (r2 * r2 % PP = a) := by rw [Hrr2.out]; rfl
      have hv3 : rt3 a = if rtok a then (if r2 % 2 = 1 then PP - r2 else r2) else 0 := by rw [Hrr2.out]; rfl
      obtain ⟨s2, hs2⟩ : ∃ s, s = r2 * r2 % PP := ⟨_, rfl⟩
      rw [← hs2] at ht2 hs2' hok
      have heq2 := fun w => r22_eq s2 a hs2' Ha22.out w
      have Ht2 := Lib.hid ht2; clear ht2
      have Hs2 := Lib.hid hs2; clear hs2
      clear hs2'
      go_wp2_with fail
      by_cases c2 : s2 = a
      · rw [decide_eq_true c2] at heq2 hok
        have C2 := Lib.hid c2; clear c2
        refine wp_region_noPanic ?_
        refine wp_region_below 99 (by kernel_rfl) ?_
        intro w8 hw8
        subst hw8
        refine wpBut_take (i := 0) rfl (by kernel_rfl) (by kernel_rfl) (by kernel_rfl) (by kernel_rfl) (by kernel_rfl) (fun _ _ _ h => h) (yieldsIf_load_row (by rfl) 40 _ rfl (B5) rfl 40 (r22 r2) (fun _ h => N5.out.below h N5.out.lt) Try.underlying40 rfl (by rw [r22_size]; kernel_rfl)) ((Below.refl _ _).drew) ?_
        (try simp only [Act.put]); (try simp only [List.setIfInBounds_toArray])
        refine wpBut_take (i := 1) rfl (by kernel_rfl) (by kernel_rfl) (by kernel_rfl) (by kernel_rfl) (by kernel_rfl) (fun _ _ _ h => h) (yieldsIf_load_row (by rfl) 40 _ rfl (B5) rfl 40 (r22 r2) (fun _ h => N5.out.below h N5.out.lt) Try.underlying40 rfl (by rw [r22_size]; kernel_rfl)) ((Below.refl _ _).drew) ?_
        (try simp only [Act.put]); (try simp only [List.setIfInBounds_toArray])
        refine wpBut_take (i := 3) rfl (by kernel_rfl) (by kernel_rfl) (by kernel_rfl) (by kernel_rfl) (by kernel_rfl) (fun _ _ _ h => h) (yieldsIf_load_row (by rfl) 40 _ rfl (w.heap.size) rfl 40 (r22 a) (fun _ h => N0.out.below h N0.out.lt) Try.underlying40 rfl (by rw [r22_size]; kernel_rfl)) ((Below.refl _ _).drew) ?_
        (try simp only [Act.put]); (try simp only [List.setIfInBounds_toArray])
        refine wpBut_one (i := 2) (by kernel_rfl) rfl (fun K hK => ?_)
        go_simp
        go_at_call 32
        refine (Ht2.out _).mono ?_
        rintro e ww81 ⟨rfl, hb⟩
        have hkw81 := held_next (Below.refl _ _).drew hb
        refine hK.out _ _ (fun _ => hkw81) ?_
        clear hK K hb
        refine wpBut_one (i := 4) (by kernel_rfl) rfl (fun K hK => ?_)
        go_simp
        refine hK.out _ _ (fun _ => hkw81) ?_
        clear hK K
        refine wpBut_done (by kernel_rfl) (NoPanic.normal ?_)
        have n0 := N0.out.call hkw81
        have n1 := N1.out.call hkw81
        have n5 := N5.out.call hkw81
        have hB := held_next HB.out hkw81
        clear N0 N1 N5 HB
        have N0 := Lib.hid n0; clear n0
        have N1 := Lib.hid n1; clear n1
        have N5 := Lib.hid n5; clear n5
        have HB := Lib.hid hB; clear hB
        rw [hok, if_pos rfl] at hv3
        have h1 := N5.out.cell 0 (by omega)
        have hz0 : dg 4096 r2 0 % 2 = ((r2 % 2 : Nat) : Int) := by unfold dg; rw [Nat.pow_zero, Nat.div_one]; omega
        have hzn := dg_nn r2 0
        obtain ⟨z, hz⟩ : ∃ z, z = dg 4096 r2 0 := ⟨_, rfl⟩
        rw [← hz] at h1 hz0 hzn
        have Hz := Lib.hid hz; clear hz
        have Hz0 := Lib.hid hz0; clear hz0
        have Hok := Lib.hid hok; clear hok
        by_cases c3 : r2 % 2 = 1
        · have ht : (z % 2 == 1) = true := by rw [Hz0.out, c3]; rfl
          rw [if_pos c3] at hv3
          have hl := fun w => less_any PP r2 (Nat.le_of_lt Hr2.out) PP_lt w
          rw [← hv3] at hl
          have Hl := Lib.hid hl; clear hl
          have Hv3 := Lib.hid hv3; clear hv3
          have C3 := Lib.hid c3; clear c3
          go_wp2_with fail
          refine wp_region_noPanic ?_
          refine wp_region_below 3 (by kernel_rfl) ?_
          intro w9 hw9
          subst hw9
          have N5N := Lib.hid (N5.out.toN (r22_size _))
          refine wpBut_take (i := 1) rfl (by kernel_rfl) (by kernel_rfl) (by kernel_rfl) (by kernel_rfl) (by kernel_rfl) (fun _ _ _ h => h) (yieldsIf_load_row (by rfl) 40 _ rfl (B5) rfl 40 (r22 r2) (fun _ h => N5.out.below h N5.out.lt) Try.underlying40 rfl (by rw [r22_size]; kernel_rfl)) ((Below.refl _ _).drew) ?_
          (try simp only [Act.put]); (try simp only [List.setIfInBounds_toArray])
          refine wpBut_one (i := 0) (by kernel_rfl) rfl (fun K hK => ?_)
          go_simp
          go_at_call 82
          refine (prime_any _).mono ?_
          rintro e ww91 ⟨rfl, hb⟩
          have hkw91 := held_next (Below.refl _ _).drew hb
          refine hK.out _ _ (fun _ => hkw91) ?_
          clear hK K hb
          refine wpBut_one (i := 2) (by kernel_rfl) rfl (fun K hK => ?_)
          go_simp
          go_at_call 81
          refine (Hl.out _).mono ?_
          rintro e ww92 ⟨rfl, hb⟩
          have hkw92 := held_next hkw91 hb
          refine hK.out _ _ (fun _ => hkw92) ?_
          clear hK K hb
          obtain ⟨Z, hZ, mZ⟩ := N5N.out.below hkw92 N5N.out.lt
          have MZ := Lib.hid mZ; clear mZ
          have HZ := Lib.hid hZ; clear hZ
          refine wpBut_one (i := 3) (by kernel_rfl) rfl (fun K hK => ?_)
          rw [if_pos (by rfl)]
          refine wp_store_row 40 _ _ rfl (B5) _ rfl rfl 40 Z MZ.out (by rw [r22_size]; kernel_rfl) (HZ.out.trans (r22_size _).symm) (row_one _ _ _) ?_
          refine hK.out _ _ (fun h => (h rfl).elim) ?_
          clear hK K
          (try simp only [Act.put]); (try simp only [List.setIfInBounds_toArray])
          refine wpBut_done (by kernel_rfl) (NoPanic.normal ?_)
          have n1 := (N1.out.call hkw92).setRow_other B5 (r22 (rt3 a)) (by omega)
          have n5 := MZ.out.setRow (r22 (rt3 a))
          have hB := below_setRow (held_next HB.out hkw92) B5 (r22 (rt3 a)) (by omega)
          clear N0 N1 N5 HB MZ HZ N5N
          have N1 := Lib.hid n1; clear n1
          have N5 := Lib.hid n5; clear n5
          have HB := Lib.hid hB; clear hB
          obtain ⟨Z, hZ, mz⟩ := N1.out
          have HZ := Lib.hid hZ; clear hZ
          have Mz := Lib.hid mz; clear mz
          have HBB := Lib.hid (below_setRow HB.out (w.heap.size + 1) (r22 (rt3 a)) (by omega))
          go_wp2_with (first | (refine wpList_load_row rfl 40 _ rfl (B5) rfl 40 (r22 (rt3 a)) (0, 0) _ N5.out Try.underlying40 rfl (by rw [r22_size]; kernel_rfl) ?_) | (refine wpList_store_row rfl 40 _ _ rfl (w.heap.size + 1) _ rfl rfl 40 Z Mz.out (by rw [r22_size]; kernel_rfl) (HZ.out.trans (r22_size _).symm) (row_one _ _ _) ?_))
          exact bodyPost_ret (v := .tuple #[.agg (r22 (rt3 a)), .bool true]) (results_cell_tmp_row (fn := Try.f45) (p := 2) (t2 := 3) (ty := 40) (t := 40) (by rfl) _ _ (w.heap.size + 1) _ _ _ rfl (Mz.out.setRow _) Try.underlying40 rfl (by rw [r22_size]; kernel_rfl)) rfl ⟨by rw [Hok.out], HBB.out⟩
        · have ht : (z % 2 == 1) = false := by rw [Hz0.out, show r2 % 2 = 0 by omega]; rfl
          rw [if_neg c3] at hv3
          have Hv3 := Lib.hid hv3; clear hv3
          clear c3
          obtain ⟨Z, hZ, mz⟩ := N1.out
          have HZ := Lib.hid hZ; clear hZ
          have Mz := Lib.hid mz; clear mz
          have HBB := Lib.hid (below_setRow HB.out (w.heap.size + 1) (r22 r2) (by omega))
          go_wp2_with (first | (refine wpList_load_row rfl 40 _ rfl (B5) rfl 40 (r22 r2) (0, 0) _ N5.out Try.underlying40 rfl (by rw [r22_size]; kernel_rfl) ?_) | (refine wpList_store_row rfl 40 _ _ rfl (w.heap.size + 1) _ rfl rfl 40 Z Mz.out (by rw [r22_size]; kernel_rfl) (HZ.out.trans (r22_size _).symm) (row_one _ _ _) ?_))
          exact bodyPost_ret (v := .tuple #[.agg (r22 r2), .bool true]) (results_cell_tmp_row (fn := Try.f45) (p := 2) (t2 := 3) (ty := 40) (t := 40) (by rfl) _ _ (w.heap.size + 1) _ _ _ rfl (Mz.out.setRow _) Try.underlying40 rfl (by rw [r22_size]; kernel_rfl)) rfl ⟨by rw [Hok.out, Hv3.out], HBB.out⟩
      · rw [decide_eq_false c2] at heq2 hok
        have C2 := Lib.hid c2; clear c2
        refine wp_region_noPanic ?_
        refine wp_region_below 99 (by kernel_rfl) ?_
        intro w8 hw8
        subst hw8
        refine wpBut_take (i := 0) rfl (by kernel_rfl) (by kernel_rfl) (by kernel_rfl) (by kernel_rfl) (by kernel_rfl) (fun _ _ _ h => h) (yieldsIf_load_row (by rfl) 40 _ rfl (B5) rfl 40 (r22 r2) (fun _ h => N5.out.below h N5.out.lt) Try.underlying40 rfl (by rw [r22_size]; kernel_rfl)) ((Below.refl _ _).drew) ?_
        (try simp only [Act.put]); (try simp only [List.setIfInBounds_toArray])
        refine wpBut_take (i := 1) rfl (by kernel_rfl) (by kernel_rfl) (by kernel_rfl) (by kernel_rfl) (by kernel_rfl) (fun _ _ _ h => h) (yieldsIf_load_row (by rfl) 40 _ rfl (B5) rfl 40 (r22 r2) (fun _ h => N5.out.below h N5.out.lt) Try.underlying40 rfl (by rw [r22_size]; kernel_rfl)) ((Below.refl _ _).drew) ?_
        (try simp only [Act.put]); (try simp only [List.setIfInBounds_toArray])
        refine wpBut_take (i := 3) rfl (by kernel_rfl) (by kernel_rfl) (by kernel_rfl) (by kernel_rfl) (by kernel_rfl) (fun _ _ _ h => h) (yieldsIf_load_row (by rfl) 40 _ rfl (w.heap.size) rfl 40 (r22 a) (fun _ h => N0.out.below h N0.out.lt) Try.underlying40 rfl (by rw [r22_size]; kernel_rfl)) ((Below.refl _ _).drew) ?_
        (try simp only [Act.put]); (try simp only [List.setIfInBounds_toArray])
        refine wpBut_one (i := 2) (by kernel_rfl) rfl (fun K hK => ?_)
        go_simp
        go_at_call 32
        refine (Ht2.out _).mono ?_
        rintro e ww81 ⟨rfl, hb⟩
        have hkw81 := held_next (Below.refl _ _).drew hb
        refine hK.out _ _ (fun _ => hkw81) ?_
        clear hK K hb
        refine wpBut_one (i := 4) (by kernel_rfl) rfl (fun K hK => ?_)
        go_simp
        refine hK.out _ _ (fun _ => hkw81) ?_
        clear hK K
        refine wpBut_done (by kernel_rfl) (NoPanic.normal ?_)
        have n0 := N0.out.call hkw81
        have n1 := N1.out.call hkw81
        have n5 := N5.out.call hkw81
        have hB := held_next HB.out hkw81
        clear N0 N1 N5 HB
        have N0 := Lib.hid n0; clear n0
        have N1 := Lib.hid n1; clear n1
        have N5 := Lib.hid n5; clear n5
        have HB := Lib.hid hB; clear hB
        rw [hok, if_neg (by decide)] at hv3
        have Hv3 := Lib.hid hv3; clear hv3
        have Hok := Lib.hid hok; clear hok
        have hz22 := zero22
        obtain ⟨Z, hZ, mz⟩ := N1.out
        have HZ := Lib.hid hZ; clear hZ
        have Mz := Lib.hid mz; clear mz
        have HBB := Lib.hid (below_setRow HB.out (w.heap.size + 1) (r22 0) (by omega))
        go_wp2_with (first | (refine wpList_store_row rfl 40 _ _ rfl (w.heap.size + 1) _ rfl rfl 40 Z Mz.out (by rw [r22_size]; kernel_rfl) (HZ.out.trans (r22_size _).symm) (row_one _ _ _) ?_))
        exact bodyPost_ret (v := .tuple #[.agg (r22 0), .bool false]) (results_cell_tmp_row (fn := Try.f45) (p := 2) (t2 := 3) (ty := 40) (t := 40) (by rfl) _ _ (w.heap.size + 1) _ _ _ rfl (Mz.out.setRow _) Try.underlying40 rfl (by rw [r22_size]; kernel_rfl)) rfl ⟨by rw [Hok.out, Hv3.out], HBB.out⟩
end Go.Proofs.Ytjiagjonlcadiaa
