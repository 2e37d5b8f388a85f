/- The program's points: plain, made, slope. -/
import Derived.Test.YtjiagjonlcadiaaLawC
import Derived.Test.YtjiagjonlcadiaaPt
namespace Go.Proofs.Ytjiagjonlcadiaa
open Go.RowKit Go.Lib
theorem ent46 : Enters Try.prog 46 := ⟨_, Try.func46, by kernel_rfl, by kernel_rfl⟩
theorem ent47 : Enters Try.prog 47 := ⟨_, Try.func47, by kernel_rfl, by kernel_rfl⟩
theorem ent48 : Enters Try.prog 48 := ⟨_, Try.func48, by kernel_rfl, by kernel_rfl⟩
theorem ent49 : Enters Try.prog 49 := ⟨_, Try.func49, by kernel_rfl, by kernel_rfl⟩
theorem ent50 : Enters Try.prog 50 := ⟨_, Try.func50, by kernel_rfl, by kernel_rfl⟩
theorem ent51 : Enters Try.prog 51 := ⟨_, Try.func51, by kernel_rfl, by kernel_rfl⟩
theorem ent52 : Enters Try.prog 52 := ⟨_, Try.func52, by kernel_rfl, by kernel_rfl⟩
theorem ent53 : Enters Try.prog 53 := ⟨_, Try.func53, by kernel_rfl, by kernel_rfl⟩
theorem ent54 : Enters Try.prog 54 := ⟨_, Try.func54, by kernel_rfl, by kernel_rfl⟩
theorem ent55 : Enters Try.prog 55 := ⟨_, Try.func55, by kernel_rfl, by kernel_rfl⟩
theorem ent56 : Enters Try.prog 56 := ⟨_, Try.func56, by kernel_rfl, by kernel_rfl⟩
theorem ent57 : Enters Try.prog 57 := ⟨_, Try.func57, by kernel_rfl, by kernel_rfl⟩
theorem ent58 : Enters Try.prog 58 := ⟨_, Try.func58, by kernel_rfl, by kernel_rfl⟩
theorem ent59 : Enters Try.prog 59 := ⟨_, Try.func59, by kernel_rfl, by kernel_rfl⟩
theorem ent87 : Enters Try.prog 87 := ⟨_, Try.func87, by kernel_rfl, by kernel_rfl⟩
theorem ent88 : Enters Try.prog 88 := ⟨_, Try.func88, by kernel_rfl, by kernel_rfl⟩
theorem ent89 : Enters Try.prog 89 := ⟨_, Try.func89, by kernel_rfl, by kernel_rfl⟩
theorem ent90 : Enters Try.prog 90 := ⟨_, Try.func90, by kernel_rfl, by kernel_rfl⟩
theorem ent91 : Enters Try.prog 91 := ⟨_, Try.func91, by kernel_rfl, by kernel_rfl⟩
theorem ent92 : Enters Try.prog 92 := ⟨_, Try.func92, by kernel_rfl, by kernel_rfl⟩
theorem ent93 : Enters Try.prog 93 := ⟨_, Try.func93, by kernel_rfl, by kernel_rfl⟩
theorem ent97 : Enters Try.prog 97 := ⟨_, Try.func97, by kernel_rfl, by kernel_rfl⟩

/-- what a point is: its numbers x, y, z1 and its truth, and the residues X, Y, Z of x, y, z -/
def IsPt (x y z1 : Nat) (b : Bool) (X Y Z : Nat) : Prop :=
  (x < 115792089237316195423570985008687907853269984665640564039457584007913129639936 ∧ y < 115792089237316195423570985008687907853269984665640564039457584007913129639936 ∧ z1 < 115792089237316195423570985008687907853269984665640564039457584007913129639936) ∧ (b = true ∧ x % PP = X ∧ y % PP = Y ∧ (z1 + 1) % PP = Z ∨ b = false ∧ 0 % PP = X ∧ 1 % PP = Y ∧ 1 % PP = Z)
/-- three elements of these residues -/
def PlP (X Y Z : Nat) (w : World) (e : Ending) (w' : World) : Prop :=
  ∃ x y z : Nat, (x < 115792089237316195423570985008687907853269984665640564039457584007913129639936 ∧ y < 115792089237316195423570985008687907853269984665640564039457584007913129639936 ∧ z < 115792089237316195423570985008687907853269984665640564039457584007913129639936) ∧ (x % PP = X ∧ y % PP = Y ∧ z % PP = Z) ∧ e = .returned (.tuple #[.agg (e4 x), .agg (e4 y), .agg (e4 z)]) ∧ Below w.heap.size w w'
/-- a point of these residues -/
def PtP (X Y Z : Nat) (w : World) (e : Ending) (w' : World) : Prop :=
  ∃ (x y z1 : Nat) (b : Bool), IsPt x y z1 b X Y Z ∧ e = .returned (.agg (pt x y z1 b)) ∧ Below w.heap.size w w'

set_option maxRecDepth 100000 in
set_option linter.unusedSimpArgs false in
set_option maxHeartbeats 8000000 in
theorem plain_any (x y z1 : Nat) (b : Bool) (X Y Z : Nat) (h : IsPt x y z1 b X Y Z) (w : World) :
    Calls Try.prog 90 #[.agg (pt x y z1 b)] w (PlP X Y Z w) := by
  obtain ⟨⟨hx, hy, hz⟩, hc⟩ := h
  have hint := fun w => fint_nn 1 (by decide) w
  have hpl := fun w => plus_any z1 1 hz (by decide) w
  have Hint := Lib.hid hint; clear hint
  have Hpl := Lib.hid hpl; clear hpl
  have Hx := Lib.hid hx; clear hx
  have Hy := Lib.hid hy; clear hy
  have Hz := Lib.hid hz; clear hz
  have Hc := Lib.hid hc; clear hc
  go_enter Try.func90, Try.ntmps90
  repeat ((fail_if_success (with_reducible (show wpList _ _ _ _ _ _))); go_step)
  refine wpList_step (fun K hK => ?_)
  go_simp
  (try go_bits)
  refine hK _ _ ?_
  clear hK K
  refine wpList_step (fun K hK => ?_)
  go_simp
  (try go_bits)
  refine hK _ _ ?_
  clear hK K
  refine wpList_step (fun K hK => ?_)
  go_simp
  (try go_bits)
  refine hK _ _ ?_
  clear hK K
  refine wpList_step (fun K hK => ?_)
  go_simp
  (try go_bits)
  refine hK _ _ ?_
  clear hK K
  refine wpList_nil ?_
  have M1 := Lib.hid ((((Has.new w  (pt x y z1 b) 53).alloc (.cells (#[.int .u64 0, .int .u64 0, .int .u64 0, .int .u64 0] : Array Value) 36)).alloc (.cells (#[.int .u64 0, .int .u64 0, .int .u64 0, .int .u64 0] : Array Value) 36)).alloc (.cells (#[.int .u64 0, .int .u64 0, .int .u64 0, .int .u64 0] : Array Value) 36))
  have M2 := Lib.hid (((HasN.new1 w (.cells (pt x y z1 b) 53) (#[.int .u64 0, .int .u64 0, .int .u64 0, .int .u64 0] : Array Value) 36 4 (by kernel_rfl)).alloc (.cells (#[.int .u64 0, .int .u64 0, .int .u64 0, .int .u64 0] : Array Value) 36)).alloc (.cells (#[.int .u64 0, .int .u64 0, .int .u64 0, .int .u64 0] : Array Value) 36))
  have M3 := Lib.hid ((HasN.new2 w (.cells (pt x y z1 b) 53) (.cells (#[.int .u64 0, .int .u64 0, .int .u64 0, .int .u64 0] : Array Value) 36) (#[.int .u64 0, .int .u64 0, .int .u64 0, .int .u64 0] : Array Value) 36 4 (by kernel_rfl)).alloc (.cells (#[.int .u64 0, .int .u64 0, .int .u64 0, .int .u64 0] : Array Value) 36))
  have M4 := Lib.hid (HasN.new3 w (.cells (pt x y z1 b) 53) (.cells (#[.int .u64 0, .int .u64 0, .int .u64 0, .int .u64 0] : Array Value) 36) (.cells (#[.int .u64 0, .int .u64 0, .int .u64 0, .int .u64 0] : Array Value) 36) (#[.int .u64 0, .int .u64 0, .int .u64 0, .int .u64 0] : Array Value) 36 4 (by kernel_rfl))
  have HB := Lib.hid (below_4 w (.cells (pt x y z1 b) 53) (.cells (#[.int .u64 0, .int .u64 0, .int .u64 0, .int .u64 0] : Array Value) 36) (.cells (#[.int .u64 0, .int .u64 0, .int .u64 0, .int .u64 0] : Array Value) 36) (.cells (#[.int .u64 0, .int .u64 0, .int .u64 0, .int .u64 0] : Array Value) 36))
  obtain ⟨yw1, hwyw1⟩ : ∃ ww, ww = ((((w.alloc (.cells (pt x y z1 b) 53)).alloc (.cells (#[.int .u64 0, .int .u64 0, .int .u64 0, .int .u64 0] : Array Value) 36)).alloc (.cells (#[.int .u64 0, .int .u64 0, .int .u64 0, .int .u64 0] : Array Value) 36)).alloc (.cells (#[.int .u64 0, .int .u64 0, .int .u64 0, .int .u64 0] : Array Value) 36)) := ⟨_, rfl⟩
  rw [← hwyw1] at M1 M2 M3 M4 HB ⊢
  clear hwyw1
  repeat ((fail_if_success (with_reducible (show wpList _ _ _ _ _ _))); go_step)
  refine wpList_call (by rfl) rfl rfl (by rfl) ent34 (by rfl) (Hint.out _) 6 rfl ?_
  rintro e uw1 ⟨rfl, hb⟩
  replace M1 := Lib.hid (M1.out.call hb)
  replace M2 := Lib.hid (M2.out.call hb)
  replace M3 := Lib.hid (M3.out.call hb)
  replace M4 := Lib.hid (M4.out.call hb)
  replace HB := Lib.hid (held_next HB.out hb)
  refine ⟨_, rfl, ?_⟩
  clear hb
  (try simp only [Act.put, sI, sS, sZ])
  refine wpList_alloc (by rfl) 36 rfl _ al36 5 rfl ?_
  intro yw2 hw2
  have hlt3 := M1.out.lt
  have hlt4 := M2.out.lt
  have hlt5 := M3.out.lt
  have hlt6 := M4.out.lt
  have hsz := HB.out.size
  have kq := M1.out.alloc (.cells z36 36); rw [← hw2] at kq; clear M1; have M1 := Lib.hid kq; clear kq
  have kq := M2.out.alloc (.cells z36 36); rw [← hw2] at kq; clear M2; have M2 := Lib.hid kq; clear kq
  have kq := M3.out.alloc (.cells z36 36); rw [← hw2] at kq; clear M3; have M3 := Lib.hid kq; clear kq
  have kq := M4.out.alloc (.cells z36 36); rw [← hw2] at kq; clear M4; have M4 := Lib.hid kq; clear kq
  have kq := HasN.new uw1 z36 36 4 (by kernel_rfl); rw [← hw2] at kq; have M5 := Lib.hid kq; clear kq
  have kq := HB.out.alloc hsz (.cells z36 36); rw [← hw2] at kq; clear HB; have HB := Lib.hid kq; clear kq hw2
  (try simp only [Act.put, sI, sS, sZ])
  first | (obtain ⟨Zq, hZ, mZ⟩ := M5.out) | (obtain ⟨Zq, hZ, mZ⟩ := M5.out.toN (e4_size ..))
  refine wpList_store2 (by rfl) 36 _ _ rfl rfl (uw1.heap.size) (e4 1) rfl rfl 36 Zq mZ (by rw [e4_size]; kernel_rfl) (hZ.trans (e4_size ..).symm) (row_one _ _ _) ?_
  intro yw7 hw2
  have kq := M1.out.setRow_other (uw1.heap.size) (e4 1) (by omega); rw [← hw2] at kq; clear M1; have M1 := Lib.hid kq; clear kq
  have kq := M2.out.setRow_other (uw1.heap.size) (e4 1) (by omega); rw [← hw2] at kq; clear M2; have M2 := Lib.hid kq; clear kq
  have kq := M3.out.setRow_other (uw1.heap.size) (e4 1) (by omega); rw [← hw2] at kq; clear M3; have M3 := Lib.hid kq; clear kq
  have kq := M4.out.setRow_other (uw1.heap.size) (e4 1) (by omega); rw [← hw2] at kq; clear M4; have M4 := Lib.hid kq; clear kq
  have kq := mZ.setRow (e4 1); rw [← hw2] at kq; clear M5; have M5 := Lib.hid kq; clear kq mZ hZ
  have kq := below_setRow HB.out (uw1.heap.size) (e4 1) (by omega); rw [← hw2] at kq; clear HB; have HB := Lib.hid kq; clear kq hw2
  refine wpList_nil ?_
  repeat ((fail_if_success (with_reducible (show wpList _ _ _ _ _ _))); go_step)
  have hcw := pt_w M1.out
  refine wpList_step (fun K hK => ?_)
  go_simp
  (try go_bits)
  refine hK _ _ ?_
  clear hK K
  refine wpList_step (fun K hK => ?_)
  go_simp
  (try go_bits)
  refine hK _ _ ?_
  clear hK K
  refine wpList_step (fun K hK => ?_)
  go_simp
  (try go_bits)
  refine hK _ _ ?_
  clear hK K
  refine wpList_nil ?_
  clear hcw
  cases b
  · repeat ((fail_if_success (with_reducible (show wpList _ _ _ _ _ _))); go_step)
    refine wp_region_noPanic ?_
    refine wp_region_goS (fun w' => Has w' (uw1.heap.size) (e4 1) 36) 99 6 #[false, false, false, false, false, false] (by kernel_rfl) rfl rfl ?_
    replace M1 := Lib.hid (M1.out.drew)
    replace M2 := Lib.hid (M2.out.drew)
    replace M3 := Lib.hid (M3.out.drew)
    replace M4 := Lib.hid (M4.out.drew)
    replace M5 := Lib.hid (M5.out.drew)
    replace HB := Lib.hid (below_drewN HB.out 1)
    obtain ⟨yw8, hwyw8⟩ : ∃ ww, ww = yw7.drew := ⟨_, rfl⟩
    rw [← hwyw8] at M1 M2 M3 M4 M5 ⊢
    have kq : Below w.heap.size w yw8 := by rw [hwyw8]; exact HB.out
    clear HB; have HB := Lib.hid kq; clear kq hwyw8
    refine go_take2 0 10 #[true, false, false, false, false, false] rfl rfl rfl (by kernel_rfl) (yieldsIf_build (by rfl) 36 _ rfl _ (by rfl) (e4 0) (bd36z)) (M5.out) ?_
    (try simp only [sI, sS, sZ])
    refine go_take2 1 11 #[true, true, false, false, false, false] rfl rfl rfl (by kernel_rfl) (yieldsIf_load_row (by rfl) 36 _ rfl (uw1.heap.size) rfl 36 (e4 1) (fun _ h => h) Try.underlying36 rfl (by rw [e4_size]; kernel_rfl)) (M5.out) ?_
    (try simp only [sI, sS, sZ])
    refine go_take2 2 12 #[true, true, true, false, false, false] rfl rfl rfl (by kernel_rfl) (yieldsIf_load_row (by rfl) 36 _ rfl (uw1.heap.size) rfl 36 (e4 1) (fun _ h => h) Try.underlying36 rfl (by rw [e4_size]; kernel_rfl)) (M5.out) ?_
    (try simp only [sI, sS, sZ])
    refine wpBut_r1 (i := 3) (by kernel_rfl) ?_
    first | (obtain ⟨Zq, hZ, mZ⟩ := M2.out) | (obtain ⟨Zq, hZ, mZ⟩ := M2.out.toN (e4_size ..))
    refine go_store2 3 #[true, true, true, true, false, false] rfl rfl rfl (by rfl) 36 _ _ rfl (w.heap.size + 1) (e4 0) rfl rfl 36 Zq mZ (by rw [e4_size]; kernel_rfl) (hZ.trans (e4_size ..).symm) (row_one _ _ _) ?_
    intro yw9 hw2
    have kq := M1.out.setRow_other (w.heap.size + 1) (e4 0) (by omega); rw [← hw2] at kq; clear M1; have M1 := Lib.hid kq; clear kq
    have kq := M3.out.setRow_other (w.heap.size + 1) (e4 0) (by omega); rw [← hw2] at kq; clear M3; have M3 := Lib.hid kq; clear kq
    have kq := M4.out.setRow_other (w.heap.size + 1) (e4 0) (by omega); rw [← hw2] at kq; clear M4; have M4 := Lib.hid kq; clear kq
    have kq := M5.out.setRow_other (w.heap.size + 1) (e4 0) (by omega); rw [← hw2] at kq; clear M5; have M5 := Lib.hid kq; clear kq
    have kq := mZ.setRow (e4 0); rw [← hw2] at kq; clear M2; have M2 := Lib.hid kq; clear kq mZ hZ
    have kq := below_setRow HB.out (w.heap.size + 1) (e4 0) (by omega); rw [← hw2] at kq; clear HB; have HB := Lib.hid kq; clear kq hw2
    refine ⟨fun _ => M5.out, ?_⟩
    (try simp only [sI, sS, sZ])
    refine wpBut_r1 (i := 4) (by kernel_rfl) ?_
    first | (obtain ⟨Zq, hZ, mZ⟩ := M3.out) | (obtain ⟨Zq, hZ, mZ⟩ := M3.out.toN (e4_size ..))
    refine go_store2 4 #[true, true, true, true, true, false] rfl rfl rfl (by rfl) 36 _ _ rfl (w.heap.size + 1 + 1) (e4 1) rfl rfl 36 Zq mZ (by rw [e4_size]; kernel_rfl) (hZ.trans (e4_size ..).symm) (row_one _ _ _) ?_
    intro yw10 hw2
    have kq := M1.out.setRow_other (w.heap.size + 1 + 1) (e4 1) (by omega); rw [← hw2] at kq; clear M1; have M1 := Lib.hid kq; clear kq
    have kq := M2.out.setRow_other (w.heap.size + 1 + 1) (e4 1) (by omega); rw [← hw2] at kq; clear M2; have M2 := Lib.hid kq; clear kq
    have kq := M4.out.setRow_other (w.heap.size + 1 + 1) (e4 1) (by omega); rw [← hw2] at kq; clear M4; have M4 := Lib.hid kq; clear kq
    have kq := M5.out.setRow_other (w.heap.size + 1 + 1) (e4 1) (by omega); rw [← hw2] at kq; clear M5; have M5 := Lib.hid kq; clear kq
    have kq := mZ.setRow (e4 1); rw [← hw2] at kq; clear M3; have M3 := Lib.hid kq; clear kq mZ hZ
    have kq := below_setRow HB.out (w.heap.size + 1 + 1) (e4 1) (by omega); rw [← hw2] at kq; clear HB; have HB := Lib.hid kq; clear kq hw2
    refine ⟨fun _ => M5.out, ?_⟩
    (try simp only [sI, sS, sZ])
    refine wpBut_r1 (i := 5) (by kernel_rfl) ?_
    first | (obtain ⟨Zq, hZ, mZ⟩ := M4.out) | (obtain ⟨Zq, hZ, mZ⟩ := M4.out.toN (e4_size ..))
    refine go_store2 5 #[true, true, true, true, true, true] rfl rfl rfl (by rfl) 36 _ _ rfl (w.heap.size + 1 + 1 + 1) (e4 1) rfl rfl 36 Zq mZ (by rw [e4_size]; kernel_rfl) (hZ.trans (e4_size ..).symm) (row_one _ _ _) ?_
    intro yw11 hw2
    have kq := M1.out.setRow_other (w.heap.size + 1 + 1 + 1) (e4 1) (by omega); rw [← hw2] at kq; clear M1; have M1 := Lib.hid kq; clear kq
    have kq := M2.out.setRow_other (w.heap.size + 1 + 1 + 1) (e4 1) (by omega); rw [← hw2] at kq; clear M2; have M2 := Lib.hid kq; clear kq
    have kq := M3.out.setRow_other (w.heap.size + 1 + 1 + 1) (e4 1) (by omega); rw [← hw2] at kq; clear M3; have M3 := Lib.hid kq; clear kq
    have kq := M5.out.setRow_other (w.heap.size + 1 + 1 + 1) (e4 1) (by omega); rw [← hw2] at kq; clear M5; have M5 := Lib.hid kq; clear kq
    have kq := mZ.setRow (e4 1); rw [← hw2] at kq; clear M4; have M4 := Lib.hid kq; clear kq mZ hZ
    have kq := below_setRow HB.out (w.heap.size + 1 + 1 + 1) (e4 1) (by omega); rw [← hw2] at kq; clear HB; have HB := Lib.hid kq; clear kq hw2
    refine ⟨fun _ => M5.out, ?_⟩
    (try simp only [sI, sS, sZ])
    refine wpBut_done (by kernel_rfl) (NoPanic.normal ?_)
    have hr := Hc.out.resolve_left (by simp)
    go_wp2_with fail
    exact bodyPost_ret (v := .tuple #[.agg (e4 0), .agg (e4 1), .agg (e4 1)]) (results_cell3 (fn := Try.f90) (p := 2) (q := 3) (r := 4) (ty := 36) (by rfl) _ _ (w.heap.size + 1) (w.heap.size + 1 + 1) (w.heap.size + 1 + 1 + 1) 36 36 36 _ _ _ _ rfl rfl rfl M2.out M3.out M4.out Try.underlying36 rfl (by rw [e4_size]; kernel_rfl) (by rw [e4_size]; kernel_rfl) (by rw [e4_size]; kernel_rfl)) rfl ⟨0, 1, 1, ⟨by decide, by decide, by decide⟩, ⟨hr.2.1, hr.2.2.1, hr.2.2.2⟩, rfl, HB.out⟩
  · repeat ((fail_if_success (with_reducible (show wpList _ _ _ _ _ _))); go_step)
    refine wp_region_noPanic ?_
    refine wp_region_goS (fun w' => Has w' (w.heap.size) (pt x y z1 true) 53 ∧ Has w' (uw1.heap.size) (e4 1) 36) 99 11 #[false, false, false, false, false, false, false, false, false, false, false] (by kernel_rfl) rfl rfl ?_
    replace M1 := Lib.hid (M1.out.drew)
    replace M2 := Lib.hid (M2.out.drew)
    replace M3 := Lib.hid (M3.out.drew)
    replace M4 := Lib.hid (M4.out.drew)
    replace M5 := Lib.hid (M5.out.drew)
    replace HB := Lib.hid (below_drewN HB.out 1)
    obtain ⟨yw8, hwyw8⟩ : ∃ ww, ww = yw7.drew := ⟨_, rfl⟩
    rw [← hwyw8] at M1 M2 M3 M4 M5 ⊢
    have kq : Below w.heap.size w yw8 := by rw [hwyw8]; exact HB.out
    clear HB; have HB := Lib.hid kq; clear kq hwyw8
    refine go_take2 0 13 #[true, false, false, false, false, false, false, false, false, false, false] (v := ?uv1) rfl rfl rfl (by kernel_rfl) (Or.inl ⟨by rfl, ?uy1⟩) (⟨M1.out, M5.out⟩) ?urest1
    case uy1 => (intro _ _; go_simp; try with_reducible rfl)
    (try simp only [sI, sS, sZ])
    refine go_take2 1 14 #[true, true, false, false, false, false, false, false, false, false, false] rfl rfl rfl (by kernel_rfl) (yieldsIf_loadm (by rfl) 36 _ rfl (w.heap.size) 0 rfl (e4l x) (e4 x) rfl (fun _ h => pt_x h.1) _ Try.underlying36 rfl (by rw [e4l_len]; kernel_rfl)) (⟨M1.out, M5.out⟩) ?_
    (try simp only [sI, sS, sZ])
    refine go_take2 2 15 #[true, true, true, false, false, false, false, false, false, false, false] (v := ?uv2) rfl rfl rfl (by kernel_rfl) (Or.inl ⟨by rfl, ?uy2⟩) (⟨M1.out, M5.out⟩) ?urest2
    case uy2 => (intro _ _; go_simp; try with_reducible rfl)
    (try simp only [sI, sS, sZ])
    refine go_take2 3 16 #[true, true, true, true, false, false, false, false, false, false, false] rfl rfl rfl (by kernel_rfl) (yieldsIf_loadm (by rfl) 36 _ rfl (w.heap.size) 4 rfl (e4l y) (e4 y) rfl (fun _ h => pt_y h.1) _ Try.underlying36 rfl (by rw [e4l_len]; kernel_rfl)) (⟨M1.out, M5.out⟩) ?_
    (try simp only [sI, sS, sZ])
    refine go_take2 4 17 #[true, true, true, true, true, false, false, false, false, false, false] (v := ?uv3) rfl rfl rfl (by kernel_rfl) (Or.inl ⟨by rfl, ?uy3⟩) (⟨M1.out, M5.out⟩) ?urest3
    case uy3 => (intro _ _; go_simp; try with_reducible rfl)
    (try simp only [sI, sS, sZ])
    refine go_take2 5 18 #[true, true, true, true, true, true, false, false, false, false, false] rfl rfl rfl (by kernel_rfl) (yieldsIf_loadm (by rfl) 36 _ rfl (w.heap.size) 8 rfl (e4l z1) (e4 z1) rfl (fun _ h => pt_z h.1) _ Try.underlying36 rfl (by rw [e4l_len]; kernel_rfl)) (⟨M1.out, M5.out⟩) ?_
    (try simp only [sI, sS, sZ])
    refine go_take2 6 19 #[true, true, true, true, true, true, true, false, false, false, false] rfl rfl rfl (by kernel_rfl) (yieldsIf_load_row (by rfl) 36 _ rfl (uw1.heap.size) rfl 36 (e4 1) (fun _ h => h.2) Try.underlying36 rfl (by rw [e4_size]; kernel_rfl)) (⟨M1.out, M5.out⟩) ?_
    (try simp only [sI, sS, sZ])
    refine wpBut_r1 (i := 7) (by kernel_rfl) ?_
    refine go_call 7 20 #[true, true, true, true, true, true, true, true, false, false, false] rfl rfl rfl (by rfl) rfl rfl (by rfl) ent37 (by rfl) (Hpl.out _) ?_
    rintro e uw2 ⟨m, hm, hmr, rfl, hb⟩
    replace M1 := Lib.hid (M1.out.call hb)
    replace M2 := Lib.hid (M2.out.call hb)
    replace M3 := Lib.hid (M3.out.call hb)
    replace M4 := Lib.hid (M4.out.call hb)
    replace M5 := Lib.hid (M5.out.call hb)
    replace HB := Lib.hid (held_next HB.out hb)
    refine ⟨_, rfl, fun _ => ⟨M1.out, M5.out⟩, ?_⟩
    clear hb
    (try simp only [sI, sS, sZ])
    refine wpBut_r1 (i := 8) (by kernel_rfl) ?_
    first | (obtain ⟨Zq, hZ, mZ⟩ := M2.out) | (obtain ⟨Zq, hZ, mZ⟩ := M2.out.toN (e4_size ..))
    refine go_store2 8 #[true, true, true, true, true, true, true, true, true, false, false] rfl rfl rfl (by rfl) 36 _ _ rfl (w.heap.size + 1) (e4 x) rfl rfl 36 Zq mZ (by rw [e4_size]; kernel_rfl) (hZ.trans (e4_size ..).symm) (row_one _ _ _) ?_
    intro yw9 hw2
    have kq := M1.out.setRow_other (w.heap.size + 1) (e4 x) (by omega); rw [← hw2] at kq; clear M1; have M1 := Lib.hid kq; clear kq
    have kq := M3.out.setRow_other (w.heap.size + 1) (e4 x) (by omega); rw [← hw2] at kq; clear M3; have M3 := Lib.hid kq; clear kq
    have kq := M4.out.setRow_other (w.heap.size + 1) (e4 x) (by omega); rw [← hw2] at kq; clear M4; have M4 := Lib.hid kq; clear kq
    have kq := M5.out.setRow_other (w.heap.size + 1) (e4 x) (by omega); rw [← hw2] at kq; clear M5; have M5 := Lib.hid kq; clear kq
    have kq := mZ.setRow (e4 x); rw [← hw2] at kq; clear M2; have M2 := Lib.hid kq; clear kq mZ hZ
    have kq := below_setRow HB.out (w.heap.size + 1) (e4 x) (by omega); rw [← hw2] at kq; clear HB; have HB := Lib.hid kq; clear kq hw2
    refine ⟨fun _ => ⟨M1.out, M5.out⟩, ?_⟩
    (try simp only [sI, sS, sZ])
    refine wpBut_r1 (i := 9) (by kernel_rfl) ?_
    first | (obtain ⟨Zq, hZ, mZ⟩ := M3.out) | (obtain ⟨Zq, hZ, mZ⟩ := M3.out.toN (e4_size ..))
    refine go_store2 9 #[true, true, true, true, true, true, true, true, true, true, false] rfl rfl rfl (by rfl) 36 _ _ rfl (w.heap.size + 1 + 1) (e4 y) rfl rfl 36 Zq mZ (by rw [e4_size]; kernel_rfl) (hZ.trans (e4_size ..).symm) (row_one _ _ _) ?_
    intro yw10 hw2
    have kq := M1.out.setRow_other (w.heap.size + 1 + 1) (e4 y) (by omega); rw [← hw2] at kq; clear M1; have M1 := Lib.hid kq; clear kq
    have kq := M2.out.setRow_other (w.heap.size + 1 + 1) (e4 y) (by omega); rw [← hw2] at kq; clear M2; have M2 := Lib.hid kq; clear kq
    have kq := M4.out.setRow_other (w.heap.size + 1 + 1) (e4 y) (by omega); rw [← hw2] at kq; clear M4; have M4 := Lib.hid kq; clear kq
    have kq := M5.out.setRow_other (w.heap.size + 1 + 1) (e4 y) (by omega); rw [← hw2] at kq; clear M5; have M5 := Lib.hid kq; clear kq
    have kq := mZ.setRow (e4 y); rw [← hw2] at kq; clear M3; have M3 := Lib.hid kq; clear kq mZ hZ
    have kq := below_setRow HB.out (w.heap.size + 1 + 1) (e4 y) (by omega); rw [← hw2] at kq; clear HB; have HB := Lib.hid kq; clear kq hw2
    refine ⟨fun _ => ⟨M1.out, M5.out⟩, ?_⟩
    (try simp only [sI, sS, sZ])
    refine wpBut_r1 (i := 10) (by kernel_rfl) ?_
    first | (obtain ⟨Zq, hZ, mZ⟩ := M4.out) | (obtain ⟨Zq, hZ, mZ⟩ := M4.out.toN (e4_size ..))
    refine go_store2 10 #[true, true, true, true, true, true, true, true, true, true, true] rfl rfl rfl (by rfl) 36 _ _ rfl (w.heap.size + 1 + 1 + 1) (e4 m) rfl rfl 36 Zq mZ (by rw [e4_size]; kernel_rfl) (hZ.trans (e4_size ..).symm) (row_one _ _ _) ?_
    intro yw11 hw2
    have kq := M1.out.setRow_other (w.heap.size + 1 + 1 + 1) (e4 m) (by omega); rw [← hw2] at kq; clear M1; have M1 := Lib.hid kq; clear kq
    have kq := M2.out.setRow_other (w.heap.size + 1 + 1 + 1) (e4 m) (by omega); rw [← hw2] at kq; clear M2; have M2 := Lib.hid kq; clear kq
    have kq := M3.out.setRow_other (w.heap.size + 1 + 1 + 1) (e4 m) (by omega); rw [← hw2] at kq; clear M3; have M3 := Lib.hid kq; clear kq
    have kq := M5.out.setRow_other (w.heap.size + 1 + 1 + 1) (e4 m) (by omega); rw [← hw2] at kq; clear M5; have M5 := Lib.hid kq; clear kq
    have kq := mZ.setRow (e4 m); rw [← hw2] at kq; clear M4; have M4 := Lib.hid kq; clear kq mZ hZ
    have kq := below_setRow HB.out (w.heap.size + 1 + 1 + 1) (e4 m) (by omega); rw [← hw2] at kq; clear HB; have HB := Lib.hid kq; clear kq hw2
    refine ⟨fun _ => ⟨M1.out, M5.out⟩, ?_⟩
    (try simp only [sI, sS, sZ])
    refine wpBut_done (by kernel_rfl) (NoPanic.normal ?_)
    have hr := Hc.out.resolve_right (by simp)
    go_wp2_with fail
    exact bodyPost_ret (v := .tuple #[.agg (e4 x), .agg (e4 y), .agg (e4 m)]) (results_cell3 (fn := Try.f90) (p := 2) (q := 3) (r := 4) (ty := 36) (by rfl) _ _ (w.heap.size + 1) (w.heap.size + 1 + 1) (w.heap.size + 1 + 1 + 1) 36 36 36 _ _ _ _ rfl rfl rfl M2.out M3.out M4.out Try.underlying36 rfl (by rw [e4_size]; kernel_rfl) (by rw [e4_size]; kernel_rfl) (by rw [e4_size]; kernel_rfl)) rfl ⟨x, y, m, ⟨Hx.out, Hy.out, hm⟩, ⟨hr.2.1, hr.2.2.1, hmr.trans hr.2.2.2⟩, rfl, HB.out⟩
end Go.Proofs.Ytjiagjonlcadiaa
