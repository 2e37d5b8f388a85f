/- The program's field and points, and the document's: what each function of theirs comes to, and the group of the points. -/
import Derived.Test.YtjiagjonlcadiaaRows
import Derived.WalkKit
import Derived.ProofKit
import Derived.OpenShut
import Derived.ShutString
import Derived.ChangeOld
import Derived.Below
import Derived.Test.YtjiagjonlcadiaaBa5
section
namespace Go.Proofs.Ytjiagjonlcadiaa
open Go.RowKit Go.Lib

theorem HasN.there2 {w : World} {b n : Nat} {t : TypeId} (h : HasN w b n t) (o k : Nat) (ho : o + k ≤ n) : w.there b o k := fun j hj => by
  obtain ⟨c, hn, h⟩ := h
  exact ⟨by rw [h.cellAt, Array.getElem?_eq_getElem (by omega)]; rfl, h.frozen _⟩
/-- a point's cells -/
def ptl (x y z : Nat) (b : Bool) : List Value := (pt x y z b).toList
theorem ptl_arr (x y z : Nat) (b : Bool) : pt x y z b = (ptl x y z b).toArray := by simp [ptl]
theorem ptl_len (x y z : Nat) (b : Bool) : (ptl x y z b).length = 13 := by unfold ptl; rw [Array.length_toList, pt_size]
/-- a range of cells -/
structure Rng (w : World) (b o : Nat) (l : List Value) : Prop where
  lt : b < w.heap.size
  at_ : w.rangeAt b o l
theorem Rng.call {w w' : World} {b o : Nat} {l : List Value} (h : Rng w b o l) (hb : Below w.heap.size w w') : Rng w' b o l := ⟨Nat.lt_of_lt_of_le h.lt hb.size, range_below h.at_ hb h.lt⟩
theorem Rng.drew {w : World} {b o : Nat} {l : List Value} (h : Rng w b o l) : Rng w.drew b o l := ⟨h.lt, h.at_⟩
theorem Rng.setRow_other {w : World} {b o : Nat} {l : List Value} (h : Rng w b o l) (g : Nat) (c : Array Value) (hg : b ≠ g) : Rng (w.setRow g c) b o l :=
  ⟨by have := (below_setRow (Below.refl 0 w) g c (Nat.zero_le _)).size; exact Nat.lt_of_lt_of_le h.lt this, fun j v hv => (World.cell?_of_block (w := w) (w' := w.setRow g c) (a := ⟨b, o + j, none⟩) (Go.setRow_other w g b c hg)).trans (h.at_ j v hv)⟩

theorem Rng.setCells_other {w : World} {b o : Nat} {l : List Value} (h : Rng w b o l) (g o' : Nat) (vs : List Value) (hg : b ≠ g ∨ o + l.length ≤ o' ∨ o' + vs.length ≤ o) : Rng (w.setCells g o' vs) b o l :=
  ⟨by have := (below_setCells2 (Nat.zero_le g) vs o' w (Below.refl 0 w)).size; exact Nat.lt_of_lt_of_le h.lt this, World.rangeAt_setCells_apart h.at_ _ _ _ hg⟩
/-- this is that point of the group -/
def PtA (x y z : Nat) (b : Bool) (p : Fin PP × Fin PP) : Prop := ∃ X Y Z, IsPt x y z b X Y Z ∧ Rep X Y Z p
theorem PtA.on {x y z : Nat} {b : Bool} {p : Fin PP × Fin PP} (h : PtA x y z b p) : OnP fd p := let ⟨_, _, _, _, h⟩ := h; h.2.2.2
theorem zero_pta : PtA 0 0 0 false (0, 1) := ⟨0, 1, 1, ⟨⟨by decide, by decide, by decide⟩, .inr ⟨rfl, by decide +kernel, by decide +kernel, by decide +kernel⟩⟩, zero_rep⟩

/-- so many points in a row of memory: number j is j times p -/
structure Tab (w : World) (B i : Nat) (p : Fin PP × Fin PP) : Prop where
  has : HasN w B 208 53
  rng : ∀ j, j < i → ∃ x y z b, PtA x y z b (mulA finv fd p j) ∧ w.rangeAt B (j * 13) (ptl x y z b)
section tab
variable {w w' : World} {B i : Nat} {p : Fin PP × Fin PP}
theorem Tab.lt (h : Tab w B i p) : B < w.heap.size := h.has.lt
theorem Tab.call (h : Tab w B i p) (hb : Below w.heap.size w w') : Tab w' B i p := ⟨h.has.call hb, fun j hj => let ⟨x, y, z, b, h1, h2⟩ := h.rng j hj; ⟨x, y, z, b, h1, range_below h2 hb h.lt⟩⟩
theorem Tab.drew (h : Tab w B i p) : Tab w.drew B i p := ⟨h.has, h.rng⟩
theorem Tab.alloc (h : Tab w B i p) (o : Obj) : Tab (w.alloc o) B i p := h.call ((Below.refl _ _).alloc (Nat.le_refl _) _)
theorem Tab.setRow_other (h : Tab w B i p) (g : Nat) (c : Array Value) (hg : B ≠ g) : Tab (w.setRow g c) B i p :=
  ⟨h.has.setRow_other g c hg, fun j hj => let ⟨x, y, z, b, h1, h2⟩ := h.rng j hj; ⟨x, y, z, b, h1, ((Rng.mk h.lt h2).setRow_other g c hg).at_⟩⟩
theorem Tab.other (h : Tab w B i p) (a : Addr) (v : Value) (hb : B ≠ a.block) : Tab (w.setCell a v) B i p :=
  ⟨h.has.other a v hb, fun j hj => let ⟨x, y, z, b, h1, h2⟩ := h.rng j hj; ⟨x, y, z, b, h1, fun k u hu => (World.cell?_of_block (w := w) (w' := w.setCell a v) (a := ⟨B, j * 13 + k, none⟩) (heap_setCell_other w a B v hb)).trans (h2 k u hu)⟩⟩
theorem Tab.next (h : Tab w B i p) (hi : i < 16) (x y z : Nat) (b : Bool) (hp : PtA x y z b (mulA finv fd p i)) : Tab (w.setCells B (i * 13) (ptl x y z b)) B (i + 1) p := by
  refine ⟨h.has.setCells _ _ _, fun j hj => ?_⟩
  by_cases e : j = i
  · subst e
    exact ⟨x, y, z, b, hp, World.rangeAt_setCells_same w B _ _ (h.has.there2 _ _ (by rw [ptl_len]; omega))⟩
  · obtain ⟨x1, y1, z1, b1, h1, h2⟩ := h.rng j (by omega)
    exact ⟨x1, y1, z1, b1, h1, World.rangeAt_setCells_apart h2 _ _ _ (.inr (.inl (by rw [ptl_len]; omega)))⟩
theorem Tab.at_ (h : Tab w B i p) (j : Nat) (hj : j < i) : ∃ x y z b, PtA x y z b (mulA finv fd p j) ∧ Rng w B (j * 13) (ptl x y z b) := let ⟨x, y, z, b, h1, h2⟩ := h.rng j hj; ⟨x, y, z, b, h1, h.lt, h2⟩
theorem Tab.but {A W : World} {B0 B i : Nat} {p : Fin PP × Fin PP} (h : Tab A B i p) (hb : But B0 A W) (hn : B ≠ B0) : Tab W B i p :=
  ⟨h.has.but hb hn, fun j hj => let ⟨x, y, z, b, h1, h2⟩ := h.rng j hj; ⟨x, y, z, b, h1, fun k u hu => (World.cell?_of_block (w := A) (w' := W) (a := ⟨B, j * 13 + k, none⟩) (hb.block B h.lt hn)).trans (h2 k u hu)⟩⟩
end tab
/-- slices.Backward, as a call -/
theorem bkw_call (a : Option Addr) (len cap : Nat) (w : World) : Calls Try.prog 94 #[.slice a len cap] w fun e w' => (e = .returned (.func (.func 111) #[] #[.pointer (some ⟨w.heap.size, 0, none⟩)]) ∧ Has w' w.heap.size #[.slice a len cap] 22) ∧ Below w.heap.size w w' := by
  refine (bkw_any a len cap w).mono ?_
  rintro e w' ⟨rfl, rfl⟩
  exact ⟨⟨rfl, Has.new w _ _⟩, below_1 w _⟩
theorem ent111 : ∀ (args : Array Value) (w : World), (callFunc 111 args).run Try.prog w = .ok (.enter 111 args) w := Go.Proofs.enters_of Try.func111 (by kernel_rfl) rfl
theorem ent94 : _root_.Go.Enters Try.prog 94 := ⟨_, Try.func94, by kernel_rfl, by kernel_rfl⟩
/-- block D holds the rounds' calls that were put off: none -/
def DefAt (W : World) (D : Nat) : Prop := W.heap[D]? = some (.deferred (some []))
theorem DefAt.setRow_other {W : World} {D : Nat} (h : DefAt W D) (g : Nat) (c : Array Value) (hg : D ≠ g) : DefAt (W.setRow g c) D := (Go.setRow_other W g D c hg).trans h
theorem Has.putObj {W : World} {b D : Nat} {c : Array Value} {t : TypeId} (h : Has W b c t) (o : Obj) (hn : b ≠ D) : Has (W.putObj D o) b c t := by
  unfold Has at *
  rw [← h]
  show (W.heap.setIfInBounds D o)[b]? = _
  rw [Array.getElem?_setIfInBounds_ne (fun e => hn e.symm)]
/-- the number that the bytes make that have come -/
def vl (n : Nat) (l : List Nat) : Nat := l.foldl (fun a x => 256 * a + n / 256 ^ x % 256) 0
theorem vl_snoc (n : Nat) (l : List Nat) (x : Nat) : vl n (l ++ [x]) = 256 * vl n l + n / 256 ^ x % 256 := by unfold vl; rw [List.foldl_append]; rfl
theorem vl_upto (n : Nat) (hn : n < 256 ^ 32) : ∀ k, k ≤ 32 → vl n (upto (bkf 32) k) = n / 256 ^ (32 - k) := by
  intro k
  induction k with
  | zero => intro _; show 0 = n / 256 ^ 32; rw [Nat.div_eq_of_lt hn]
  | succ k ih =>
    intro hk
    rw [upto_succ, vl_snoc, ih (by omega)]
    unfold bkf
    obtain ⟨j, hj⟩ : ∃ j, j = 32 - (k + 1) := ⟨_, rfl⟩
    rw [show 32 - 1 - k = j by omega, show 32 - k = j + 1 by omega, ← hj, Nat.pow_succ, ← Nat.div_div_eq_div_mul]
    omega
theorem vl_all (n : Nat) (hn : n < 115792089237316195423570985008687907853269984665640564039457584007913129639936) : vl n (upto (bkf 32) 32) = n := by
  rw [vl_upto n (by rw [show (256 : Nat) ^ 32 = 115792089237316195423570985008687907853269984665640564039457584007913129639936 by decide +kernel]; exact hn) 32 (Nat.le_refl _), Nat.sub_self, Nat.pow_zero, Nat.div_one]

theorem mk16 (w : World) : (Instr.makeSlice 113 (.int .i64 16) (.int .i64 16)).run Try.prog w = .ok (.slice (some ⟨w.heap.size, 0, none⟩) 16 16) (w.alloc (.cells (madeCells z53 208) 53)) := by
  obtain ⟨i, hi⟩ : ∃ i, Try.prog.info? 53 = some i := Option.isSome_iff_exists.1 (by kernel_rfl)
  have hz : (Try.prog.info? 53).map (·.zero) = some (some (.agg z53)) := by kernel_rfl
  have h1 : (Try.prog.info? 53).map (·.size) = some 13 := by kernel_rfl
  have h2 : (Try.prog.info? 53).map (fun i => decide (i.bytes ≤ 1000)) = some true := by kernel_rfl
  rw [hi] at hz h1 h2
  have hz := Option.some.inj hz
  have h1 := Option.some.inj h1
  have h2 := of_decide_eq_true (Option.some.inj h2)
  dsimp only at hz h1 h2
  have h := run_makeSlice (P := Try.prog) w 113 53 i _ Try.underlying113 hi hz .i64 .i64 16 16 (by decide) (by decide) (by rw [h1]; decide) (by omega) (by decide)
  rw [h1] at h
  exact h
/-- a table of zeroes -/
theorem tab_new (w : World) (p : Fin PP × Fin PP) : Tab (w.alloc (.cells (madeCells z53 208) 53)) w.heap.size 1 p := by
  refine ⟨HasN.new w _ _ 208 (size_madeCells _ _), fun j hj => ?_⟩
  obtain rfl : j = 0 := by omega
  refine ⟨0, 0, 0, false, zero_pta, fun k v hv => ?_⟩
  rw [(Has.new w (madeCells z53 208) 53).cellAt]
  have hk : k < 13 := by have := (List.getElem?_eq_some_iff.1 hv).1; rwa [ptl_len] at this
  rw [← hv, ptl, Array.getElem?_toList]
  rcases (show k = 0 ∨ k = 1 ∨ k = 2 ∨ k = 3 ∨ k = 4 ∨ k = 5 ∨ k = 6 ∨ k = 7 ∨ k = 8 ∨ k = 9 ∨ k = 10 ∨ k = 11 ∨ k = 12 by omega) with rfl | rfl | rfl | rfl | rfl | rfl | rfl | rfl | rfl | rfl | rfl | rfl | rfl <;> (show (_ : Option Value) = _; kernel_rfl)
theorem inf53 : ∃ i : TypeInfo, Try.prog.info? 53 = some i ∧ i.size = 13 := by
  obtain ⟨i, hi⟩ : ∃ i, Try.prog.info? 53 = some i := Option.isSome_iff_exists.1 (by kernel_rfl)
  have h1 : (Try.prog.info? 53).map (·.size) = some 13 := by kernel_rfl
  rw [hi] at h1
  exact ⟨i, hi, Option.some.inj h1⟩
theorem idx53 {ops : Array Oper} {S : World → Prop} {a : Act} {o : Oper} (hw : Region.wanted o (yielded ops a.tmps) = true) (x y : Operand) (ho : o.op = .indexAddr 113 x y) (b len cap : Nat) (hx : a.eval x = .slice (some ⟨b, 0, none⟩) len cap) (kd : IntKind) (i : Int) (hy : a.eval y = .int kd i) (j : Nat) (hj : i = (j : Int)) (hlt : j < len)
    (off : Nat) (hoff : off = j * 13) : YieldsIf Try.prog ops S o (.pointer (some ⟨b, off, none⟩)) a :=
  let ⟨inf, h1, h2⟩ := inf53
  yieldsIf_index hw 113 x y ho b len cap hx kd i hy j hj hlt 53 Try.underlying113 inf h1 13 h2 off hoff
theorem al111 (w : World) : (Instr.alloc 111 true (.tuple #[])).run Try.prog w = .ok (.pointer (some ⟨w.heap.size, 0, none⟩)) (w.alloc (.cells #[.nilFunc] 111)) := by go_simp
theorem al113 (w : World) : (Instr.alloc 113 true (.tuple #[])).run Try.prog w = .ok (.pointer (some ⟨w.heap.size, 0, none⟩)) (w.alloc (.cells #[.slice none 0 0] 113)) := by go_simp
/-- the sum of two points -/
theorem sum_pta (d : Nat) (hd : d < 115792089237316195423570985008687907853269984665640564039457584007913129639936) (hdD : d % PP = SL) (x1 y1 z1 : Nat) (b1 : Bool) (p : Fin PP × Fin PP) (h1 : PtA x1 y1 z1 b1 p) (x2 y2 z2 : Nat) (b2 : Bool) (q : Fin PP × Fin PP) (h2 : PtA x2 y2 z2 b2 q) (w : World) :
    Calls Try.prog 92 (#[.agg (e4 d)] ++ [.agg (pt x1 y1 z1 b1), .agg (pt x2 y2 z2 b2)].toArray) w fun e w' => ∃ x y z b, PtA x y z b (padA finv fd p q) ∧ e = .returned (.agg (pt x y z b)) ∧ Below w.heap.size w w' := by
  obtain ⟨X1, Y1, Z1, i1, r1⟩ := h1
  obtain ⟨X2, Y2, Z2, i2, r2⟩ := h2
  refine (add_of d SL hd hdD x1 y1 z1 b1 X1 Y1 Z1 i1 x2 y2 z2 b2 X2 Y2 Z2 i2 w).mono ?_
  rintro e w' ⟨x, y, z, b, hpt, he, hb⟩
  exact ⟨x, y, z, b, ⟨_, _, _, hpt, padd_rep _ _ _ _ _ _ p q r1 r2⟩, he, hb⟩
set_option maxRecDepth 100000 in
set_option linter.unusedSimpArgs false in
set_option linter.unusedVariables false in
set_option maxHeartbeats 8000000 in
theorem pmany_any (x y z n : Nat) (b : Bool) (p : Fin PP × Fin PP) (hp : PtA x y z b p) (hn : n < 115792089237316195423570985008687907853269984665640564039457584007913129639936) (w : World) :
    Calls Try.prog 56 #[.agg (pt x y z b), .agg (k32 n)] w fun e w' => ∃ x2 y2 z2 b2, PtA x2 y2 z2 b2 (mulA finv fd p n) ∧ e = .returned (.agg (pt x2 y2 z2 b2)) ∧ Below w.heap.size w w' := by
  have hop : OnP fd p := hp.on
  have Hp := Lib.hid hp; clear hp
  have Hop := Lib.hid hop; clear hop
  have Hn := Lib.hid hn; clear hn
  refine (callsIn_wide (n := 3)).1 (callsIn_of_wp_marks Try.func56 rfl trivial (wpIn_wide.2 ?_) rfl)
  simp only [Try.ntmps56, List.size_toArray, List.length_cons, List.length_nil, Nat.reduceAdd, Nat.reduceSub, Array.replicate_succ, Array.replicate_zero, List.push_toArray, List.append_toArray, List.nil_append, List.cons_append]
  repeat ((fail_if_success (with_reducible (show wpList _ _ _ _ _ _))); go_step)
  iterate 3 (refine wpList_step (fun K hK => ?_); go_simp; (try go_bits); refine hK _ _ ?_; clear hK K)
  refine wpList_nil ?_
  have M2 := Lib.hid (((Has.new w  (pt x y z b) 53).alloc (.cells (k32 n) 24)).alloc (.cells (#[.int .u64 0, .int .u64 0, .int .u64 0, .int .u64 0, .int .u64 0, .int .u64 0, .int .u64 0, .int .u64 0, .int .u64 0, .int .u64 0, .int .u64 0, .int .u64 0, .bool false] : Array Value) 53))
  have M3 := Lib.hid ((Has.new1 w (.cells (pt x y z b) 53) (k32 n) 24).alloc (.cells (#[.int .u64 0, .int .u64 0, .int .u64 0, .int .u64 0, .int .u64 0, .int .u64 0, .int .u64 0, .int .u64 0, .int .u64 0, .int .u64 0, .int .u64 0, .int .u64 0, .bool false] : Array Value) 53))
  have M4 := Lib.hid (HasN.new2 w (.cells (pt x y z b) 53) (.cells (k32 n) 24) (#[.int .u64 0, .int .u64 0, .int .u64 0, .int .u64 0, .int .u64 0, .int .u64 0, .int .u64 0, .int .u64 0, .int .u64 0, .int .u64 0, .int .u64 0, .int .u64 0, .bool false] : Array Value) 53 13 (by kernel_rfl))
  have HB := Lib.hid (below_3 w (.cells (pt x y z b) 53) (.cells (k32 n) 24) (.cells (#[.int .u64 0, .int .u64 0, .int .u64 0, .int .u64 0, .int .u64 0, .int .u64 0, .int .u64 0, .int .u64 0, .int .u64 0, .int .u64 0, .int .u64 0, .int .u64 0, .bool false] : Array Value) 53))
  obtain ⟨yw1, hwyw1⟩ : ∃ ww, ww = (((w.alloc (.cells (pt x y z b) 53)).alloc (.cells (k32 n) 24)).alloc (.cells (#[.int .u64 0, .int .u64 0, .int .u64 0, .int .u64 0, .int .u64 0, .int .u64 0, .int .u64 0, .int .u64 0, .int .u64 0, .int .u64 0, .int .u64 0, .int .u64 0, .bool false] : Array Value) 53)) := ⟨_, rfl⟩
  rw [← hwyw1] at M2 M3 M4 HB ⊢
  clear hwyw1
  repeat ((fail_if_success (with_reducible (show wpList _ _ _ _ _ _))); go_step)
  refine wpList_call (by rfl) rfl rfl (by rfl) ent91 (by rfl) (slope_any _) 13 rfl ?_
  rintro e uw1 ⟨d, hd, hdr, rfl, hb⟩
  replace M2 := Lib.hid (M2.out.call hb)
  replace M3 := Lib.hid (M3.out.call hb)
  replace M4 := Lib.hid (M4.out.call hb)
  replace HB := Lib.hid (held_next HB.out hb)
  refine ⟨_, rfl, ?_⟩
  clear hb
  (try simp only [Act.put, sI, sS, sZ])
  (refine wpList_step (fun K hK => ?_); go_simp; (try go_bits); refine hK _ _ ?_; clear hK K)
  refine wpList_alloc (by rfl) 111 rfl _ al111 5 rfl ?_
  intro yw2 hw2
  have hlt3 := M2.out.lt
  have hlt4 := M3.out.lt
  have hlt5 := M4.out.lt
  have hsz := HB.out.size
  replace M2 := Lib.hid (M2.out.alloc (.cells #[.nilFunc] 111))
  replace M3 := Lib.hid (M3.out.alloc (.cells #[.nilFunc] 111))
  replace M4 := Lib.hid (M4.out.alloc (.cells #[.nilFunc] 111))
  have M5 := Lib.hid (Has.new uw1 #[.nilFunc] 111)
  replace HB := Lib.hid (HB.out.alloc hsz (.cells #[.nilFunc] 111))
  rw [← hw2] at M2 M3 M4 M5 HB; clear hw2
  (try simp only [Act.put, sI, sS, sZ])
  refine wpList_store1 (by rfl) 111 _ _ rfl rfl (uw1.heap.size) (.func (.func 92) #[.agg (e4 d)] #[]) rfl rfl _ _ M5.out (by kernel_rfl) rfl rfl ?_
  intro yw6 hw2
  replace M2 := Lib.hid (M2.out.other ⟨uw1.heap.size, 0, none⟩ (.func (.func 92) #[.agg (e4 d)] #[]) (show _ ≠ uw1.heap.size by omega))
  replace M3 := Lib.hid (M3.out.other ⟨uw1.heap.size, 0, none⟩ (.func (.func 92) #[.agg (e4 d)] #[]) (show _ ≠ uw1.heap.size by omega))
  replace M4 := Lib.hid (M4.out.other ⟨uw1.heap.size, 0, none⟩ (.func (.func 92) #[.agg (e4 d)] #[]) (show _ ≠ uw1.heap.size by omega))
  replace M5 := Lib.hid (M5.out.setAt 0 (.func (.func 92) #[.agg (e4 d)] #[]))
  replace HB := Lib.hid (HB.out.setCell (p := ⟨uw1.heap.size, 0, none⟩) (show w.heap.size ≤ uw1.heap.size by omega) (.func (.func 92) #[.agg (e4 d)] #[]))
  rw [← hw2] at M2 M3 M4 M5 HB; clear hw2
  replace M5 : RowKit.Hid (Has yw6 (uw1.heap.size) #[.func (.func 92) #[.agg (e4 d)] #[]] 111) := M5
  refine wpList_nil ?_
  obtain ⟨B5, hB5⟩ : ∃ B, B = uw1.heap.size := ⟨_, rfl⟩
  rw [← hB5] at M5 ⊢
  have gB5 : w.heap.size + 1 + 1 < B5 := by omega
  clear hB5
  repeat ((fail_if_success (with_reducible (show wpList _ _ _ _ _ _))); go_step)
  have gT := M5.out.lt
  refine wpList_make (by rfl) 113 _ _ rfl _ _ rfl rfl _ _ (mk16 _) 15 rfl ?_
  have hb := below_1 yw6 (.cells (madeCells z53 208) 53)
  have nwT := tab_new yw6 p
  obtain ⟨yw7, hwyw7⟩ : ∃ ww, ww = yw6.alloc (.cells (madeCells z53 208) 53) := ⟨_, rfl⟩
  rw [← hwyw7] at hb nwT ⊢
  clear hwyw7
  replace M2 := Lib.hid (M2.out.call hb)
  replace M3 := Lib.hid (M3.out.call hb)
  replace M4 := Lib.hid (M4.out.call hb)
  replace M5 := Lib.hid (M5.out.call hb)
  replace HB := Lib.hid (held_next HB.out hb)
  clear hb
  have T := Lib.hid nwT; clear nwT
  (try simp only [Act.put, sI, sS, sZ])
  refine wpList_alloc (by rfl) 113 rfl _ al113 6 rfl ?_
  intro yw8 hw2
  have hlt9 := M2.out.lt
  have hlt10 := M3.out.lt
  have hlt11 := M4.out.lt
  have hlt12 := M5.out.lt
  have hlt13 := T.out.lt
  have hsz := HB.out.size
  replace M2 := Lib.hid (M2.out.alloc (.cells #[.slice none 0 0] 113))
  replace M3 := Lib.hid (M3.out.alloc (.cells #[.slice none 0 0] 113))
  replace M4 := Lib.hid (M4.out.alloc (.cells #[.slice none 0 0] 113))
  replace M5 := Lib.hid (M5.out.alloc (.cells #[.slice none 0 0] 113))
  replace T := Lib.hid (T.out.alloc (.cells #[.slice none 0 0] 113))
  have M6 := Lib.hid (Has.new yw7 #[.slice none 0 0] 113)
  replace HB := Lib.hid (HB.out.alloc hsz (.cells #[.slice none 0 0] 113))
  rw [← hw2] at M2 M3 M4 M5 T M6 HB; clear hw2
  (try simp only [Act.put, sI, sS, sZ])
  refine wpList_store1 (by rfl) 113 _ _ rfl rfl (yw7.heap.size) (.slice (some ⟨yw6.heap.size, 0, none⟩) 16 16) rfl rfl _ _ M6.out (by kernel_rfl) rfl rfl ?_
  intro yw14 hw2
  replace M2 := Lib.hid (M2.out.other ⟨yw7.heap.size, 0, none⟩ (.slice (some ⟨yw6.heap.size, 0, none⟩) 16 16) (show _ ≠ yw7.heap.size by omega))
  replace M3 := Lib.hid (M3.out.other ⟨yw7.heap.size, 0, none⟩ (.slice (some ⟨yw6.heap.size, 0, none⟩) 16 16) (show _ ≠ yw7.heap.size by omega))
  replace M4 := Lib.hid (M4.out.other ⟨yw7.heap.size, 0, none⟩ (.slice (some ⟨yw6.heap.size, 0, none⟩) 16 16) (show _ ≠ yw7.heap.size by omega))
  replace M5 := Lib.hid (M5.out.other ⟨yw7.heap.size, 0, none⟩ (.slice (some ⟨yw6.heap.size, 0, none⟩) 16 16) (show _ ≠ yw7.heap.size by omega))
  replace T := Lib.hid (T.out.other ⟨yw7.heap.size, 0, none⟩ (.slice (some ⟨yw6.heap.size, 0, none⟩) 16 16) (show _ ≠ yw7.heap.size by omega))
  replace M6 := Lib.hid (M6.out.setAt 0 (.slice (some ⟨yw6.heap.size, 0, none⟩) 16 16))
  replace HB := Lib.hid (HB.out.setCell (p := ⟨yw7.heap.size, 0, none⟩) (show w.heap.size ≤ yw7.heap.size by omega) (.slice (some ⟨yw6.heap.size, 0, none⟩) 16 16))
  rw [← hw2] at M2 M3 M4 M5 T M6 HB; clear hw2
  replace M6 : RowKit.Hid (Has yw14 (yw7.heap.size) #[.slice (some ⟨yw6.heap.size, 0, none⟩) 16 16] 113) := M6
  refine wpList_nil ?_
  obtain ⟨TB, hTB⟩ : ∃ B, B = yw6.heap.size := ⟨_, rfl⟩
  rw [← hTB] at T M6 ⊢
  obtain ⟨B6, hB6⟩ : ∃ B, B = yw7.heap.size := ⟨_, rfl⟩
  rw [← hB6] at M6 ⊢
  have gTB : B5 < TB := by omega
  have gB6 : TB < B6 := by omega
  clear hTB hB6
  repeat ((fail_if_success (with_reducible (show wpList _ _ _ _ _ _))); go_step)
  (refine wpList_step (fun K hK => ?_); go_simp; (try go_bits); refine hK _ _ ?_; clear hK K)
  refine wpList_nil ?_
  repeat ((fail_if_success (with_reducible (show wpList _ _ _ _ _ _))); go_step)
  go_loopw [7] (fun i wr => ∃ k : Nat, 1 ≤ k ∧ k ≤ 16 ∧ i = .int .i64 (k : Int) ∧ Has wr w.heap.size (pt x y z b) 53 ∧ Has wr (w.heap.size + 1) (k32 n) 24 ∧ HasN wr (w.heap.size + 1 + 1) 13 53 ∧ Has wr B5 #[.func (.func 92) #[.agg (e4 d)] #[]] 111 ∧ Tab wr TB k p ∧ Has wr B6 #[.slice (some ⟨TB, 0, none⟩) 16 16] 113 ∧ Below w.heap.size w wr) (fun i _ => (16 - intOf i).toNat)
  case atStart => exact ⟨1, by omega, by omega, rfl, M2.out, M3.out, M4.out, M5.out, T.out, M6.out, HB.out⟩
  case round =>
    clear M2 M3 M4 M5 T M6 HB
    obtain ⟨k, hk1, hk2, rfl, m2, m3, m4, m5, t, m6, hB⟩ := hrel
    have M2 := Lib.hid m2; clear m2
    have M3 := Lib.hid m3; clear m3
    have M4 := Lib.hid m4; clear m4
    have M5 := Lib.hid m5; clear m5
    have T := Lib.hid t; clear t
    have M6 := Lib.hid m6; clear m6
    have HB := Lib.hid hB; clear hB
    rcases Nat.lt_or_ge k 16 with hk | hk
    · have kq : (k : Int) < 16 := by omega
      repeat ((fail_if_success (with_reducible (show wpList _ _ _ _ _ _))); go_step)
      (refine wpList_step (fun K hK => ?_); go_simp; (try go_bits); refine hK _ _ ?_; clear hK K)
      refine wpList_load1 (by rfl) 113 _ rfl (B6) rfl (.slice (some ⟨TB, 0, none⟩) 16 16) _ M6.out.one Try.underlying113 rfl 17 rfl ?_
      (try simp only [Act.put, sI, sS, sZ])
      iterate 2 (refine wpList_step (fun K hK => ?_); go_simp; (try go_bits); refine hK _ _ ?_; clear hK K)
      refine wpList_nil ?_
      repeat ((fail_if_success (with_reducible (show wpList _ _ _ _ _ _))); go_step)
      obtain ⟨j, rfl⟩ : ∃ j, k = j + 1 := ⟨k - 1, by omega⟩
      have hj : j < 16 := by omega
      have kq0 : ((j + 1 : Nat) : Int) = (j : Int) + 1 := by omega
      obtain ⟨x1, y1, z1, b1, hq1, hrg⟩ := T.out.at_ j (by omega)
      have Hq1 := Lib.hid hq1; clear hq1
      have Hrg := Lib.hid hrg; clear hrg
      have Kq0 := Lib.hid kq0; clear kq0
      have hl1 := ptl_len x1 y1 z1 b1
      refine wp_region_noPanic ?_
      refine wp_region_goS (fun w' => Has w' (w.heap.size) (pt x y z b) 53 ∧ Has w' (B5) (#[.func (.func 92) #[.agg (e4 d)] #[]]) 111 ∧ Has w' (B6) (#[.slice (some ⟨TB, 0, none⟩) 16 16]) 113 ∧ Rng w' (TB) (j * 13) (ptl x1 y1 z1 b1)) 99 12 #[ff,ff,ff,ff,ff,ff,ff,ff,ff,ff,ff,ff] (by kernel_rfl) rfl rfl ?_
      replace M2 := Lib.hid (M2.out.drew)
      replace M3 := Lib.hid (M3.out.drew)
      replace M4 := Lib.hid (M4.out.drew)
      replace M5 := Lib.hid (M5.out.drew)
      replace T := Lib.hid (T.out.drew)
      replace M6 := Lib.hid (M6.out.drew)
      replace Hrg := Lib.hid (Hrg.out.drew)
      replace HB := Lib.hid (below_drewN HB.out 1)
      obtain ⟨yw101, hwyw101⟩ : ∃ ww, ww = wr.drew := ⟨_, rfl⟩
      rw [← hwyw101] at M2 M3 M4 M5 T M6 Hrg ⊢
      have kq : Below w.heap.size w yw101 := by rw [hwyw101]; exact HB.out
      clear HB; have HB := Lib.hid kq; clear kq hwyw101
      refine go_take2 0 22 #[tt,ff,ff,ff,ff,ff,ff,ff,ff,ff,ff,ff] rfl rfl rfl (by kernel_rfl) (yieldsIf_load1 (by rfl) 113 _ rfl (B6) rfl (.slice (some ⟨TB, 0, none⟩) 16 16) _ (fun _ h => Has.one (h.2.2.1)) Try.underlying113 rfl) (⟨M2.out, M5.out, M6.out, Hrg.out⟩) ?_
      (try simp only [sI, sS, sZ])
      refine go_take2 1 23 #[tt,tt,ff,ff,ff,ff,ff,ff,ff,ff,ff,ff] (v := ?uv1) rfl rfl rfl (by kernel_rfl) (Or.inl ⟨by rfl, ?uy1⟩) (⟨M2.out, M5.out, M6.out, Hrg.out⟩) ?urest1
      case uy1 => (intro _ _; go_simp; try with_reducible rfl)
      (try simp only [sI, sS, sZ])
      refine go_take2 2 24 #[tt,tt,tt,ff,ff,ff,ff,ff,ff,ff,ff,ff] rfl rfl rfl (by kernel_rfl) (yieldsIf_load1 (by rfl) 111 _ rfl (B5) rfl (.func (.func 92) #[.agg (e4 d)] #[]) _ (fun _ h => Has.one (h.2.1)) Try.underlying111 rfl) (⟨M2.out, M5.out, M6.out, Hrg.out⟩) ?_
      (try simp only [sI, sS, sZ])
      refine go_take2 3 25 #[tt,tt,tt,tt,ff,ff,ff,ff,ff,ff,ff,ff] rfl rfl rfl (by kernel_rfl) (yieldsIf_load1 (by rfl) 113 _ rfl (B6) rfl (.slice (some ⟨TB, 0, none⟩) 16 16) _ (fun _ h => Has.one (h.2.2.1)) Try.underlying113 rfl) (⟨M2.out, M5.out, M6.out, Hrg.out⟩) ?_
      (try simp only [sI, sS, sZ])
      refine go_take2 4 26 #[tt,tt,tt,tt,tt,ff,ff,ff,ff,ff,ff,ff] (v := ?uv2) rfl rfl rfl (by kernel_rfl) (Or.inl ⟨by rfl, ?uy2⟩) (⟨M2.out, M5.out, M6.out, Hrg.out⟩) ?urest2
      case uy2 => (intro _ _; go_simp; try with_reducible rfl)
      (try simp only [sI, sS, sZ])
      refine go_take2 5 27 #[tt,tt,tt,tt,tt,tt,ff,ff,ff,ff,ff,ff] (v := ?uv3) rfl rfl rfl (by kernel_rfl) (Or.inl ⟨by rfl, ?uy3⟩) (⟨M2.out, M5.out, M6.out, Hrg.out⟩) ?urest3
      case uy3 => (intro _ _; go_simp; try with_reducible rfl)
      (try simp only [sI, sS, sZ])
      refine go_take2 6 28 #[tt,tt,tt,tt,tt,tt,tt,ff,ff,ff,ff,ff] rfl rfl rfl (by kernel_rfl) (idx53 (by rfl) _ _ rfl (TB) _ _ rfl _ _ (by rfl) (j) (by rw [IntKind.wrap_i64]; omega) (by omega) (j * 13) (rfl)) (⟨M2.out, M5.out, M6.out, Hrg.out⟩) ?_
      (try simp only [sI, sS, sZ])
      refine go_take2 7 29 #[tt,tt,tt,tt,tt,tt,tt,tt,ff,ff,ff,ff] rfl rfl rfl (by kernel_rfl) (yieldsIf_loadm (by rfl) 53 _ rfl (TB) (j * 13) rfl (ptl x1 y1 z1 b1) (pt x1 y1 z1 b1) (ptl_arr ..) (fun _ h => Rng.at_ (h.2.2.2)) _ Try.underlying53 rfl (by rw [ptl_len]; kernel_rfl)) (⟨M2.out, M5.out, M6.out, Hrg.out⟩) ?_
      (try simp only [sI, sS, sZ])
      refine go_take2 8 30 #[tt,tt,tt,tt,tt,tt,tt,tt,tt,ff,ff,ff] rfl rfl rfl (by kernel_rfl) (yieldsIf_load_row (by rfl) 53 _ rfl (w.heap.size) rfl 53 (pt x y z b) (fun _ h => h.1) Try.underlying53 rfl (by rw [pt_size]; kernel_rfl)) (⟨M2.out, M5.out, M6.out, Hrg.out⟩) ?_
      (try simp only [sI, sS, sZ])
      refine wpBut_r1 (i := 9) (by kernel_rfl) ?_
      refine go_callB 9 31 #[tt,tt,tt,tt,tt,tt,tt,tt,tt,tt,ff,ff] rfl rfl rfl (by rfl) rfl rfl (by rfl) ent92 (by rfl) (sum_pta d hd hdr x1 y1 z1 b1 _ Hq1.out x y z b _ Hp.out _) ?_
      rintro e uw101 ⟨x3, y3, z3, b3, hq3, rfl, hb⟩
      replace M2 := Lib.hid (M2.out.call hb)
      replace M3 := Lib.hid (M3.out.call hb)
      replace M4 := Lib.hid (M4.out.call hb)
      replace M5 := Lib.hid (M5.out.call hb)
      replace T := Lib.hid (T.out.call hb)
      replace M6 := Lib.hid (M6.out.call hb)
      replace Hrg := Lib.hid (Hrg.out.call hb)
      replace HB := Lib.hid (held_next HB.out hb)
      have Hq3 := Lib.hid hq3; clear hq3
      refine ⟨_, rfl, fun _ => ⟨M2.out, M5.out, M6.out, Hrg.out⟩, ?_⟩
      clear hb
      (try simp only [sI, sS, sZ])
      refine go_take2 10 32 #[tt,tt,tt,tt,tt,tt,tt,tt,tt,tt,tt,ff] rfl rfl rfl (by kernel_rfl) (idx53 (by rfl) _ _ rfl (TB) _ _ rfl _ _ (by rfl) (j + 1) (rfl) (by omega) ((j + 1) * 13) (rfl)) (⟨M2.out, M5.out, M6.out, Hrg.out⟩) ?_
      (try simp only [sI, sS, sZ])
      refine wpBut_r1 (i := 11) (by kernel_rfl) ?_
      refine go_storem 11 #[tt,tt,tt,tt,tt,tt,tt,tt,tt,tt,tt,tt] rfl rfl rfl (by rfl) 53 _ _ rfl (TB) ((j + 1) * 13) (pt x3 y3 z3 b3) rfl rfl (T.out.has.there2 _ _ (by rw [pt_size]; omega)) (by rw [pt_size]; kernel_rfl) (pt_one _ _ _ _) ?_
      intro yw102 hw2
      replace M2 := Lib.hid (M2.out.setCells_other (TB) ((j + 1) * 13) ((pt x3 y3 z3 b3).toList) (by omega))
      replace M3 := Lib.hid (M3.out.setCells_other (TB) ((j + 1) * 13) ((pt x3 y3 z3 b3).toList) (by omega))
      replace M4 := Lib.hid (M4.out.setCells_other (TB) ((j + 1) * 13) ((pt x3 y3 z3 b3).toList) (by omega))
      replace M5 := Lib.hid (M5.out.setCells_other (TB) ((j + 1) * 13) ((pt x3 y3 z3 b3).toList) (by omega))
      replace M6 := Lib.hid (M6.out.setCells_other (TB) ((j + 1) * 13) ((pt x3 y3 z3 b3).toList) (by omega))
      replace Hrg := Lib.hid (Hrg.out.setCells_other (TB) ((j + 1) * 13) ((pt x3 y3 z3 b3).toList) (by omega))
      replace T := Lib.hid ((show Tab (uw101.setCells TB ((j + 1) * 13) (pt x3 y3 z3 b3).toList) TB (j + 1 + 1) p from T.out.next hk x3 y3 z3 b3 Hq3.out))
      replace HB := Lib.hid (below_setCells2 (show w.heap.size ≤ TB by omega) ((pt x3 y3 z3 b3).toList) ((j + 1) * 13) _ HB.out)
      rw [← hw2] at M2 M3 M4 M5 M6 Hrg T HB; clear hw2
      refine ⟨fun _ => ⟨M2.out, M5.out, M6.out, Hrg.out⟩, ?_⟩
      (try simp only [sI, sS, sZ])
      refine wpBut_done (by kernel_rfl) (NoPanic.normal ?_)
      clear Hrg
      repeat ((fail_if_success (with_reducible (show wpList _ _ _ _ _ _))); go_step)
      iterate 3 (refine wpList_step (fun K hK => ?_); go_simp; (try go_bits); refine hK _ _ ?_; clear hK K)
      refine wpList_nil ?_
      go_roundw
      case measure => simp [intOf]; omega
      case rel => exact ⟨_, _, _, _, _, _, _, _, _, _, _, _, _, _, _, _, _, _, ⟨j + 1 + 1, by omega, by omega, rfl, M2.out, M3.out, M4.out, M5.out, T.out, M6.out, HB.out⟩, rfl⟩
    · have hk16 : k = 16 := by omega
      subst hk16
      clear hk hk1 hk2
      repeat ((fail_if_success (with_reducible (show wpList _ _ _ _ _ _))); go_step)
      (refine wpList_step (fun K hK => ?_); go_simp; (try go_bits); refine hK _ _ ?_; clear hK K)
      refine wpList_load1 (by rfl) 113 _ rfl (B6) rfl (.slice (some ⟨TB, 0, none⟩) 16 16) _ M6.out.one Try.underlying113 rfl 17 rfl ?_
      (try simp only [Act.put, sI, sS, sZ])
      iterate 2 (refine wpList_step (fun K hK => ?_); go_simp; (try go_bits); refine hK _ _ ?_; clear hK K)
      refine wpList_nil ?_
      repeat ((fail_if_success (with_reducible (show wpList _ _ _ _ _ _))); go_step)
      refine wpList_alloc (by rfl) 53 rfl _ al53 8 rfl ?_
      intro yw101 hw2
      have hlt102 := M2.out.lt
      have hlt103 := M3.out.lt
      have hlt104 := M4.out.lt
      have hlt105 := M5.out.lt
      have hlt106 := T.out.lt
      have hlt107 := M6.out.lt
      have hsz := HB.out.size
      replace M2 := Lib.hid (M2.out.alloc (.cells z53 53))
      replace M3 := Lib.hid (M3.out.alloc (.cells z53 53))
      replace M4 := Lib.hid (M4.out.alloc (.cells z53 53))
      replace M5 := Lib.hid (M5.out.alloc (.cells z53 53))
      replace T := Lib.hid (T.out.alloc (.cells z53 53))
      replace M6 := Lib.hid (M6.out.alloc (.cells z53 53))
      have M8 := Lib.hid (Has.new wr z53 53)
      replace HB := Lib.hid (HB.out.alloc hsz (.cells z53 53))
      rw [← hw2] at M2 M3 M4 M5 T M6 M8 HB; clear hw2
      (try simp only [Act.put, sI, sS, sZ])
      refine wpList_nil ?_
      obtain ⟨B8, hB8⟩ : ∃ B, B = wr.heap.size := ⟨_, rfl⟩
      have gB8 : B6 < B8 := by omega
      rw [← hB8] at M8 ⊢
      clear hB8
      repeat ((fail_if_success (with_reducible (show wpList _ _ _ _ _ _))); go_step)
      have hl8b := M8.out.lt
      (refine wpList_step (fun K hK => ?_); go_simp; (try go_bits); refine hK _ _ ?_; clear hK K)
      refine wpList_call (by rfl) rfl rfl (by rfl) ent94 (by rfl) (bkw_call _ _ _ _) 34 rfl ?_
      rintro e uw101 ⟨⟨rfl, hbs⟩, hb⟩
      replace M2 := Lib.hid (M2.out.call hb)
      replace M3 := Lib.hid (M3.out.call hb)
      replace M4 := Lib.hid (M4.out.call hb)
      replace M5 := Lib.hid (M5.out.call hb)
      replace T := Lib.hid (T.out.call hb)
      replace M6 := Lib.hid (M6.out.call hb)
      replace M8 := Lib.hid (M8.out.call hb)
      replace HB := Lib.hid (held_next HB.out hb)
      have MS := Lib.hid hbs; clear hbs
      refine ⟨_, rfl, ?_⟩
      clear hb
      (try simp only [Act.put, sI, sS, sZ])
      refine wpList_nil ?_
      obtain ⟨BS, hBS⟩ : ∃ B, B = yw101.heap.size := ⟨_, rfl⟩
      rw [← hBS] at MS ⊢
      have gBS : B8 < BS := by omega
      clear hBS
      repeat ((fail_if_success (with_reducible (show wpList _ _ _ _ _ _))); go_step)
      have hlS := MS.out.lt
      have hl3 := M3.out.lt
      have hl8 := M8.out.lt
      have hI := ownI_from (β := List Nat) (A := uw101) (B := B8) (t := 53) (C := fun pre c => ∃ x y z b, c = pt x y z b ∧ PtA x y z b (mulA finv fd p (vl n pre))) (by omega)
      have hst := bkw_stops 2 (by decide) BS (w.heap.size + 1) 32 32 (dg 256 n) (by decide) uw101 hlS hl3 MS.out.one (fun j hj => M3.out.cell j hj)
      have hz : OwnI uw101 B8 53 (fun (pre : List Nat) c => ∃ x y z b, c = pt x y z b ∧ PtA x y z b (mulA finv fd p (vl n pre))) [] uw101 :=
        ⟨z53, ⟨0, 0, 0, false, by kernel_rfl, zero_pta⟩, M8.out, But.refl _ _⟩
      have hf : ∀ (x : Nat) (t : Array Value), ((#[35, 36] : Array Tmp).zip #[Value.int .i64 (x : Int), Value.int .u8 (dg 256 n x)]).foldl (fun t (p, v) => t.setIfInBounds p v) t = (t.setIfInBounds 35 (.int .i64 x)).setIfInBounds 36 (.int .u8 (dg 256 n x)) := fun x t => by simp
      refine range_wide (α := Nat) (n := 3) (by decide) (gf := 111) (lb := #[.pointer (some ⟨BS, 0, none⟩)]) rfl ent111 hst (fun h k => keep2_t h k) (keep2_b hlS hl3) (Below.refl _ _) (fun _ => rfl) _ hI hz
        (fun x t => t.setIfInBounds 10 (.int .u8 (dg 256 n x))) ?assign ?body ?done
      case assign =>
        intro l x W K hK
        simp only [hf, sI, sS, sZ] at hK ⊢
        gi_wp2
        exact hK
      case body =>
        rintro l pre x0 W ⟨c, ⟨x5, y5, z5, b5, rfl, hq5⟩, m8, hb8⟩ _
        have m5 := M5.out.but hb8 (by omega)
        have t1 := T.out.but hb8 (by omega)
        have m6 := M6.out.but hb8 (by omega)
        have hB := below_but HB.out hb8 (by omega) HB.out.size
        have kO := But.refl B8 W
        obtain ⟨q, hqv⟩ : ∃ q : Nat, q = n / 256 ^ x0 % 256 := ⟨_, rfl⟩
        have hq256 : q < 256 := by rw [hqv]; exact Nat.mod_lt _ (by decide)
        have hqd : dg 256 n x0 = (q : Int) := by rw [hqv]; rfl
        have hsn := vl_snoc n pre x0
        rw [← hqv] at hsn
        obtain ⟨V, hV⟩ : ∃ V, V = vl n pre := ⟨_, rfl⟩
        rw [← hV] at hsn hq5
        have hlW := Nat.lt_of_lt_of_le hlS hb8.size
        have hW8 := m8
        simp only [hf, hqd, sI, sS, sZ]
        clear hf hz hI hst hlS hl3 hl8 hl8b M2 M3 M4 M5 T M6 M8 MS HB
        have M5 := Lib.hid m5; clear m5
        have T1 := Lib.hid t1; clear t1
        have M6 := Lib.hid m6; clear m6
        have HB := Lib.hid hB; clear hB
        have KO := Lib.hid kO; clear kO
        have M8 := Lib.hid m8; clear m8
        have Hb8 := Lib.hid hb8; clear hb8
        have Hq5 := Lib.hid hq5; clear hq5
        have Hqd := Lib.hid hqd; clear hqd
        have Hqv := Lib.hid hqv; clear hqv
        have HV := Lib.hid hV; clear hV
        have Hsn := Lib.hid hsn; clear hsn
        have HW8 := Lib.hid hW8; clear hW8
        repeat ((fail_if_success (with_reducible (show wpListIn _ _ _ _ _ _ _ _))); gi_step)
        refine wpr_lit (by kernel_rfl) ?_
        iterate 6 (refine wpList_step (fun K hK => ?_); go_simp; (try go_bits); refine hK _ _ ?_; clear hK K)
        refine wpList_nil ?_
        obtain ⟨r1, r2, hr1, hr2, hrq⟩ : ∃ r1 r2 : Nat, r1 < 16 ∧ r2 < 16 ∧ q = 16 * r1 + r2 := ⟨q / 16, q % 16, by omega, by omega, by omega⟩
        have e1 : (q : Int) / 16 = (r1 : Int) := by omega
        have e2 : (q : Int) % 16 = (r2 : Int) := by omega
        rw [e1, e2]
        clear e1 e2
        have Hrq := Lib.hid hrq; clear hrq
        repeat ((fail_if_success (with_reducible (show wpListIn _ _ _ _ _ _ _ _))); gi_step)
        gi_loopw [42] (fun i wr => ∃ m x6 y6 z6 : Nat, ∃ b6, m ≤ 2 ∧ i = .int .i64 (m : Int) ∧ PtA x6 y6 z6 b6 (mulA finv fd p (if m = 0 then V else if m = 1 then 16 * V + r1 else 16 * (16 * V + r1) + r2)) ∧ Has wr B8 (pt x6 y6 z6 b6) 53 ∧ Has wr B5 #[.func (.func 92) #[.agg (e4 d)] #[]] 111 ∧ Tab wr TB 16 p ∧ Has wr B6 #[.slice (some ⟨TB, 0, none⟩) 16 16] 113 ∧ But B8 W wr ∧ Below w.heap.size w wr) (fun i _ => (2 - intOf i).toNat)
        case atStart => exact ⟨0, x5, y5, z5, b5, by omega, rfl, Hq5.out, M8.out, M5.out, T1.out, M6.out, KO.out, HB.out⟩
        case round =>
          clear M5 T1 M6 M8 KO HB
          obtain ⟨m, x6, y6, z6, b6, hm, rfl, hq6, m8, m5, t1, m6, kO, hB⟩ := hrel
          have M5 := Lib.hid m5; clear m5
          have T1 := Lib.hid t1; clear t1
          have M6 := Lib.hid m6; clear m6
          have HB := Lib.hid hB; clear hB
          have KO := Lib.hid kO; clear kO
          have M8 := Lib.hid m8; clear m8
          rcases (show m = 0 ∨ m = 1 ∨ m = 2 by omega) with rfl | rfl | rfl
          · have Hq6 := Lib.hid hq6; clear hq6
            obtain ⟨a, ha⟩ : ∃ a, a = if (0 : Nat) = 0 then V else if (0 : Nat) = 1 then 16 * V + r1 else 16 * (16 * V + r1) + r2 := ⟨_, rfl⟩
            rw [← ha] at Hq6
            have Ha := Lib.hid ha; clear ha
            repeat ((fail_if_success (with_reducible (show wpListIn _ _ _ _ _ _ _ _))); gi_step)
            refine wpr_lit (by kernel_rfl) ?_
            (refine wpList_step (fun K hK => ?_); go_simp; (try go_bits); refine hK _ _ ?_; clear hK K)
            refine wpList_nil ?_
            repeat ((fail_if_success (with_reducible (show wpListIn _ _ _ _ _ _ _ _))); gi_step)
            refine wpr_lit (by kernel_rfl) ?_
            iterate 2 (refine wpList_step (fun K hK => ?_); go_simp; (try go_bits); refine hK _ _ ?_; clear hK K)
            refine wpList_nil ?_
            repeat ((fail_if_success (with_reducible (show wpListIn _ _ _ _ _ _ _ _))); gi_step)
            refine wpr_lit (by kernel_rfl) ?_
            (refine wpList_step (fun K hK => ?_); go_simp; (try go_bits); refine hK _ _ ?_; clear hK K)
            refine wpList_nil ?_
            repeat ((fail_if_success (with_reducible (show wpListIn _ _ _ _ _ _ _ _))); gi_step)
            gi_loopw [45] (fun i wr => ∃ s x7 y7 z7 : Nat, ∃ b7, s ≤ 4 ∧ i = .int .i64 (s : Int) ∧ PtA x7 y7 z7 b7 (mulA finv fd p (2 ^ s * a)) ∧ Has wr B8 (pt x7 y7 z7 b7) 53 ∧ Has wr B5 #[.func (.func 92) #[.agg (e4 d)] #[]] 111 ∧ Tab wr TB 16 p ∧ Has wr B6 #[.slice (some ⟨TB, 0, none⟩) 16 16] 113 ∧ But B8 W wr ∧ Below w.heap.size w wr) (fun i _ => (4 - intOf i).toNat)
            case atStart => exact ⟨0, x6, y6, z6, b6, by omega, rfl, by rw [Nat.pow_zero, Nat.one_mul]; exact Hq6.out, M8.out, M5.out, T1.out, M6.out, KO.out, HB.out⟩
            case round =>
              clear M5 T1 M6 M8 KO HB Hq6
              rename_i wr2
              obtain ⟨s, x7, y7, z7, b7, hs, rfl, hq7, m8, m5, t1, m6, kO, hB⟩ := hrel
              have M5 := Lib.hid m5; clear m5
              have T1 := Lib.hid t1; clear t1
              have M6 := Lib.hid m6; clear m6
              have HB := Lib.hid hB; clear hB
              have KO := Lib.hid kO; clear kO
              have M8 := Lib.hid m8; clear m8
              have Hq7 := Lib.hid hq7; clear hq7
              rcases Nat.lt_or_ge s 4 with hs4 | hs4
              · have sq : (s : Int) < 4 := by omega
                repeat ((fail_if_success (with_reducible (show wpListIn _ _ _ _ _ _ _ _))); gi_step)
                refine wpr_lit (by kernel_rfl) ?_
                (refine wpList_step (fun K hK => ?_); go_simp; (try go_bits); refine hK _ _ ?_; clear hK K)
                refine wpList_nil ?_
                repeat ((fail_if_success (with_reducible (show wpListIn _ _ _ _ _ _ _ _))); gi_step)
                refine wpr_lit (by kernel_rfl) ?_
                refine wpList_load1 (by rfl) 111 _ rfl (B5) rfl (.func (.func 92) #[.agg (e4 d)] #[]) _ M5.out.one Try.underlying111 rfl 47 rfl ?_
                (try simp only [Act.put, sI, sS, sZ])
                refine wpList_load (by rfl) 53 _ rfl (B8) rfl 53 (pt x7 y7 z7 b7) M8.out Try.underlying53 rfl (by rw [pt_size]; kernel_rfl) 48 rfl ?_
                (try simp only [Act.put, sI, sS, sZ])
                refine wpList_load (by rfl) 53 _ rfl (B8) rfl 53 (pt x7 y7 z7 b7) M8.out Try.underlying53 rfl (by rw [pt_size]; kernel_rfl) 49 rfl ?_
                (try simp only [Act.put, sI, sS, sZ])
                refine wpList_callB (by rfl) rfl rfl (by rfl) ent92 (by rfl) (sum_pta d hd hdr x7 y7 z7 b7 _ Hq7.out x7 y7 z7 b7 _ Hq7.out _) 50 rfl ?_
                rintro e uw301 ⟨x8, y8, z8, b8, hq8, rfl, hb⟩
                replace M5 := Lib.hid (M5.out.call hb)
                replace T1 := Lib.hid (T1.out.call hb)
                replace M6 := Lib.hid (M6.out.call hb)
                replace M8 := Lib.hid (M8.out.call hb)
                replace KO := Lib.hid (KO.out.call hb)
                replace HB := Lib.hid (held_next HB.out hb)
                rw [← fld.mul_add p Hop.out] at hq8
                have Hq8 := Lib.hid hq8; clear hq8
                refine ⟨_, rfl, ?_⟩
                clear hb
                (try simp only [Act.put, sI, sS, sZ])
                first | (obtain ⟨Zq, hZ, mZ⟩ := M8.out) | (obtain ⟨Zq, hZ, mZ⟩ := M8.out.toN (pt_size ..))
                refine wpList_store2 (by rfl) 53 _ _ rfl rfl (B8) (pt x8 y8 z8 b8) rfl rfl 53 Zq mZ (by rw [pt_size]; kernel_rfl) (hZ.trans (pt_size ..).symm) (pt_one _ _ _ _) ?_
                intro yw301 hw2
                replace M5 := Lib.hid (M5.out.setRow_other (B8) (pt x8 y8 z8 b8) (by omega))
                replace T1 := Lib.hid (T1.out.setRow_other (B8) (pt x8 y8 z8 b8) (by omega))
                replace M6 := Lib.hid (M6.out.setRow_other (B8) (pt x8 y8 z8 b8) (by omega))
                replace KO := Lib.hid (KO.out.setRow_other (B8) (pt x8 y8 z8 b8) (by omega))
                replace M8 := Lib.hid (mZ.setRow (pt x8 y8 z8 b8))
                replace HB := Lib.hid (below_setRow HB.out (B8) (pt x8 y8 z8 b8) (by omega))
                rw [← hw2] at M5 T1 M6 KO M8 HB; clear mZ hZ hw2
                refine wpList_nil ?_
                repeat ((fail_if_success (with_reducible (show wpListIn _ _ _ _ _ _ _ _))); gi_step)
                refine wpr_lit (by kernel_rfl) ?_
                iterate 2 (refine wpList_step (fun K hK => ?_); go_simp; (try go_bits); refine hK _ _ ?_; clear hK K)
                refine wpList_nil ?_
                go_roundw
                case measure => simp [intOf]; omega
                case rel => exact ⟨_, _, _, _, _, _, _, ⟨s + 1, x8, y8, z8, b8, by omega, rfl, by rw [show 2 ^ (s + 1) * a = 2 ^ s * a + 2 ^ s * a by rw [Nat.pow_succ, Nat.mul_assoc, Nat.mul_comm 2 a, ← Nat.mul_assoc, Nat.mul_two]]; exact Hq8.out, M8.out, M5.out, T1.out, M6.out, KO.out, HB.out⟩, rfl⟩
              · have hs4' : s = 4 := by omega
                subst hs4'
                clear hs hs4
                repeat ((fail_if_success (with_reducible (show wpListIn _ _ _ _ _ _ _ _))); gi_step)
                refine wpr_lit (by kernel_rfl) ?_
                (refine wpList_step (fun K hK => ?_); go_simp; (try go_bits); refine hK _ _ ?_; clear hK K)
                refine wpList_nil ?_
                repeat ((fail_if_success (with_reducible (show wpListIn _ _ _ _ _ _ _ _))); gi_step)
                obtain ⟨x1, y1, z1, b1, hq1, hrg⟩ := T1.out.at_ r1 hr1
                have Hq1 := Lib.hid hq1; clear hq1
                have Hrg := Lib.hid hrg; clear hrg
                refine wpr_noPanic ?_
                refine wpr_goS (fun w' => Has w' (B5) (#[.func (.func 92) #[.agg (e4 d)] #[]]) 111 ∧ Has w' (B8) (pt x7 y7 z7 b7) 53 ∧ Has w' (B6) (#[.slice (some ⟨TB, 0, none⟩) 16 16]) 113 ∧ Rng w' (TB) (r1 * 13) (ptl x1 y1 z1 b1)) 7 8 #[ff,ff,ff,ff,ff,ff,ff,ff] (by kernel_rfl) rfl rfl ?_
                replace M5 := Lib.hid (M5.out.drew)
                replace T1 := Lib.hid (T1.out.drew)
                replace M6 := Lib.hid (M6.out.drew)
                replace M8 := Lib.hid (M8.out.drew)
                replace KO := Lib.hid (KO.out.drew)
                replace Hrg := Lib.hid (Hrg.out.drew)
                replace HB := Lib.hid (below_drewN HB.out 1)
                obtain ⟨yw301, hwyw301⟩ : ∃ ww, ww = wr.drew := ⟨_, rfl⟩
                rw [← hwyw301] at M5 T1 M6 M8 KO Hrg ⊢
                have kq : Below w.heap.size w yw301 := by rw [hwyw301]; exact HB.out
                clear HB; have HB := Lib.hid kq; clear kq hwyw301
                refine go_take2 0 52 #[tt,ff,ff,ff,ff,ff,ff,ff] rfl rfl rfl (by kernel_rfl) (yieldsIf_load1 (by rfl) 111 _ rfl (B5) rfl (.func (.func 92) #[.agg (e4 d)] #[]) _ (fun _ h => Has.one (h.1)) Try.underlying111 rfl) (⟨M5.out, M8.out, M6.out, Hrg.out⟩) ?_
                (try simp only [sI, sS, sZ])
                refine go_take2 1 53 #[tt,tt,ff,ff,ff,ff,ff,ff] rfl rfl rfl (by kernel_rfl) (yieldsIf_load_row (by rfl) 53 _ rfl (B8) rfl 53 (pt x7 y7 z7 b7) (fun _ h => h.2.1) Try.underlying53 rfl (by rw [pt_size]; kernel_rfl)) (⟨M5.out, M8.out, M6.out, Hrg.out⟩) ?_
                (try simp only [sI, sS, sZ])
                refine go_take2 2 54 #[tt,tt,tt,ff,ff,ff,ff,ff] rfl rfl rfl (by kernel_rfl) (yieldsIf_load1 (by rfl) 113 _ rfl (B6) rfl (.slice (some ⟨TB, 0, none⟩) 16 16) _ (fun _ h => Has.one (h.2.2.1)) Try.underlying113 rfl) (⟨M5.out, M8.out, M6.out, Hrg.out⟩) ?_
                (try simp only [sI, sS, sZ])
                refine go_take2 3 55 #[tt,tt,tt,tt,ff,ff,ff,ff] (v := ?uv4) rfl rfl rfl (by kernel_rfl) (Or.inl ⟨by rfl, ?uy4⟩) (⟨M5.out, M8.out, M6.out, Hrg.out⟩) ?urest4
                case uy4 => (intro _ _; go_simp; try with_reducible rfl)
                (try simp only [sI, sS, sZ])
                refine go_take2 4 56 #[tt,tt,tt,tt,tt,ff,ff,ff] rfl rfl rfl (by kernel_rfl) (idx53 (by rfl) _ _ rfl (TB) _ _ rfl _ _ (by rfl) (r1) (rfl) (by omega) (r1 * 13) (rfl)) (⟨M5.out, M8.out, M6.out, Hrg.out⟩) ?_
                (try simp only [sI, sS, sZ])
                refine go_take2 5 57 #[tt,tt,tt,tt,tt,tt,ff,ff] rfl rfl rfl (by kernel_rfl) (yieldsIf_loadm (by rfl) 53 _ rfl (TB) (r1 * 13) rfl (ptl x1 y1 z1 b1) (pt x1 y1 z1 b1) (ptl_arr ..) (fun _ h => Rng.at_ (h.2.2.2)) _ Try.underlying53 rfl (by rw [ptl_len]; kernel_rfl)) (⟨M5.out, M8.out, M6.out, Hrg.out⟩) ?_
                (try simp only [sI, sS, sZ])
                refine wpBut_r1 (i := 6) (by kernel_rfl) ?_
                refine go_callB 6 58 #[tt,tt,tt,tt,tt,tt,tt,ff] rfl rfl rfl (by rfl) rfl rfl (by rfl) ent92 (by rfl) (sum_pta d hd hdr x7 y7 z7 b7 _ Hq7.out x1 y1 z1 b1 _ Hq1.out _) ?_
                rintro e uw301 ⟨x8, y8, z8, b8, hq8, rfl, hb⟩
                replace M5 := Lib.hid (M5.out.call hb)
                replace T1 := Lib.hid (T1.out.call hb)
                replace M6 := Lib.hid (M6.out.call hb)
                replace M8 := Lib.hid (M8.out.call hb)
                replace KO := Lib.hid (KO.out.call hb)
                replace Hrg := Lib.hid (Hrg.out.call hb)
                replace HB := Lib.hid (held_next HB.out hb)
                rw [← fld.mul_add p Hop.out] at hq8
                have Hq8 := Lib.hid hq8; clear hq8
                refine ⟨_, rfl, fun _ => ⟨M5.out, M8.out, M6.out, Hrg.out⟩, ?_⟩
                clear hb
                (try simp only [sI, sS, sZ])
                refine wpBut_r1 (i := 7) (by kernel_rfl) ?_
                first | (obtain ⟨Zq, hZ, mZ⟩ := M8.out) | (obtain ⟨Zq, hZ, mZ⟩ := M8.out.toN (pt_size ..))
                refine go_store2 7 #[tt,tt,tt,tt,tt,tt,tt,tt] rfl rfl rfl (by rfl) 53 _ _ rfl (B8) (pt x8 y8 z8 b8) rfl rfl 53 Zq mZ (by rw [pt_size]; kernel_rfl) (hZ.trans (pt_size ..).symm) (pt_one _ _ _ _) ?_
                intro yw302 hw2
                replace M5 := Lib.hid (M5.out.setRow_other (B8) (pt x8 y8 z8 b8) (by omega))
                replace T1 := Lib.hid (T1.out.setRow_other (B8) (pt x8 y8 z8 b8) (by omega))
                replace M6 := Lib.hid (M6.out.setRow_other (B8) (pt x8 y8 z8 b8) (by omega))
                replace KO := Lib.hid (KO.out.setRow_other (B8) (pt x8 y8 z8 b8) (by omega))
                replace Hrg := Lib.hid (Hrg.out.setRow_other (B8) (pt x8 y8 z8 b8) (by omega))
                replace M8 := Lib.hid (mZ.setRow (pt x8 y8 z8 b8))
                replace HB := Lib.hid (below_setRow HB.out (B8) (pt x8 y8 z8 b8) (by omega))
                rw [← hw2] at M5 T1 M6 KO Hrg M8 HB; clear mZ hZ hw2
                refine ⟨fun h => (h rfl).elim, ?_⟩
                (try simp only [sI, sS, sZ])
                refine wpBut_done (by kernel_rfl) (NoPanic.normal ?_)
                clear Hrg
                repeat ((fail_if_success (with_reducible (show wpListIn _ _ _ _ _ _ _ _))); gi_step)
                refine wpr_lit (by kernel_rfl) ?_
                iterate 2 (refine wpList_step (fun K hK => ?_); go_simp; (try go_bits); refine hK _ _ ?_; clear hK K)
                refine wpList_nil ?_
                go_roundw
                case measure => simp [intOf]
                case rel => exact ⟨_, _, _, _, _, _, _, _, _, _, _, _, _, _, _, _, _, _, _, ⟨1, x8, y8, z8, b8, by omega, rfl, by have h := Hq8.out; rw [Ha.out] at h; exact h, M8.out, M5.out, T1.out, M6.out, KO.out, HB.out⟩, rfl⟩
          · have Hq6 := Lib.hid hq6; clear hq6
            obtain ⟨a, ha⟩ : ∃ a, a = if (1 : Nat) = 0 then V else if (1 : Nat) = 1 then 16 * V + r1 else 16 * (16 * V + r1) + r2 := ⟨_, rfl⟩
            rw [← ha] at Hq6
            have Ha := Lib.hid ha; clear ha
            repeat ((fail_if_success (with_reducible (show wpListIn _ _ _ _ _ _ _ _))); gi_step)
            refine wpr_lit (by kernel_rfl) ?_
            (refine wpList_step (fun K hK => ?_); go_simp; (try go_bits); refine hK _ _ ?_; clear hK K)
            refine wpList_nil ?_
            repeat ((fail_if_success (with_reducible (show wpListIn _ _ _ _ _ _ _ _))); gi_step)
            refine wpr_lit (by kernel_rfl) ?_
            iterate 2 (refine wpList_step (fun K hK => ?_); go_simp; (try go_bits); refine hK _ _ ?_; clear hK K)
            refine wpList_nil ?_
            repeat ((fail_if_success (with_reducible (show wpListIn _ _ _ _ _ _ _ _))); gi_step)
            refine wpr_lit (by kernel_rfl) ?_
            (refine wpList_step (fun K hK => ?_); go_simp; (try go_bits); refine hK _ _ ?_; clear hK K)
            refine wpList_nil ?_
            repeat ((fail_if_success (with_reducible (show wpListIn _ _ _ _ _ _ _ _))); gi_step)
            gi_loopw [45] (fun i wr => ∃ s x7 y7 z7 : Nat, ∃ b7, s ≤ 4 ∧ i = .int .i64 (s : Int) ∧ PtA x7 y7 z7 b7 (mulA finv fd p (2 ^ s * a)) ∧ Has wr B8 (pt x7 y7 z7 b7) 53 ∧ Has wr B5 #[.func (.func 92) #[.agg (e4 d)] #[]] 111 ∧ Tab wr TB 16 p ∧ Has wr B6 #[.slice (some ⟨TB, 0, none⟩) 16 16] 113 ∧ But B8 W wr ∧ Below w.heap.size w wr) (fun i _ => (4 - intOf i).toNat)
            case atStart => exact ⟨0, x6, y6, z6, b6, by omega, rfl, by rw [Nat.pow_zero, Nat.one_mul]; exact Hq6.out, M8.out, M5.out, T1.out, M6.out, KO.out, HB.out⟩
            case round =>
              clear M5 T1 M6 M8 KO HB Hq6
              rename_i wr2
              obtain ⟨s, x7, y7, z7, b7, hs, rfl, hq7, m8, m5, t1, m6, kO, hB⟩ := hrel
              have M5 := Lib.hid m5; clear m5
              have T1 := Lib.hid t1; clear t1
              have M6 := Lib.hid m6; clear m6
              have HB := Lib.hid hB; clear hB
              have KO := Lib.hid kO; clear kO
              have M8 := Lib.hid m8; clear m8
              have Hq7 := Lib.hid hq7; clear hq7
              rcases Nat.lt_or_ge s 4 with hs4 | hs4
              · have sq : (s : Int) < 4 := by omega
                repeat ((fail_if_success (with_reducible (show wpListIn _ _ _ _ _ _ _ _))); gi_step)
                refine wpr_lit (by kernel_rfl) ?_
                (refine wpList_step (fun K hK => ?_); go_simp; (try go_bits); refine hK _ _ ?_; clear hK K)
                refine wpList_nil ?_
                repeat ((fail_if_success (with_reducible (show wpListIn _ _ _ _ _ _ _ _))); gi_step)
                refine wpr_lit (by kernel_rfl) ?_
                refine wpList_load1 (by rfl) 111 _ rfl (B5) rfl (.func (.func 92) #[.agg (e4 d)] #[]) _ M5.out.one Try.underlying111 rfl 47 rfl ?_
                (try simp only [Act.put, sI, sS, sZ])
                refine wpList_load (by rfl) 53 _ rfl (B8) rfl 53 (pt x7 y7 z7 b7) M8.out Try.underlying53 rfl (by rw [pt_size]; kernel_rfl) 48 rfl ?_
                (try simp only [Act.put, sI, sS, sZ])
                refine wpList_load (by rfl) 53 _ rfl (B8) rfl 53 (pt x7 y7 z7 b7) M8.out Try.underlying53 rfl (by rw [pt_size]; kernel_rfl) 49 rfl ?_
                (try simp only [Act.put, sI, sS, sZ])
                refine wpList_callB (by rfl) rfl rfl (by rfl) ent92 (by rfl) (sum_pta d hd hdr x7 y7 z7 b7 _ Hq7.out x7 y7 z7 b7 _ Hq7.out _) 50 rfl ?_
                rintro e uw301 ⟨x8, y8, z8, b8, hq8, rfl, hb⟩
                replace M5 := Lib.hid (M5.out.call hb)
                replace T1 := Lib.hid (T1.out.call hb)
                replace M6 := Lib.hid (M6.out.call hb)
                replace M8 := Lib.hid (M8.out.call hb)
                replace KO := Lib.hid (KO.out.call hb)
                replace HB := Lib.hid (held_next HB.out hb)
                rw [← fld.mul_add p Hop.out] at hq8
                have Hq8 := Lib.hid hq8; clear hq8
                refine ⟨_, rfl, ?_⟩
                clear hb
                (try simp only [Act.put, sI, sS, sZ])
                first | (obtain ⟨Zq, hZ, mZ⟩ := M8.out) | (obtain ⟨Zq, hZ, mZ⟩ := M8.out.toN (pt_size ..))
                refine wpList_store2 (by rfl) 53 _ _ rfl rfl (B8) (pt x8 y8 z8 b8) rfl rfl 53 Zq mZ (by rw [pt_size]; kernel_rfl) (hZ.trans (pt_size ..).symm) (pt_one _ _ _ _) ?_
                intro yw301 hw2
                replace M5 := Lib.hid (M5.out.setRow_other (B8) (pt x8 y8 z8 b8) (by omega))
                replace T1 := Lib.hid (T1.out.setRow_other (B8) (pt x8 y8 z8 b8) (by omega))
                replace M6 := Lib.hid (M6.out.setRow_other (B8) (pt x8 y8 z8 b8) (by omega))
                replace KO := Lib.hid (KO.out.setRow_other (B8) (pt x8 y8 z8 b8) (by omega))
                replace M8 := Lib.hid (mZ.setRow (pt x8 y8 z8 b8))
                replace HB := Lib.hid (below_setRow HB.out (B8) (pt x8 y8 z8 b8) (by omega))
                rw [← hw2] at M5 T1 M6 KO M8 HB; clear mZ hZ hw2
                refine wpList_nil ?_
                repeat ((fail_if_success (with_reducible (show wpListIn _ _ _ _ _ _ _ _))); gi_step)
                refine wpr_lit (by kernel_rfl) ?_
                iterate 2 (refine wpList_step (fun K hK => ?_); go_simp; (try go_bits); refine hK _ _ ?_; clear hK K)
                refine wpList_nil ?_
                go_roundw
                case measure => simp [intOf]; omega
                case rel => exact ⟨_, _, _, _, _, _, _, ⟨s + 1, x8, y8, z8, b8, by omega, rfl, by rw [show 2 ^ (s + 1) * a = 2 ^ s * a + 2 ^ s * a by rw [Nat.pow_succ, Nat.mul_assoc, Nat.mul_comm 2 a, ← Nat.mul_assoc, Nat.mul_two]]; exact Hq8.out, M8.out, M5.out, T1.out, M6.out, KO.out, HB.out⟩, rfl⟩
              · have hs4' : s = 4 := by omega
                subst hs4'
                clear hs hs4
                repeat ((fail_if_success (with_reducible (show wpListIn _ _ _ _ _ _ _ _))); gi_step)
                refine wpr_lit (by kernel_rfl) ?_
                (refine wpList_step (fun K hK => ?_); go_simp; (try go_bits); refine hK _ _ ?_; clear hK K)
                refine wpList_nil ?_
                repeat ((fail_if_success (with_reducible (show wpListIn _ _ _ _ _ _ _ _))); gi_step)
                obtain ⟨x1, y1, z1, b1, hq1, hrg⟩ := T1.out.at_ r2 hr2
                have Hq1 := Lib.hid hq1; clear hq1
                have Hrg := Lib.hid hrg; clear hrg
                refine wpr_noPanic ?_
                refine wpr_goS (fun w' => Has w' (B5) (#[.func (.func 92) #[.agg (e4 d)] #[]]) 111 ∧ Has w' (B8) (pt x7 y7 z7 b7) 53 ∧ Has w' (B6) (#[.slice (some ⟨TB, 0, none⟩) 16 16]) 113 ∧ Rng w' (TB) (r2 * 13) (ptl x1 y1 z1 b1)) 7 8 #[ff,ff,ff,ff,ff,ff,ff,ff] (by kernel_rfl) rfl rfl ?_
                replace M5 := Lib.hid (M5.out.drew)
                replace T1 := Lib.hid (T1.out.drew)
                replace M6 := Lib.hid (M6.out.drew)
                replace M8 := Lib.hid (M8.out.drew)
                replace KO := Lib.hid (KO.out.drew)
                replace Hrg := Lib.hid (Hrg.out.drew)
                replace HB := Lib.hid (below_drewN HB.out 1)
                obtain ⟨yw301, hwyw301⟩ : ∃ ww, ww = wr.drew := ⟨_, rfl⟩
                rw [← hwyw301] at M5 T1 M6 M8 KO Hrg ⊢
                have kq : Below w.heap.size w yw301 := by rw [hwyw301]; exact HB.out
                clear HB; have HB := Lib.hid kq; clear kq hwyw301
                refine go_take2 0 52 #[tt,ff,ff,ff,ff,ff,ff,ff] rfl rfl rfl (by kernel_rfl) (yieldsIf_load1 (by rfl) 111 _ rfl (B5) rfl (.func (.func 92) #[.agg (e4 d)] #[]) _ (fun _ h => Has.one (h.1)) Try.underlying111 rfl) (⟨M5.out, M8.out, M6.out, Hrg.out⟩) ?_
                (try simp only [sI, sS, sZ])
                refine go_take2 1 53 #[tt,tt,ff,ff,ff,ff,ff,ff] rfl rfl rfl (by kernel_rfl) (yieldsIf_load_row (by rfl) 53 _ rfl (B8) rfl 53 (pt x7 y7 z7 b7) (fun _ h => h.2.1) Try.underlying53 rfl (by rw [pt_size]; kernel_rfl)) (⟨M5.out, M8.out, M6.out, Hrg.out⟩) ?_
                (try simp only [sI, sS, sZ])
                refine go_take2 2 54 #[tt,tt,tt,ff,ff,ff,ff,ff] rfl rfl rfl (by kernel_rfl) (yieldsIf_load1 (by rfl) 113 _ rfl (B6) rfl (.slice (some ⟨TB, 0, none⟩) 16 16) _ (fun _ h => Has.one (h.2.2.1)) Try.underlying113 rfl) (⟨M5.out, M8.out, M6.out, Hrg.out⟩) ?_
                (try simp only [sI, sS, sZ])
                refine go_take2 3 55 #[tt,tt,tt,tt,ff,ff,ff,ff] (v := ?uv5) rfl rfl rfl (by kernel_rfl) (Or.inl ⟨by rfl, ?uy5⟩) (⟨M5.out, M8.out, M6.out, Hrg.out⟩) ?urest5
                case uy5 => (intro _ _; go_simp; try with_reducible rfl)
                (try simp only [sI, sS, sZ])
                refine go_take2 4 56 #[tt,tt,tt,tt,tt,ff,ff,ff] rfl rfl rfl (by kernel_rfl) (idx53 (by rfl) _ _ rfl (TB) _ _ rfl _ _ (by rfl) (r2) (rfl) (by omega) (r2 * 13) (rfl)) (⟨M5.out, M8.out, M6.out, Hrg.out⟩) ?_
                (try simp only [sI, sS, sZ])
                refine go_take2 5 57 #[tt,tt,tt,tt,tt,tt,ff,ff] rfl rfl rfl (by kernel_rfl) (yieldsIf_loadm (by rfl) 53 _ rfl (TB) (r2 * 13) rfl (ptl x1 y1 z1 b1) (pt x1 y1 z1 b1) (ptl_arr ..) (fun _ h => Rng.at_ (h.2.2.2)) _ Try.underlying53 rfl (by rw [ptl_len]; kernel_rfl)) (⟨M5.out, M8.out, M6.out, Hrg.out⟩) ?_
                (try simp only [sI, sS, sZ])
                refine wpBut_r1 (i := 6) (by kernel_rfl) ?_
                refine go_callB 6 58 #[tt,tt,tt,tt,tt,tt,tt,ff] rfl rfl rfl (by rfl) rfl rfl (by rfl) ent92 (by rfl) (sum_pta d hd hdr x7 y7 z7 b7 _ Hq7.out x1 y1 z1 b1 _ Hq1.out _) ?_
                rintro e uw301 ⟨x8, y8, z8, b8, hq8, rfl, hb⟩
                replace M5 := Lib.hid (M5.out.call hb)
                replace T1 := Lib.hid (T1.out.call hb)
                replace M6 := Lib.hid (M6.out.call hb)
                replace M8 := Lib.hid (M8.out.call hb)
                replace KO := Lib.hid (KO.out.call hb)
                replace Hrg := Lib.hid (Hrg.out.call hb)
                replace HB := Lib.hid (held_next HB.out hb)
                rw [← fld.mul_add p Hop.out] at hq8
                have Hq8 := Lib.hid hq8; clear hq8
                refine ⟨_, rfl, fun _ => ⟨M5.out, M8.out, M6.out, Hrg.out⟩, ?_⟩
                clear hb
                (try simp only [sI, sS, sZ])
                refine wpBut_r1 (i := 7) (by kernel_rfl) ?_
                first | (obtain ⟨Zq, hZ, mZ⟩ := M8.out) | (obtain ⟨Zq, hZ, mZ⟩ := M8.out.toN (pt_size ..))
                refine go_store2 7 #[tt,tt,tt,tt,tt,tt,tt,tt] rfl rfl rfl (by rfl) 53 _ _ rfl (B8) (pt x8 y8 z8 b8) rfl rfl 53 Zq mZ (by rw [pt_size]; kernel_rfl) (hZ.trans (pt_size ..).symm) (pt_one _ _ _ _) ?_
                intro yw302 hw2
                replace M5 := Lib.hid (M5.out.setRow_other (B8) (pt x8 y8 z8 b8) (by omega))
                replace T1 := Lib.hid (T1.out.setRow_other (B8) (pt x8 y8 z8 b8) (by omega))
                replace M6 := Lib.hid (M6.out.setRow_other (B8) (pt x8 y8 z8 b8) (by omega))
                replace KO := Lib.hid (KO.out.setRow_other (B8) (pt x8 y8 z8 b8) (by omega))
                replace Hrg := Lib.hid (Hrg.out.setRow_other (B8) (pt x8 y8 z8 b8) (by omega))
                replace M8 := Lib.hid (mZ.setRow (pt x8 y8 z8 b8))
                replace HB := Lib.hid (below_setRow HB.out (B8) (pt x8 y8 z8 b8) (by omega))
                rw [← hw2] at M5 T1 M6 KO Hrg M8 HB; clear mZ hZ hw2
                refine ⟨fun h => (h rfl).elim, ?_⟩
                (try simp only [sI, sS, sZ])
                refine wpBut_done (by kernel_rfl) (NoPanic.normal ?_)
                clear Hrg
                repeat ((fail_if_success (with_reducible (show wpListIn _ _ _ _ _ _ _ _))); gi_step)
                refine wpr_lit (by kernel_rfl) ?_
                iterate 2 (refine wpList_step (fun K hK => ?_); go_simp; (try go_bits); refine hK _ _ ?_; clear hK K)
                refine wpList_nil ?_
                go_roundw
                case measure => simp [intOf]
                case rel => exact ⟨_, _, _, _, _, _, _, _, _, _, _, _, _, _, _, _, _, _, _, ⟨2, x8, y8, z8, b8, by omega, rfl, by have h := Hq8.out; rw [Ha.out] at h; exact h, M8.out, M5.out, T1.out, M6.out, KO.out, HB.out⟩, rfl⟩
          · repeat ((fail_if_success (with_reducible (show wpListIn _ _ _ _ _ _ _ _))); gi_step)
            refine wpr_lit (by kernel_rfl) ?_
            (refine wpList_step (fun K hK => ?_); go_simp; (try go_bits); refine hK _ _ ?_; clear hK K)
            refine wpList_nil ?_
            repeat ((fail_if_success (with_reducible (show wpListIn _ _ _ _ _ _ _ _))); gi_step)
            refine ⟨KO.out.others HW8.out, KO.out.keep2 (by omega) (by omega) hlW (by omega), _, ⟨x6, y6, z6, b6, rfl, ?_⟩, M8.out, But.trans Hb8.out KO.out⟩
            have h := hq6
            rw [Hsn.out, show 256 * V + q = 16 * (16 * V + r1) + r2 by rw [Hrq.out]; omega]
            exact h
      case done =>
        rintro D xs W hD rfl ⟨c, ⟨x2, y2, z2, b2, rfl, hq2⟩, m8, hb8⟩ hK
        rw [vl_all n Hn.out] at hq2
        have m4 := M4.out.but hb8 (by omega)
        have hB := below_but HB.out hb8 (by omega) HB.out.size
        have gD : B8 < D := by omega
        have hD2 : DefAt W D := hK
        clear hf hz hI hst hlS hl3 hl8 hl8b M2 M3 M4 M5 T M6 M8 MS HB hK hb8
        have M4 := Lib.hid m4; clear m4
        have HB := Lib.hid hB; clear hB
        have M8 := Lib.hid m8; clear m8
        have HD2 := Lib.hid hD2; clear hD2
        have Hq2 := Lib.hid hq2; clear hq2
        repeat ((fail_if_success (with_reducible (show wpList _ _ _ _ _ _))); go_step)
        refine wpList_load (by rfl) 53 _ rfl (B8) rfl 53 (pt x2 y2 z2 b2) M8.out Try.underlying53 rfl (by rw [pt_size]; kernel_rfl) 60 rfl ?_
        (try simp only [Act.put, sI, sS, sZ])
        first | (obtain ⟨Zq, hZ, mZ⟩ := M4.out) | (obtain ⟨Zq, hZ, mZ⟩ := M4.out.toN (pt_size ..))
        refine wpList_store2 (by rfl) 53 _ _ rfl rfl (w.heap.size + 1 + 1) (pt x2 y2 z2 b2) rfl rfl 53 Zq mZ (by rw [pt_size]; kernel_rfl) (hZ.trans (pt_size ..).symm) (pt_one _ _ _ _) ?_
        intro yw201 hw2
        replace M8 := Lib.hid (M8.out.setRow_other (w.heap.size + 1 + 1) (pt x2 y2 z2 b2) (by omega))
        replace HD2 := Lib.hid (HD2.out.setRow_other (w.heap.size + 1 + 1) (pt x2 y2 z2 b2) (by omega))
        replace M4 := Lib.hid (mZ.setRow (pt x2 y2 z2 b2))
        replace HB := Lib.hid (below_setRow HB.out (w.heap.size + 1 + 1) (pt x2 y2 z2 b2) (by omega))
        rw [← hw2] at M8 HD2 M4 HB; clear mZ hZ hw2
        refine wpList_nil ?_
        repeat ((fail_if_success (with_reducible (show wpList _ _ _ _ _ _))); go_step)
        refine ⟨by simp, .inl ⟨_, _, rfl, run_takeDeferred HD2.out, ?_⟩⟩
        have m4' := M4.out.putObj (D := D) (.deferred none) (by omega)
        have hBD : Below w.heap.size w (World.putObj yw201 D (.deferred none)) := HB.out.trans (belowK_b (w := w) (Nat.le_refl _) _ D _ _ (by omega) HD2.out rfl rfl)
        refine ⟨.agg (pt x2 y2 z2 b2), results_cell_row (t := 53) (by rfl) _ _ (w.heap.size + 1 + 1) _ _ _ rfl m4' Try.underlying53 rfl (by rw [pt_size]; kernel_rfl), x2, y2, z2, b2, Hq2.out, rfl, hBD⟩
end Go.Proofs.Ytjiagjonlcadiaa
end
section
namespace Go.Proofs.Ytjiagjonlcadiaa
open Go.RowKit Go.Lib

theorem cx_def (Y sq e1 e2 e3 C : Nat) (h1 : sq = Y * Y % PP) (h2 : e1 = (sq + (PP - 1)) % PP) (h3 : e2 = SL * sq % PP) (h4 : e3 = (e2 + 1) % PP) (h5 : C = e1 * pwm e3 (PP - 2) % PP) : cx Y = C := by
  unfold cx; rw [h5, h2, h4, h3, h1]
set_option maxRecDepth 100000 in
set_option linter.unusedSimpArgs false in
set_option maxHeartbeats 16000000 in
theorem rofp_any (n : Nat) (hn : n < 115792089237316195423570985008687907853269984665640564039457584007913129639936) (w : World) :
    Calls Try.prog 48 #[.agg (k32 n)] w fun e w' => e = .returned (.tuple #[.agg (rp (cof n).2.1 (cof n).2.2 1 ((cof n).2.1 * (cof n).2.2 % PP)), .bool (cof n).1]) ∧ Below w.heap.size w w' := by
  obtain ⟨c, hc, hcl, hcq, hcd⟩ := dg31_any n hn
  have hclr := key_clear n c hcd ((c % 128 : Nat) : Int) rfl
  have htm := tm_128 c
  have hyes := cof_yes n
  have hno := cof_no n
  have hl0 := m255_lt n
  have hro := fun w => rof_any n w
  have hq2 : n / 57896044618658097711785492504343953926634992332820282019728792003956564819968 = 0 ∨ n / 57896044618658097711785492504343953926634992332820282019728792003956564819968 = 1 := by omega
  have htd := td_128 c
  rw [hcq] at htd
  have hev : ∀ q, n / 57896044618658097711785492504343953926634992332820282019728792003956564819968 = q → (n % 57896044618658097711785492504343953926634992332820282019728792003956564819968 < PP → cof n = bes (cx (n % 57896044618658097711785492504343953926634992332820282019728792003956564819968)) (decide (q = 0)) (n % 57896044618658097711785492504343953926634992332820282019728792003956564819968)) := fun q h => by rw [← h]; exact hyes
  obtain ⟨n0, hn0⟩ : ∃ m, m = n % 57896044618658097711785492504343953926634992332820282019728792003956564819968 := ⟨_, rfl⟩
  have hmm : n0 % 57896044618658097711785492504343953926634992332820282019728792003956564819968 = n0 := by rw [hn0, Nat.mod_mod]
  have hro := fun w => rof_any n0 w
  rw [show (2 : Nat) ^ 255 = 57896044618658097711785492504343953926634992332820282019728792003956564819968 by decide +kernel, hmm] at hro
  rw [← hn0] at hclr hno hl0 hev
  obtain ⟨A, hA⟩ : ∃ A, A = n0 % PP := ⟨_, rfl⟩
  rw [← hA] at hro
  have hAl : A < PP := by rw [hA]; exact Nat.mod_lt _ PP_pos
  have hrk := fun w => rkey_any A (PP_256 A hAl) w
  have horg := rorigin_any
  obtain ⟨c2, hc2⟩ : ∃ c2 : Nat, c2 = c % 128 := ⟨_, rfl⟩
  rw [← hc2] at htm hclr
  obtain ⟨R, hR⟩ : ∃ R, R = cof n := ⟨_, rfl⟩
  rw [← hR] at hno hev ⊢
  clear hR hc2 hn0 hmm hcq hcd hyes
  rcases hq2 with hq | hq
  · have hyes := hev 0 hq
    rw [decide_eq_true rfl] at hyes
    rw [hq] at htd
    have htd : (c : Int).tdiv 128 = 0 := htd
    clear hq hev
    have Hclr := Lib.hid hclr; clear hclr
    have Hyes := Lib.hid hyes; clear hyes
    have Hno := Lib.hid hno; clear hno
    have Hro := Lib.hid hro; clear hro
    have Hrk := Lib.hid hrk; clear hrk
    have Hc := Lib.hid hc; clear hc
    have Hl0 := Lib.hid hl0; clear hl0
    have HA := Lib.hid hA; clear hA
    have HAl := Lib.hid hAl; clear hAl
    have Horg := Lib.hid horg; clear horg
    go_enter Try.func48, Try.ntmps48
    repeat ((fail_if_success (with_reducible (show wpList _ _ _ _ _ _))); go_step)
    iterate 3 (refine wpList_step (fun K hK => ?_); go_simp; (try go_bits); refine hK _ _ ?_; clear hK K)
    refine wpList_nil ?_
    have M1 := Lib.hid ((Has.new w  (k32 n) 24).alloc (.cells Try.zeroCells57 57))
    have M2 := Lib.hid (HasN.new1 w (.cells (k32 n) 24) Try.zeroCells57 57 88 (by kernel_rfl))
    have HB := Lib.hid (below_2 w (.cells (k32 n) 24) (.cells Try.zeroCells57 57))
    obtain ⟨yw1, hwyw1⟩ : ∃ ww, ww = ((w.alloc (.cells (k32 n) 24)).alloc (.cells Try.zeroCells57 57)) := ⟨_, rfl⟩
    rw [← hwyw1] at M1 M2 HB ⊢
    clear hwyw1
    have h1 := M1.out.cell 31 (by omega)
    rw [Hc.out] at h1
    have hfz := M1.out.frozen 31
    repeat ((fail_if_success (with_reducible (show wpList _ _ _ _ _ _))); go_step)
    iterate 4 (refine wpList_step (fun K hK => ?_); go_simp; (try go_bits); refine hK _ _ ?_; clear hK K)
    refine wpList_nil ?_
    repeat ((fail_if_success (with_reducible (show wpList _ _ _ _ _ _))); go_step)
    iterate 5 (refine wpList_step (fun K hK => ?_); go_simp; (try go_bits); refine hK _ _ ?_; clear hK K)
    refine wpList_nil ?_
    clear h1 hfz
    have kq := M1.out.set 31 ((c2 : Int)); rw [Hclr.out] at kq; clear M1; have M1 := Lib.hid kq; clear kq
    have kq := M2.out.other ⟨w.heap.size, 31, none⟩ (.int .u8 ((c2 : Int))) (by simp <;> omega); clear M2; have M2 := Lib.hid kq; clear kq
    replace HB := Lib.hid (HB.out.setCell (p := ⟨w.heap.size, 31, none⟩) (show w.heap.size ≤ w.heap.size by omega) (.int .u8 ((c2 : Int))))
    obtain ⟨yw2, hwyw2⟩ : ∃ ww, ww = yw1.setCell ⟨w.heap.size, 31, none⟩ (.int .u8 ((c2 : Int))) := ⟨_, rfl⟩
    rw [← hwyw2] at M1 M2 HB ⊢
    clear hwyw2
    clear htd htm hcl
    repeat ((fail_if_success (with_reducible (show wpList _ _ _ _ _ _))); go_step)
    refine wpList_load (by rfl) 24 _ rfl (w.heap.size) rfl 24 (k32 n0) M1.out Try.underlying24 rfl (by rw [k32_size]; kernel_rfl) 17 rfl ?_
    (try simp only [Act.put, sI, sS, sZ])
    refine wpList_call (by rfl) rfl rfl (by rfl) ent33 (by rfl) (Hro.out _) 18 rfl ?_
    rintro e uw1 ⟨rfl, hb⟩
    replace M1 := Lib.hid (M1.out.call hb)
    replace M2 := Lib.hid (M2.out.call hb)
    replace HB := Lib.hid (held_next HB.out hb)
    refine ⟨_, rfl, ?_⟩
    clear hb
    (try simp only [Act.put, sI, sS, sZ])
    refine wpList_alloc (by rfl) 40 rfl _ al40 5 rfl ?_
    intro yw3 hw2
    have hlt4 := M1.out.lt
    have hlt5 := M2.out.lt
    have hsz := HB.out.size
    replace M1 := Lib.hid (M1.out.alloc (.cells z40 40))
    replace M2 := Lib.hid (M2.out.alloc (.cells z40 40))
    have M5 := Lib.hid (HasN.new uw1 z40 40 22 (by kernel_rfl))
    replace HB := Lib.hid (HB.out.alloc hsz (.cells z40 40))
    rw [← hw2] at M1 M2 M5 HB; clear hw2
    (try simp only [Act.put, sI, sS, sZ])
    first | (obtain ⟨Zq, hZ, mZ⟩ := M5.out) | (obtain ⟨Zq, hZ, mZ⟩ := M5.out.toN (r22_size ..))
    refine wpList_store2 (by rfl) 40 _ _ rfl rfl (uw1.heap.size) (r22 A) rfl rfl 40 Zq mZ (by rw [r22_size]; kernel_rfl) (hZ.trans (r22_size ..).symm) (row_one _ _ _) ?_
    intro yw6 hw2
    replace M1 := Lib.hid (M1.out.setRow_other (uw1.heap.size) (r22 A) (by omega))
    replace M2 := Lib.hid (M2.out.setRow_other (uw1.heap.size) (r22 A) (by omega))
    replace M5 := Lib.hid (mZ.setRow (r22 A))
    replace HB := Lib.hid (below_setRow HB.out (uw1.heap.size) (r22 A) (by omega))
    rw [← hw2] at M1 M2 M5 HB; clear mZ hZ hw2
    refine wpList_nil ?_
    repeat ((fail_if_success (with_reducible (show wpList _ _ _ _ _ _))); go_step)
    by_cases hlt : n0 < PP
    · have hAn : A = n0 := by rw [HA.out]; exact Nat.mod_eq_of_lt hlt
      have M5' := M5.out; rw [hAn] at M5'; clear M5; have M5 := Lib.hid M5'; clear M5'
      have hrk2 := Hrk.out; rw [hAn] at hrk2; clear Hrk; have Hrk := Lib.hid hrk2; clear hrk2
      have heq := fun w => k32_same n0 Hl0.out w
      have hcof := Hyes.out hlt
      clear hAn
      have Hlt := Lib.hid hlt; clear hlt
      have Hcof := Lib.hid hcof; clear hcof
      refine wp_region_noPanic ?_
      refine wp_region_go 99 4 #[false, false, false, false] (by kernel_rfl) rfl rfl ?_
      intro W7 hW7
      rw [← hW7] at M1 M2 M5 HB
      clear hW7
      refine go_take2 0 19 #[true, false, false, false] rfl rfl rfl (by kernel_rfl) (yieldsIf_load_row (by rfl) 40 _ rfl (uw1.heap.size) rfl 40 (r22 n0) (fun _ h => M5.out.below h M5.out.lt) Try.underlying40 rfl (by rw [r22_size]; kernel_rfl)) ((below_dr W7)) ?_
      (try simp only [sI, sS, sZ])
      refine go_take2 2 21 #[true, false, true, false] rfl rfl rfl (by kernel_rfl) (yieldsIf_load_row (by rfl) 24 _ rfl (w.heap.size) rfl 24 (k32 n0) (fun _ h => M1.out.below h M1.out.lt) Try.underlying24 rfl (by rw [k32_size]; kernel_rfl)) ((below_dr W7)) ?_
      (try simp only [sI, sS, sZ])
      refine wpBut_r1 (i := 1) (by kernel_rfl) ?_
      refine go_call 1 20 #[true, true, true, false] rfl rfl rfl (by rfl) rfl rfl (by rfl) ent74 (by rfl) (Hrk.out _) ?_
      rintro e wW71 ⟨rfl, hb⟩
      have hkW71 := held_next (below_dr W7) hb
      refine ⟨_, rfl, fun _ => hkW71, ?_⟩
      clear hb
      (try simp only [sI, sS, sZ])
      refine go_take2 3 22 #[true, true, true, true] (v := ?uv2) rfl rfl rfl (by kernel_rfl) (Or.inl ⟨by rfl, ?uy2⟩) (hkW71) ?urest2
      case uy2 => (intro _ _; go_simp; try with_reducible rfl)
      (try simp only [sI, sS, sZ])
      refine wpBut_done (by kernel_rfl) (NoPanic.normal ?_)
      replace M1 := Lib.hid (M1.out.call hkW71)
      replace M2 := Lib.hid (M2.out.call hkW71)
      replace M5 := Lib.hid (M5.out.call hkW71)
      replace HB := Lib.hid (held_next HB.out hkW71)
      clear heq
      repeat ((fail_if_success (with_reducible (show wpList _ _ _ _ _ _))); go_step)
      have hint := fun w => rint_nn 1 (by decide) w
      rw [one_PP] at hint
      have ht1 := fun w => rtimes_any n0 n0 Hlt.out Hlt.out w
      obtain ⟨sq, hsq⟩ : ∃ s, s = n0 * n0 % PP := ⟨_, rfl⟩
      rw [← hsq] at ht1
      have hsql : sq < PP := by rw [hsq]; exact Nat.mod_lt _ PP_pos
      have h1l : 1 < PP := by have := PP_val; omega
      have hm1 := fun w => rminus_any sq 1 hsql h1l w
      obtain ⟨e1, he1⟩ : ∃ s, s = (sq + (PP - 1)) % PP := ⟨_, rfl⟩
      rw [← he1] at hm1
      have he1l : e1 < PP := by rw [he1]; exact Nat.mod_lt _ PP_pos
      have ht2 := fun w => rtimes_any SL sq SL_lt hsql w
      obtain ⟨e2, he2⟩ : ∃ s, s = SL * sq % PP := ⟨_, rfl⟩
      rw [← he2] at ht2
      have he2l : e2 < PP := by rw [he2]; exact Nat.mod_lt _ PP_pos
      have hp1 := fun w => rplus_any e2 1 (PPr_22 _ he2l) (PPr_22 _ h1l) w
      obtain ⟨e3, he3⟩ : ∃ s, s = (e2 + 1) % PP := ⟨_, rfl⟩
      rw [← he3] at hp1
      have he3l : e3 < PP := by rw [he3]; exact Nat.mod_lt _ PP_pos
      have ho1 := fun w => rover_any e1 e3 he1l he3l w
      obtain ⟨C, hC⟩ : ∃ s, s = e1 * pwm e3 (PP - 2) % PP := ⟨_, rfl⟩
      rw [← hC] at ho1
      have hCl : C < PP := by rw [hC]; exact Nat.mod_lt _ PP_pos
      have hcc := cx_def n0 sq e1 e2 e3 C hsq he1 he2 he3 hC
      have hrr := fun w => rroot_any C hCl w
      have hcof2 := Hcof.out
      rw [hcc] at hcof2
      clear Hcof
      have Hcof := Lib.hid hcof2; clear hcof2 hcc hCl hC he3l he3 he2l he2 he1l he1 hsql hsq h1l
      obtain ⟨ok, hok⟩ : ∃ ok, ok = rtok C := ⟨_, rfl⟩
      obtain ⟨R3, hR3⟩ : ∃ R, R = rt3 C := ⟨_, rfl⟩
      have hR3l : R3 < PP := by rw [hR3]; exact rt3_lt C
      rw [← hok, ← hR3] at hrr
      have Hint := Lib.hid hint; clear hint
      have Ht1 := Lib.hid ht1; clear ht1
      have Hm1 := Lib.hid hm1; clear hm1
      have Ht2 := Lib.hid ht2; clear ht2
      have Hp1 := Lib.hid hp1; clear hp1
      have Ho1 := Lib.hid ho1; clear ho1
      have Hrr := Lib.hid hrr; clear hrr
      have Hok := Lib.hid hok; clear hok
      have HR3 := Lib.hid hR3; clear hR3
      have HR3l := Lib.hid hR3l; clear hR3l
      refine wpList_call (by rfl) rfl rfl (by rfl) ent35 (by rfl) (Hint.out _) 24 rfl ?_
      rintro e uw2 ⟨rfl, hb⟩
      replace M1 := Lib.hid (M1.out.call hb)
      replace M2 := Lib.hid (M2.out.call hb)
      replace M5 := Lib.hid (M5.out.call hb)
      replace HB := Lib.hid (held_next HB.out hb)
      refine ⟨_, rfl, ?_⟩
      clear hb
      (try simp only [Act.put, sI, sS, sZ])
      refine wpList_alloc (by rfl) 40 rfl _ al40 6 rfl ?_
      intro yw8 hw2
      have hlt9 := M1.out.lt
      have hlt10 := M2.out.lt
      have hlt11 := M5.out.lt
      have hsz := HB.out.size
      replace M1 := Lib.hid (M1.out.alloc (.cells z40 40))
      replace M2 := Lib.hid (M2.out.alloc (.cells z40 40))
      replace M5 := Lib.hid (M5.out.alloc (.cells z40 40))
      have M6 := Lib.hid (HasN.new uw2 z40 40 22 (by kernel_rfl))
      replace HB := Lib.hid (HB.out.alloc hsz (.cells z40 40))
      rw [← hw2] at M1 M2 M5 M6 HB; clear hw2
      (try simp only [Act.put, sI, sS, sZ])
      first | (obtain ⟨Zq, hZ, mZ⟩ := M6.out) | (obtain ⟨Zq, hZ, mZ⟩ := M6.out.toN (r22_size ..))
      refine wpList_store2 (by rfl) 40 _ _ rfl rfl (uw2.heap.size) (r22 1) rfl rfl 40 Zq mZ (by rw [r22_size]; kernel_rfl) (hZ.trans (r22_size ..).symm) (row_one _ _ _) ?_
      intro yw12 hw2
      replace M1 := Lib.hid (M1.out.setRow_other (uw2.heap.size) (r22 1) (by omega))
      replace M2 := Lib.hid (M2.out.setRow_other (uw2.heap.size) (r22 1) (by omega))
      replace M5 := Lib.hid (M5.out.setRow_other (uw2.heap.size) (r22 1) (by omega))
      replace M6 := Lib.hid (mZ.setRow (r22 1))
      replace HB := Lib.hid (below_setRow HB.out (uw2.heap.size) (r22 1) (by omega))
      rw [← hw2] at M1 M2 M5 M6 HB; clear mZ hZ hw2
      refine wpList_nil ?_
      repeat ((fail_if_success (with_reducible (show wpList _ _ _ _ _ _))); go_step)
      refine wpList_load (by rfl) 40 _ rfl (uw1.heap.size) rfl 40 (r22 n0) M5.out Try.underlying40 rfl (by rw [r22_size]; kernel_rfl) 25 rfl ?_
      (try simp only [Act.put, sI, sS, sZ])
      refine wpList_load (by rfl) 40 _ rfl (uw1.heap.size) rfl 40 (r22 n0) M5.out Try.underlying40 rfl (by rw [r22_size]; kernel_rfl) 26 rfl ?_
      (try simp only [Act.put, sI, sS, sZ])
      refine wpList_call (by rfl) rfl rfl (by rfl) ent32 (by rfl) (Ht1.out _) 27 rfl ?_
      rintro e uw3 ⟨rfl, hb⟩
      replace M1 := Lib.hid (M1.out.call hb)
      replace M2 := Lib.hid (M2.out.call hb)
      replace M5 := Lib.hid (M5.out.call hb)
      replace M6 := Lib.hid (M6.out.call hb)
      replace HB := Lib.hid (held_next HB.out hb)
      refine ⟨_, rfl, ?_⟩
      clear hb
      (try simp only [Act.put, sI, sS, sZ])
      refine wpList_alloc (by rfl) 40 rfl _ al40 7 rfl ?_
      intro yw13 hw2
      have hlt14 := M1.out.lt
      have hlt15 := M2.out.lt
      have hlt16 := M5.out.lt
      have hlt17 := M6.out.lt
      have hsz := HB.out.size
      replace M1 := Lib.hid (M1.out.alloc (.cells z40 40))
      replace M2 := Lib.hid (M2.out.alloc (.cells z40 40))
      replace M5 := Lib.hid (M5.out.alloc (.cells z40 40))
      replace M6 := Lib.hid (M6.out.alloc (.cells z40 40))
      have M7 := Lib.hid (HasN.new uw3 z40 40 22 (by kernel_rfl))
      replace HB := Lib.hid (HB.out.alloc hsz (.cells z40 40))
      rw [← hw2] at M1 M2 M5 M6 M7 HB; clear hw2
      (try simp only [Act.put, sI, sS, sZ])
      first | (obtain ⟨Zq, hZ, mZ⟩ := M7.out) | (obtain ⟨Zq, hZ, mZ⟩ := M7.out.toN (r22_size ..))
      refine wpList_store2 (by rfl) 40 _ _ rfl rfl (uw3.heap.size) (r22 sq) rfl rfl 40 Zq mZ (by rw [r22_size]; kernel_rfl) (hZ.trans (r22_size ..).symm) (row_one _ _ _) ?_
      intro yw18 hw2
      replace M1 := Lib.hid (M1.out.setRow_other (uw3.heap.size) (r22 sq) (by omega))
      replace M2 := Lib.hid (M2.out.setRow_other (uw3.heap.size) (r22 sq) (by omega))
      replace M5 := Lib.hid (M5.out.setRow_other (uw3.heap.size) (r22 sq) (by omega))
      replace M6 := Lib.hid (M6.out.setRow_other (uw3.heap.size) (r22 sq) (by omega))
      replace M7 := Lib.hid (mZ.setRow (r22 sq))
      replace HB := Lib.hid (below_setRow HB.out (uw3.heap.size) (r22 sq) (by omega))
      rw [← hw2] at M1 M2 M5 M6 M7 HB; clear mZ hZ hw2
      refine wpList_nil ?_
      repeat ((fail_if_success (with_reducible (show wpList _ _ _ _ _ _))); go_step)
      refine wp_region_meet (α := Nat) (fun W0 x w' => W0.heap.size ≤ x ∧ Has w' x (r22 R3) 40 ∧ Below W0.heap.size W0 w') (fun ac x => (((((((((((((((ac.put (some 29) (.agg (r22 sq))).put (some 30) (.agg (r22 1))).put (some 31) (.agg (r22 e1))).put (some 32) (.agg (r22 SL))).put (some 33) (.agg (r22 sq))).put (some 34) (.agg (r22 e2))).put (some 35) (.agg (r22 1))).put (some 36) (.agg (r22 e3))).put (some 37) (.agg (r22 C))).put (some 38) (.tuple #[.agg (r22 R3), .bool ok])).put (some 28) (.tuple #[.agg (r22 R3), .bool ok])).put (some 39) (.agg (r22 R3))).put (some 40) (.bool ok)).put (some 9) (.bool ok)).put (some 8) (.pointer (some ⟨x, 0, none⟩)))) ?_ ?_
      · intro Q' hQ'
        refine wp_region_noPanic ?_
        refine wp_region_go 99 16 #[ff,ff,ff,ff,ff,ff,ff,ff,ff,ff,ff,ff,ff,ff,ff,ff] (by kernel_rfl) rfl rfl ?_
        intro W19 hW19
        rw [← hW19] at hQ'
        simp only [Act.put, List.setIfInBounds_toArray, List.set_cons_succ, List.set_cons_zero] at hQ'
        have HQ := Lib.hid hQ'; clear hQ'
        rw [← hW19] at M1 M2 M5 M6 M7 HB
        clear hW19
        refine go_take2 0 29 #[tt,ff,ff,ff,ff,ff,ff,ff,ff,ff,ff,ff,ff,ff,ff,ff] rfl rfl rfl (by kernel_rfl) (yieldsIf_load_row (by rfl) 40 _ rfl (uw3.heap.size) rfl 40 (r22 sq) (fun _ h => M7.out.below h M7.out.lt) Try.underlying40 rfl (by rw [r22_size]; kernel_rfl)) ((below_dr W19)) ?_
        (try simp only [sI, sS, sZ])
        refine go_take2 1 30 #[tt,tt,ff,ff,ff,ff,ff,ff,ff,ff,ff,ff,ff,ff,ff,ff] rfl rfl rfl (by kernel_rfl) (yieldsIf_load_row (by rfl) 40 _ rfl (uw2.heap.size) rfl 40 (r22 1) (fun _ h => M6.out.below h M6.out.lt) Try.underlying40 rfl (by rw [r22_size]; kernel_rfl)) ((below_dr W19)) ?_
        (try simp only [sI, sS, sZ])
        refine go_take2 4 33 #[tt,tt,ff,ff,tt,ff,ff,ff,ff,ff,ff,ff,ff,ff,ff,ff] rfl rfl rfl (by kernel_rfl) (yieldsIf_load_row (by rfl) 40 _ rfl (uw3.heap.size) rfl 40 (r22 sq) (fun _ h => M7.out.below h M7.out.lt) Try.underlying40 rfl (by rw [r22_size]; kernel_rfl)) ((below_dr W19)) ?_
        (try simp only [sI, sS, sZ])
        refine go_take2 6 35 #[tt,tt,ff,ff,tt,ff,tt,ff,ff,ff,ff,ff,ff,ff,ff,ff] rfl rfl rfl (by kernel_rfl) (yieldsIf_load_row (by rfl) 40 _ rfl (uw2.heap.size) rfl 40 (r22 1) (fun _ h => M6.out.below h M6.out.lt) Try.underlying40 rfl (by rw [r22_size]; kernel_rfl)) ((below_dr W19)) ?_
        (try simp only [sI, sS, sZ])
        refine wpBut_r2 (i := 2) (j := 13) (by kernel_rfl) ?_ ?_
        refine go_call 2 31 #[tt,tt,tt,ff,tt,ff,tt,ff,ff,ff,ff,ff,ff,ff,ff,ff] rfl rfl rfl (by rfl) rfl rfl (by rfl) ent40 (by rfl) (Hm1.out _) ?_
        rintro e wW191 ⟨rfl, hb⟩
        have hkW191 := held_next (below_dr W19) hb
        refine ⟨_, rfl, fun _ => hkW191, ?_⟩
        clear hb
        (try simp only [sI, sS, sZ])
        refine wpBut_r2 (i := 3) (j := 13) (by kernel_rfl) ?_ ?_
        refine go_call 3 32 #[tt,tt,tt,tt,tt,ff,tt,ff,ff,ff,ff,ff,ff,ff,ff,ff] rfl rfl rfl (by rfl) rfl rfl (by rfl) ent89 (by rfl) (rslope_any _) ?_
        rintro e wW192 ⟨rfl, hb⟩
        have hkW192 := held_next hkW191 hb
        refine ⟨_, rfl, fun _ => hkW192, ?_⟩
        clear hb
        (try simp only [sI, sS, sZ])
        refine wpBut_r2 (i := 5) (j := 13) (by kernel_rfl) ?_ ?_
        refine go_call 5 34 #[tt,tt,tt,tt,tt,tt,tt,ff,ff,ff,ff,ff,ff,ff,ff,ff] rfl rfl rfl (by rfl) rfl rfl (by rfl) ent32 (by rfl) (Ht2.out _) ?_
        rintro e wW193 ⟨rfl, hb⟩
        have hkW193 := held_next hkW192 hb
        refine ⟨_, rfl, fun _ => hkW193, ?_⟩
        clear hb
        (try simp only [sI, sS, sZ])
        refine wpBut_r2 (i := 7) (j := 13) (by kernel_rfl) ?_ ?_
        refine go_call 7 36 #[tt,tt,tt,tt,tt,tt,tt,tt,ff,ff,ff,ff,ff,ff,ff,ff] rfl rfl rfl (by rfl) rfl rfl (by rfl) ent38 (by rfl) (Hp1.out _) ?_
        rintro e wW194 ⟨rfl, hb⟩
        have hkW194 := held_next hkW193 hb
        refine ⟨_, rfl, fun _ => hkW194, ?_⟩
        clear hb
        (try simp only [sI, sS, sZ])
        refine wpBut_r2 (i := 8) (j := 13) (by kernel_rfl) ?_ ?_
        refine go_call 8 37 #[tt,tt,tt,tt,tt,tt,tt,tt,tt,ff,ff,ff,ff,ff,ff,ff] rfl rfl rfl (by rfl) rfl rfl (by rfl) ent43 (by rfl) (Ho1.out _) ?_
        rintro e wW195 ⟨rfl, hb⟩
        have hkW195 := held_next hkW194 hb
        refine ⟨_, rfl, fun _ => hkW195, ?_⟩
        clear hb
        (try simp only [sI, sS, sZ])
        refine wpBut_r2 (i := 9) (j := 13) (by kernel_rfl) ?_ ?_
        refine go_call 9 38 #[tt,tt,tt,tt,tt,tt,tt,tt,tt,tt,ff,ff,ff,ff,ff,ff] rfl rfl rfl (by rfl) rfl rfl (by rfl) ent45 (by rfl) (Hrr.out _) ?_
        rintro e wW196 ⟨rfl, hb⟩
        have hkW196 := held_next hkW195 hb
        refine ⟨_, rfl, fun _ => hkW196, ?_⟩
        clear hb
        (try simp only [sI, sS, sZ])
        refine go_take2 10 28 #[tt,tt,tt,tt,tt,tt,tt,tt,tt,tt,tt,ff,ff,ff,ff,ff] (v := ?uv3) rfl rfl rfl (by kernel_rfl) (Or.inl ⟨by rfl, ?uy3⟩) (hkW196) ?urest3
        case uy3 => (intro _ _; go_simp; try with_reducible rfl)
        (try simp only [sI, sS, sZ])
        refine go_take2 11 39 #[tt,tt,tt,tt,tt,tt,tt,tt,tt,tt,tt,tt,ff,ff,ff,ff] (v := ?uv4) rfl rfl rfl (by kernel_rfl) (Or.inl ⟨by rfl, ?uy4⟩) (hkW196) ?urest4
        case uy4 => (intro _ _; go_simp; try with_reducible rfl)
        (try simp only [sI, sS, sZ])
        refine go_take2 12 40 #[tt,tt,tt,tt,tt,tt,tt,tt,tt,tt,tt,tt,tt,ff,ff,ff] (v := ?uv5) rfl rfl rfl (by kernel_rfl) (Or.inl ⟨by rfl, ?uy5⟩) (hkW196) ?urest5
        case uy5 => (intro _ _; go_simp; try with_reducible rfl)
        (try simp only [sI, sS, sZ])
        refine wpBut_r1 (i := 13) (by kernel_rfl) ?_
        refine go_alloc 13 8 #[tt,tt,tt,tt,tt,tt,tt,tt,tt,tt,tt,tt,tt,tt,ff,ff] rfl rfl rfl (by rfl) 40 rfl _ al40 ?_
        intro wW197 hw2
        have hkW197 := (hkW196).alloc (hkW196).size (.cells z40 40)
        rw [← hw2] at hkW197
        have MA13 := Lib.hid (HasN.new (wW196) z40 40 22 (by kernel_rfl))
        rw [← hw2] at MA13
        have HA13 := Lib.hid (show W19.heap.size ≤ _ from (hkW196).size)
        clear hw2
        refine ⟨fun _ => hkW197, ?_⟩
        (try simp only [sI, sS, sZ])
        refine wpBut_r1 (i := 14) (by kernel_rfl) ?_
        obtain ⟨Zq, hZ, mZ⟩ := MA13.out
        refine go_store2 14 #[tt,tt,tt,tt,tt,tt,tt,tt,tt,tt,tt,tt,tt,tt,tt,ff] rfl rfl rfl (by rfl) 40 _ _ rfl _ _ rfl rfl 40 Zq mZ (by rw [r22_size]; kernel_rfl) (hZ.trans (r22_size ..).symm) (row_one _ _ _) ?_
        intro wW198 hw2
        have hkW198 := below_setRow (hkW197) _ (r22 R3) HA13.out
        rw [← hw2] at hkW198
        clear MA13
        have MA13 := Lib.hid (mZ.setRow (r22 R3))
        rw [← hw2] at MA13; clear mZ hZ hw2
        refine ⟨fun _ => hkW198, ?_⟩
        (try simp only [sI, sS, sZ])
        refine go_take2 15 9 #[tt,tt,tt,tt,tt,tt,tt,tt,tt,tt,tt,tt,tt,tt,tt,tt] (v := ?uv6) rfl rfl rfl (by kernel_rfl) (Or.inl ⟨by rfl, ?uy6⟩) (hkW198) ?urest6
        case uy6 => (intro _ _; go_simp; try with_reducible rfl)
        (try simp only [sI, sS, sZ])
        exact wpBut_done (by kernel_rfl) (NoPanic.normal (HQ.out (_) _ ⟨HA13.out, MA13.out, (hkW198)⟩))
        refine go_alloc 13 8 #[tt,tt,tt,tt,tt,tt,tt,tt,tt,ff,ff,ff,ff,tt,ff,ff] rfl rfl rfl (by rfl) 40 rfl _ al40 ?_
        intro wW196 hw2
        have hkW196 := (hkW195).alloc (hkW195).size (.cells z40 40)
        rw [← hw2] at hkW196
        have MA13 := Lib.hid (HasN.new (wW195) z40 40 22 (by kernel_rfl))
        rw [← hw2] at MA13
        have HA13 := Lib.hid (show W19.heap.size ≤ _ from (hkW195).size)
        clear hw2
        refine ⟨fun _ => hkW196, ?_⟩
        (try simp only [sI, sS, sZ])
        refine wpBut_r1 (i := 9) (by kernel_rfl) ?_
        refine go_call 9 38 #[tt,tt,tt,tt,tt,tt,tt,tt,tt,tt,ff,ff,ff,tt,ff,ff] rfl rfl rfl (by rfl) rfl rfl (by rfl) ent45 (by rfl) (Hrr.out _) ?_
        rintro e wW197 ⟨rfl, hb⟩
        have hkW197 := held_next hkW196 hb
        replace MA13 := Lib.hid (MA13.out.call hb)
        refine ⟨_, rfl, fun _ => hkW197, ?_⟩
        clear hb
        (try simp only [sI, sS, sZ])
        refine go_take2 10 28 #[tt,tt,tt,tt,tt,tt,tt,tt,tt,tt,tt,ff,ff,tt,ff,ff] (v := ?uv7) rfl rfl rfl (by kernel_rfl) (Or.inl ⟨by rfl, ?uy7⟩) (hkW197) ?urest7
        case uy7 => (intro _ _; go_simp; try with_reducible rfl)
        (try simp only [sI, sS, sZ])
        refine go_take2 11 39 #[tt,tt,tt,tt,tt,tt,tt,tt,tt,tt,tt,tt,ff,tt,ff,ff] (v := ?uv8) rfl rfl rfl (by kernel_rfl) (Or.inl ⟨by rfl, ?uy8⟩) (hkW197) ?urest8
        case uy8 => (intro _ _; go_simp; try with_reducible rfl)
        (try simp only [sI, sS, sZ])
        refine go_take2 12 40 #[tt,tt,tt,tt,tt,tt,tt,tt,tt,tt,tt,tt,tt,tt,ff,ff] (v := ?uv9) rfl rfl rfl (by kernel_rfl) (Or.inl ⟨by rfl, ?uy9⟩) (hkW197) ?urest9
        case uy9 => (intro _ _; go_simp; try with_reducible rfl)
        (try simp only [sI, sS, sZ])
        refine wpBut_r1 (i := 14) (by kernel_rfl) ?_
        obtain ⟨Zq, hZ, mZ⟩ := MA13.out
        refine go_store2 14 #[tt,tt,tt,tt,tt,tt,tt,tt,tt,tt,tt,tt,tt,tt,tt,ff] rfl rfl rfl (by rfl) 40 _ _ rfl _ _ rfl rfl 40 Zq mZ (by rw [r22_size]; kernel_rfl) (hZ.trans (r22_size ..).symm) (row_one _ _ _) ?_
        intro wW198 hw2
        have hkW198 := below_setRow (hkW197) _ (r22 R3) HA13.out
        rw [← hw2] at hkW198
        clear MA13
        have MA13 := Lib.hid (mZ.setRow (r22 R3))
        rw [← hw2] at MA13; clear mZ hZ hw2
        refine ⟨fun _ => hkW198, ?_⟩
        (try simp only [sI, sS, sZ])
        refine go_take2 15 9 #[tt,tt,tt,tt,tt,tt,tt,tt,tt,tt,tt,tt,tt,tt,tt,tt] (v := ?uv10) rfl rfl rfl (by kernel_rfl) (Or.inl ⟨by rfl, ?uy10⟩) (hkW198) ?urest10
        case uy10 => (intro _ _; go_simp; try with_reducible rfl)
        (try simp only [sI, sS, sZ])
        exact wpBut_done (by kernel_rfl) (NoPanic.normal (HQ.out (_) _ ⟨HA13.out, MA13.out, (hkW198)⟩))
        refine go_alloc 13 8 #[tt,tt,tt,tt,tt,tt,tt,tt,ff,ff,ff,ff,ff,tt,ff,ff] rfl rfl rfl (by rfl) 40 rfl _ al40 ?_
        intro wW195 hw2
        have hkW195 := (hkW194).alloc (hkW194).size (.cells z40 40)
        rw [← hw2] at hkW195
        have MA13 := Lib.hid (HasN.new (wW194) z40 40 22 (by kernel_rfl))
        rw [← hw2] at MA13
        have HA13 := Lib.hid (show W19.heap.size ≤ _ from (hkW194).size)
        clear hw2
        refine ⟨fun _ => hkW195, ?_⟩
        (try simp only [sI, sS, sZ])
        refine wpBut_r1 (i := 8) (by kernel_rfl) ?_
        refine go_call 8 37 #[tt,tt,tt,tt,tt,tt,tt,tt,tt,ff,ff,ff,ff,tt,ff,ff] rfl rfl rfl (by rfl) rfl rfl (by rfl) ent43 (by rfl) (Ho1.out _) ?_
        rintro e wW196 ⟨rfl, hb⟩
        have hkW196 := held_next hkW195 hb
        replace MA13 := Lib.hid (MA13.out.call hb)
        refine ⟨_, rfl, fun _ => hkW196, ?_⟩
        clear hb
        (try simp only [sI, sS, sZ])
        refine wpBut_r1 (i := 9) (by kernel_rfl) ?_
        refine go_call 9 38 #[tt,tt,tt,tt,tt,tt,tt,tt,tt,tt,ff,ff,ff,tt,ff,ff] rfl rfl rfl (by rfl) rfl rfl (by rfl) ent45 (by rfl) (Hrr.out _) ?_
        rintro e wW197 ⟨rfl, hb⟩
        have hkW197 := held_next hkW196 hb
        replace MA13 := Lib.hid (MA13.out.call hb)
        refine ⟨_, rfl, fun _ => hkW197, ?_⟩
        clear hb
        (try simp only [sI, sS, sZ])
        refine go_take2 10 28 #[tt,tt,tt,tt,tt,tt,tt,tt,tt,tt,tt,ff,ff,tt,ff,ff] (v := ?uv11) rfl rfl rfl (by kernel_rfl) (Or.inl ⟨by rfl, ?uy11⟩) (hkW197) ?urest11
        case uy11 => (intro _ _; go_simp; try with_reducible rfl)
        (try simp only [sI, sS, sZ])
        refine go_take2 11 39 #[tt,tt,tt,tt,tt,tt,tt,tt,tt,tt,tt,tt,ff,tt,ff,ff] (v := ?uv12) rfl rfl rfl (by kernel_rfl) (Or.inl ⟨by rfl, ?uy12⟩) (hkW197) ?urest12
        case uy12 => (intro _ _; go_simp; try with_reducible rfl)
        (try simp only [sI, sS, sZ])
        refine go_take2 12 40 #[tt,tt,tt,tt,tt,tt,tt,tt,tt,tt,tt,tt,tt,tt,ff,ff] (v := ?uv13) rfl rfl rfl (by kernel_rfl) (Or.inl ⟨by rfl, ?uy13⟩) (hkW197) ?urest13
        case uy13 => (intro _ _; go_simp; try with_reducible rfl)
        (try simp only [sI, sS, sZ])
        refine wpBut_r1 (i := 14) (by kernel_rfl) ?_
        obtain ⟨Zq, hZ, mZ⟩ := MA13.out
        refine go_store2 14 #[tt,tt,tt,tt,tt,tt,tt,tt,tt,tt,tt,tt,tt,tt,tt,ff] rfl rfl rfl (by rfl) 40 _ _ rfl _ _ rfl rfl 40 Zq mZ (by rw [r22_size]; kernel_rfl) (hZ.trans (r22_size ..).symm) (row_one _ _ _) ?_
        intro wW198 hw2
        have hkW198 := below_setRow (hkW197) _ (r22 R3) HA13.out
        rw [← hw2] at hkW198
        clear MA13
        have MA13 := Lib.hid (mZ.setRow (r22 R3))
        rw [← hw2] at MA13; clear mZ hZ hw2
        refine ⟨fun _ => hkW198, ?_⟩
        (try simp only [sI, sS, sZ])
        refine go_take2 15 9 #[tt,tt,tt,tt,tt,tt,tt,tt,tt,tt,tt,tt,tt,tt,tt,tt] (v := ?uv14) rfl rfl rfl (by kernel_rfl) (Or.inl ⟨by rfl, ?uy14⟩) (hkW198) ?urest14
        case uy14 => (intro _ _; go_simp; try with_reducible rfl)
        (try simp only [sI, sS, sZ])
        exact wpBut_done (by kernel_rfl) (NoPanic.normal (HQ.out (_) _ ⟨HA13.out, MA13.out, (hkW198)⟩))
        refine go_alloc 13 8 #[tt,tt,tt,tt,tt,tt,tt,ff,ff,ff,ff,ff,ff,tt,ff,ff] rfl rfl rfl (by rfl) 40 rfl _ al40 ?_
        intro wW194 hw2
        have hkW194 := (hkW193).alloc (hkW193).size (.cells z40 40)
        rw [← hw2] at hkW194
        have MA13 := Lib.hid (HasN.new (wW193) z40 40 22 (by kernel_rfl))
        rw [← hw2] at MA13
        have HA13 := Lib.hid (show W19.heap.size ≤ _ from (hkW193).size)
        clear hw2
        refine ⟨fun _ => hkW194, ?_⟩
        (try simp only [sI, sS, sZ])
        refine wpBut_r1 (i := 7) (by kernel_rfl) ?_
        refine go_call 7 36 #[tt,tt,tt,tt,tt,tt,tt,tt,ff,ff,ff,ff,ff,tt,ff,ff] rfl rfl rfl (by rfl) rfl rfl (by rfl) ent38 (by rfl) (Hp1.out _) ?_
        rintro e wW195 ⟨rfl, hb⟩
        have hkW195 := held_next hkW194 hb
        replace MA13 := Lib.hid (MA13.out.call hb)
        refine ⟨_, rfl, fun _ => hkW195, ?_⟩
        clear hb
        (try simp only [sI, sS, sZ])
        refine wpBut_r1 (i := 8) (by kernel_rfl) ?_
        refine go_call 8 37 #[tt,tt,tt,tt,tt,tt,tt,tt,tt,ff,ff,ff,ff,tt,ff,ff] rfl rfl rfl (by rfl) rfl rfl (by rfl) ent43 (by rfl) (Ho1.out _) ?_
        rintro e wW196 ⟨rfl, hb⟩
        have hkW196 := held_next hkW195 hb
        replace MA13 := Lib.hid (MA13.out.call hb)
        refine ⟨_, rfl, fun _ => hkW196, ?_⟩
        clear hb
        (try simp only [sI, sS, sZ])
        refine wpBut_r1 (i := 9) (by kernel_rfl) ?_
        refine go_call 9 38 #[tt,tt,tt,tt,tt,tt,tt,tt,tt,tt,ff,ff,ff,tt,ff,ff] rfl rfl rfl (by rfl) rfl rfl (by rfl) ent45 (by rfl) (Hrr.out _) ?_
        rintro e wW197 ⟨rfl, hb⟩
        have hkW197 := held_next hkW196 hb
        replace MA13 := Lib.hid (MA13.out.call hb)
        refine ⟨_, rfl, fun _ => hkW197, ?_⟩
        clear hb
        (try simp only [sI, sS, sZ])
        refine go_take2 10 28 #[tt,tt,tt,tt,tt,tt,tt,tt,tt,tt,tt,ff,ff,tt,ff,ff] (v := ?uv15) rfl rfl rfl (by kernel_rfl) (Or.inl ⟨by rfl, ?uy15⟩) (hkW197) ?urest15
        case uy15 => (intro _ _; go_simp; try with_reducible rfl)
        (try simp only [sI, sS, sZ])
        refine go_take2 11 39 #[tt,tt,tt,tt,tt,tt,tt,tt,tt,tt,tt,tt,ff,tt,ff,ff] (v := ?uv16) rfl rfl rfl (by kernel_rfl) (Or.inl ⟨by rfl, ?uy16⟩) (hkW197) ?urest16
        case uy16 => (intro _ _; go_simp; try with_reducible rfl)
        (try simp only [sI, sS, sZ])
        refine go_take2 12 40 #[tt,tt,tt,tt,tt,tt,tt,tt,tt,tt,tt,tt,tt,tt,ff,ff] (v := ?uv17) rfl rfl rfl (by kernel_rfl) (Or.inl ⟨by rfl, ?uy17⟩) (hkW197) ?urest17
        case uy17 => (intro _ _; go_simp; try with_reducible rfl)
        (try simp only [sI, sS, sZ])
        refine wpBut_r1 (i := 14) (by kernel_rfl) ?_
        obtain ⟨Zq, hZ, mZ⟩ := MA13.out
        refine go_store2 14 #[tt,tt,tt,tt,tt,tt,tt,tt,tt,tt,tt,tt,tt,tt,tt,ff] rfl rfl rfl (by rfl) 40 _ _ rfl _ _ rfl rfl 40 Zq mZ (by rw [r22_size]; kernel_rfl) (hZ.trans (r22_size ..).symm) (row_one _ _ _) ?_
        intro wW198 hw2
        have hkW198 := below_setRow (hkW197) _ (r22 R3) HA13.out
        rw [← hw2] at hkW198
        clear MA13
        have MA13 := Lib.hid (mZ.setRow (r22 R3))
        rw [← hw2] at MA13; clear mZ hZ hw2
        refine ⟨fun _ => hkW198, ?_⟩
        (try simp only [sI, sS, sZ])
        refine go_take2 15 9 #[tt,tt,tt,tt,tt,tt,tt,tt,tt,tt,tt,tt,tt,tt,tt,tt] (v := ?uv18) rfl rfl rfl (by kernel_rfl) (Or.inl ⟨by rfl, ?uy18⟩) (hkW198) ?urest18
        case uy18 => (intro _ _; go_simp; try with_reducible rfl)
        (try simp only [sI, sS, sZ])
        exact wpBut_done (by kernel_rfl) (NoPanic.normal (HQ.out (_) _ ⟨HA13.out, MA13.out, (hkW198)⟩))
        refine go_alloc 13 8 #[tt,tt,tt,tt,tt,ff,tt,ff,ff,ff,ff,ff,ff,tt,ff,ff] rfl rfl rfl (by rfl) 40 rfl _ al40 ?_
        intro wW193 hw2
        have hkW193 := (hkW192).alloc (hkW192).size (.cells z40 40)
        rw [← hw2] at hkW193
        have MA13 := Lib.hid (HasN.new (wW192) z40 40 22 (by kernel_rfl))
        rw [← hw2] at MA13
        have HA13 := Lib.hid (show W19.heap.size ≤ _ from (hkW192).size)
        clear hw2
        refine ⟨fun _ => hkW193, ?_⟩
        (try simp only [sI, sS, sZ])
        refine wpBut_r1 (i := 5) (by kernel_rfl) ?_
        refine go_call 5 34 #[tt,tt,tt,tt,tt,tt,tt,ff,ff,ff,ff,ff,ff,tt,ff,ff] rfl rfl rfl (by rfl) rfl rfl (by rfl) ent32 (by rfl) (Ht2.out _) ?_
        rintro e wW194 ⟨rfl, hb⟩
        have hkW194 := held_next hkW193 hb
        replace MA13 := Lib.hid (MA13.out.call hb)
        refine ⟨_, rfl, fun _ => hkW194, ?_⟩
        clear hb
        (try simp only [sI, sS, sZ])
        refine wpBut_r1 (i := 7) (by kernel_rfl) ?_
        refine go_call 7 36 #[tt,tt,tt,tt,tt,tt,tt,tt,ff,ff,ff,ff,ff,tt,ff,ff] rfl rfl rfl (by rfl) rfl rfl (by rfl) ent38 (by rfl) (Hp1.out _) ?_
        rintro e wW195 ⟨rfl, hb⟩
        have hkW195 := held_next hkW194 hb
        replace MA13 := Lib.hid (MA13.out.call hb)
        refine ⟨_, rfl, fun _ => hkW195, ?_⟩
        clear hb
        (try simp only [sI, sS, sZ])
        refine wpBut_r1 (i := 8) (by kernel_rfl) ?_
        refine go_call 8 37 #[tt,tt,tt,tt,tt,tt,tt,tt,tt,ff,ff,ff,ff,tt,ff,ff] rfl rfl rfl (by rfl) rfl rfl (by rfl) ent43 (by rfl) (Ho1.out _) ?_
        rintro e wW196 ⟨rfl, hb⟩
        have hkW196 := held_next hkW195 hb
        replace MA13 := Lib.hid (MA13.out.call hb)
        refine ⟨_, rfl, fun _ => hkW196, ?_⟩
        clear hb
        (try simp only [sI, sS, sZ])
        refine wpBut_r1 (i := 9) (by kernel_rfl) ?_
        refine go_call 9 38 #[tt,tt,tt,tt,tt,tt,tt,tt,tt,tt,ff,ff,ff,tt,ff,ff] rfl rfl rfl (by rfl) rfl rfl (by rfl) ent45 (by rfl) (Hrr.out _) ?_
        rintro e wW197 ⟨rfl, hb⟩
        have hkW197 := held_next hkW196 hb
        replace MA13 := Lib.hid (MA13.out.call hb)
        refine ⟨_, rfl, fun _ => hkW197, ?_⟩
        clear hb
        (try simp only [sI, sS, sZ])
        refine go_take2 10 28 #[tt,tt,tt,tt,tt,tt,tt,tt,tt,tt,tt,ff,ff,tt,ff,ff] (v := ?uv19) rfl rfl rfl (by kernel_rfl) (Or.inl ⟨by rfl, ?uy19⟩) (hkW197) ?urest19
        case uy19 => (intro _ _; go_simp; try with_reducible rfl)
        (try simp only [sI, sS, sZ])
        refine go_take2 11 39 #[tt,tt,tt,tt,tt,tt,tt,tt,tt,tt,tt,tt,ff,tt,ff,ff] (v := ?uv20) rfl rfl rfl (by kernel_rfl) (Or.inl ⟨by rfl, ?uy20⟩) (hkW197) ?urest20
        case uy20 => (intro _ _; go_simp; try with_reducible rfl)
        (try simp only [sI, sS, sZ])
        refine go_take2 12 40 #[tt,tt,tt,tt,tt,tt,tt,tt,tt,tt,tt,tt,tt,tt,ff,ff] (v := ?uv21) rfl rfl rfl (by kernel_rfl) (Or.inl ⟨by rfl, ?uy21⟩) (hkW197) ?urest21
        case uy21 => (intro _ _; go_simp; try with_reducible rfl)
        (try simp only [sI, sS, sZ])
        refine wpBut_r1 (i := 14) (by kernel_rfl) ?_
        obtain ⟨Zq, hZ, mZ⟩ := MA13.out
        refine go_store2 14 #[tt,tt,tt,tt,tt,tt,tt,tt,tt,tt,tt,tt,tt,tt,tt,ff] rfl rfl rfl (by rfl) 40 _ _ rfl _ _ rfl rfl 40 Zq mZ (by rw [r22_size]; kernel_rfl) (hZ.trans (r22_size ..).symm) (row_one _ _ _) ?_
        intro wW198 hw2
        have hkW198 := below_setRow (hkW197) _ (r22 R3) HA13.out
        rw [← hw2] at hkW198
        clear MA13
        have MA13 := Lib.hid (mZ.setRow (r22 R3))
        rw [← hw2] at MA13; clear mZ hZ hw2
        refine ⟨fun _ => hkW198, ?_⟩
        (try simp only [sI, sS, sZ])
        refine go_take2 15 9 #[tt,tt,tt,tt,tt,tt,tt,tt,tt,tt,tt,tt,tt,tt,tt,tt] (v := ?uv22) rfl rfl rfl (by kernel_rfl) (Or.inl ⟨by rfl, ?uy22⟩) (hkW198) ?urest22
        case uy22 => (intro _ _; go_simp; try with_reducible rfl)
        (try simp only [sI, sS, sZ])
        exact wpBut_done (by kernel_rfl) (NoPanic.normal (HQ.out (_) _ ⟨HA13.out, MA13.out, (hkW198)⟩))
        refine go_alloc 13 8 #[tt,tt,tt,ff,tt,ff,tt,ff,ff,ff,ff,ff,ff,tt,ff,ff] rfl rfl rfl (by rfl) 40 rfl _ al40 ?_
        intro wW192 hw2
        have hkW192 := (hkW191).alloc (hkW191).size (.cells z40 40)
        rw [← hw2] at hkW192
        have MA13 := Lib.hid (HasN.new (wW191) z40 40 22 (by kernel_rfl))
        rw [← hw2] at MA13
        have HA13 := Lib.hid (show W19.heap.size ≤ _ from (hkW191).size)
        clear hw2
        refine ⟨fun _ => hkW192, ?_⟩
        (try simp only [sI, sS, sZ])
        refine wpBut_r1 (i := 3) (by kernel_rfl) ?_
        refine go_call 3 32 #[tt,tt,tt,tt,tt,ff,tt,ff,ff,ff,ff,ff,ff,tt,ff,ff] rfl rfl rfl (by rfl) rfl rfl (by rfl) ent89 (by rfl) (rslope_any _) ?_
        rintro e wW193 ⟨rfl, hb⟩
        have hkW193 := held_next hkW192 hb
        replace MA13 := Lib.hid (MA13.out.call hb)
        refine ⟨_, rfl, fun _ => hkW193, ?_⟩
        clear hb
        (try simp only [sI, sS, sZ])
        refine wpBut_r1 (i := 5) (by kernel_rfl) ?_
        refine go_call 5 34 #[tt,tt,tt,tt,tt,tt,tt,ff,ff,ff,ff,ff,ff,tt,ff,ff] rfl rfl rfl (by rfl) rfl rfl (by rfl) ent32 (by rfl) (Ht2.out _) ?_
        rintro e wW194 ⟨rfl, hb⟩
        have hkW194 := held_next hkW193 hb
        replace MA13 := Lib.hid (MA13.out.call hb)
        refine ⟨_, rfl, fun _ => hkW194, ?_⟩
        clear hb
        (try simp only [sI, sS, sZ])
        refine wpBut_r1 (i := 7) (by kernel_rfl) ?_
        refine go_call 7 36 #[tt,tt,tt,tt,tt,tt,tt,tt,ff,ff,ff,ff,ff,tt,ff,ff] rfl rfl rfl (by rfl) rfl rfl (by rfl) ent38 (by rfl) (Hp1.out _) ?_
        rintro e wW195 ⟨rfl, hb⟩
        have hkW195 := held_next hkW194 hb
        replace MA13 := Lib.hid (MA13.out.call hb)
        refine ⟨_, rfl, fun _ => hkW195, ?_⟩
        clear hb
        (try simp only [sI, sS, sZ])
        refine wpBut_r1 (i := 8) (by kernel_rfl) ?_
        refine go_call 8 37 #[tt,tt,tt,tt,tt,tt,tt,tt,tt,ff,ff,ff,ff,tt,ff,ff] rfl rfl rfl (by rfl) rfl rfl (by rfl) ent43 (by rfl) (Ho1.out _) ?_
        rintro e wW196 ⟨rfl, hb⟩
        have hkW196 := held_next hkW195 hb
        replace MA13 := Lib.hid (MA13.out.call hb)
        refine ⟨_, rfl, fun _ => hkW196, ?_⟩
        clear hb
        (try simp only [sI, sS, sZ])
        refine wpBut_r1 (i := 9) (by kernel_rfl) ?_
        refine go_call 9 38 #[tt,tt,tt,tt,tt,tt,tt,tt,tt,tt,ff,ff,ff,tt,ff,ff] rfl rfl rfl (by rfl) rfl rfl (by rfl) ent45 (by rfl) (Hrr.out _) ?_
        rintro e wW197 ⟨rfl, hb⟩
        have hkW197 := held_next hkW196 hb
        replace MA13 := Lib.hid (MA13.out.call hb)
        refine ⟨_, rfl, fun _ => hkW197, ?_⟩
        clear hb
        (try simp only [sI, sS, sZ])
        refine go_take2 10 28 #[tt,tt,tt,tt,tt,tt,tt,tt,tt,tt,tt,ff,ff,tt,ff,ff] (v := ?uv23) rfl rfl rfl (by kernel_rfl) (Or.inl ⟨by rfl, ?uy23⟩) (hkW197) ?urest23
        case uy23 => (intro _ _; go_simp; try with_reducible rfl)
        (try simp only [sI, sS, sZ])
        refine go_take2 11 39 #[tt,tt,tt,tt,tt,tt,tt,tt,tt,tt,tt,tt,ff,tt,ff,ff] (v := ?uv24) rfl rfl rfl (by kernel_rfl) (Or.inl ⟨by rfl, ?uy24⟩) (hkW197) ?urest24
        case uy24 => (intro _ _; go_simp; try with_reducible rfl)
        (try simp only [sI, sS, sZ])
        refine go_take2 12 40 #[tt,tt,tt,tt,tt,tt,tt,tt,tt,tt,tt,tt,tt,tt,ff,ff] (v := ?uv25) rfl rfl rfl (by kernel_rfl) (Or.inl ⟨by rfl, ?uy25⟩) (hkW197) ?urest25
        case uy25 => (intro _ _; go_simp; try with_reducible rfl)
        (try simp only [sI, sS, sZ])
        refine wpBut_r1 (i := 14) (by kernel_rfl) ?_
        obtain ⟨Zq, hZ, mZ⟩ := MA13.out
        refine go_store2 14 #[tt,tt,tt,tt,tt,tt,tt,tt,tt,tt,tt,tt,tt,tt,tt,ff] rfl rfl rfl (by rfl) 40 _ _ rfl _ _ rfl rfl 40 Zq mZ (by rw [r22_size]; kernel_rfl) (hZ.trans (r22_size ..).symm) (row_one _ _ _) ?_
        intro wW198 hw2
        have hkW198 := below_setRow (hkW197) _ (r22 R3) HA13.out
        rw [← hw2] at hkW198
        clear MA13
        have MA13 := Lib.hid (mZ.setRow (r22 R3))
        rw [← hw2] at MA13; clear mZ hZ hw2
        refine ⟨fun _ => hkW198, ?_⟩
        (try simp only [sI, sS, sZ])
        refine go_take2 15 9 #[tt,tt,tt,tt,tt,tt,tt,tt,tt,tt,tt,tt,tt,tt,tt,tt] (v := ?uv26) rfl rfl rfl (by kernel_rfl) (Or.inl ⟨by rfl, ?uy26⟩) (hkW198) ?urest26
        case uy26 => (intro _ _; go_simp; try with_reducible rfl)
        (try simp only [sI, sS, sZ])
        exact wpBut_done (by kernel_rfl) (NoPanic.normal (HQ.out (_) _ ⟨HA13.out, MA13.out, (hkW198)⟩))
        refine go_alloc 13 8 #[tt,tt,ff,ff,tt,ff,tt,ff,ff,ff,ff,ff,ff,tt,ff,ff] rfl rfl rfl (by rfl) 40 rfl _ al40 ?_
        intro wW191 hw2
        have hkW191 := ((below_dr W19)).alloc ((below_dr W19)).size (.cells z40 40)
        rw [← hw2] at hkW191
        have MA13 := Lib.hid (HasN.new (W19.drew) z40 40 22 (by kernel_rfl))
        rw [← hw2] at MA13
        have HA13 := Lib.hid (show W19.heap.size ≤ _ from ((below_dr W19)).size)
        clear hw2
        refine ⟨fun _ => hkW191, ?_⟩
        (try simp only [sI, sS, sZ])
        refine wpBut_r1 (i := 2) (by kernel_rfl) ?_
        refine go_call 2 31 #[tt,tt,tt,ff,tt,ff,tt,ff,ff,ff,ff,ff,ff,tt,ff,ff] rfl rfl rfl (by rfl) rfl rfl (by rfl) ent40 (by rfl) (Hm1.out _) ?_
        rintro e wW192 ⟨rfl, hb⟩
        have hkW192 := held_next hkW191 hb
        replace MA13 := Lib.hid (MA13.out.call hb)
        refine ⟨_, rfl, fun _ => hkW192, ?_⟩
        clear hb
        (try simp only [sI, sS, sZ])
        refine wpBut_r1 (i := 3) (by kernel_rfl) ?_
        refine go_call 3 32 #[tt,tt,tt,tt,tt,ff,tt,ff,ff,ff,ff,ff,ff,tt,ff,ff] rfl rfl rfl (by rfl) rfl rfl (by rfl) ent89 (by rfl) (rslope_any _) ?_
        rintro e wW193 ⟨rfl, hb⟩
        have hkW193 := held_next hkW192 hb
        replace MA13 := Lib.hid (MA13.out.call hb)
        refine ⟨_, rfl, fun _ => hkW193, ?_⟩
        clear hb
        (try simp only [sI, sS, sZ])
        refine wpBut_r1 (i := 5) (by kernel_rfl) ?_
        refine go_call 5 34 #[tt,tt,tt,tt,tt,tt,tt,ff,ff,ff,ff,ff,ff,tt,ff,ff] rfl rfl rfl (by rfl) rfl rfl (by rfl) ent32 (by rfl) (Ht2.out _) ?_
        rintro e wW194 ⟨rfl, hb⟩
        have hkW194 := held_next hkW193 hb
        replace MA13 := Lib.hid (MA13.out.call hb)
        refine ⟨_, rfl, fun _ => hkW194, ?_⟩
        clear hb
        (try simp only [sI, sS, sZ])
        refine wpBut_r1 (i := 7) (by kernel_rfl) ?_
        refine go_call 7 36 #[tt,tt,tt,tt,tt,tt,tt,tt,ff,ff,ff,ff,ff,tt,ff,ff] rfl rfl rfl (by rfl) rfl rfl (by rfl) ent38 (by rfl) (Hp1.out _) ?_
        rintro e wW195 ⟨rfl, hb⟩
        have hkW195 := held_next hkW194 hb
        replace MA13 := Lib.hid (MA13.out.call hb)
        refine ⟨_, rfl, fun _ => hkW195, ?_⟩
        clear hb
        (try simp only [sI, sS, sZ])
        refine wpBut_r1 (i := 8) (by kernel_rfl) ?_
        refine go_call 8 37 #[tt,tt,tt,tt,tt,tt,tt,tt,tt,ff,ff,ff,ff,tt,ff,ff] rfl rfl rfl (by rfl) rfl rfl (by rfl) ent43 (by rfl) (Ho1.out _) ?_
        rintro e wW196 ⟨rfl, hb⟩
        have hkW196 := held_next hkW195 hb
        replace MA13 := Lib.hid (MA13.out.call hb)
        refine ⟨_, rfl, fun _ => hkW196, ?_⟩
        clear hb
        (try simp only [sI, sS, sZ])
        refine wpBut_r1 (i := 9) (by kernel_rfl) ?_
        refine go_call 9 38 #[tt,tt,tt,tt,tt,tt,tt,tt,tt,tt,ff,ff,ff,tt,ff,ff] rfl rfl rfl (by rfl) rfl rfl (by rfl) ent45 (by rfl) (Hrr.out _) ?_
        rintro e wW197 ⟨rfl, hb⟩
        have hkW197 := held_next hkW196 hb
        replace MA13 := Lib.hid (MA13.out.call hb)
        refine ⟨_, rfl, fun _ => hkW197, ?_⟩
        clear hb
        (try simp only [sI, sS, sZ])
        refine go_take2 10 28 #[tt,tt,tt,tt,tt,tt,tt,tt,tt,tt,tt,ff,ff,tt,ff,ff] (v := ?uv27) rfl rfl rfl (by kernel_rfl) (Or.inl ⟨by rfl, ?uy27⟩) (hkW197) ?urest27
        case uy27 => (intro _ _; go_simp; try with_reducible rfl)
        (try simp only [sI, sS, sZ])
        refine go_take2 11 39 #[tt,tt,tt,tt,tt,tt,tt,tt,tt,tt,tt,tt,ff,tt,ff,ff] (v := ?uv28) rfl rfl rfl (by kernel_rfl) (Or.inl ⟨by rfl, ?uy28⟩) (hkW197) ?urest28
        case uy28 => (intro _ _; go_simp; try with_reducible rfl)
        (try simp only [sI, sS, sZ])
        refine go_take2 12 40 #[tt,tt,tt,tt,tt,tt,tt,tt,tt,tt,tt,tt,tt,tt,ff,ff] (v := ?uv29) rfl rfl rfl (by kernel_rfl) (Or.inl ⟨by rfl, ?uy29⟩) (hkW197) ?urest29
        case uy29 => (intro _ _; go_simp; try with_reducible rfl)
        (try simp only [sI, sS, sZ])
        refine wpBut_r1 (i := 14) (by kernel_rfl) ?_
        obtain ⟨Zq, hZ, mZ⟩ := MA13.out
        refine go_store2 14 #[tt,tt,tt,tt,tt,tt,tt,tt,tt,tt,tt,tt,tt,tt,tt,ff] rfl rfl rfl (by rfl) 40 _ _ rfl _ _ rfl rfl 40 Zq mZ (by rw [r22_size]; kernel_rfl) (hZ.trans (r22_size ..).symm) (row_one _ _ _) ?_
        intro wW198 hw2
        have hkW198 := below_setRow (hkW197) _ (r22 R3) HA13.out
        rw [← hw2] at hkW198
        clear MA13
        have MA13 := Lib.hid (mZ.setRow (r22 R3))
        rw [← hw2] at MA13; clear mZ hZ hw2
        refine ⟨fun _ => hkW198, ?_⟩
        (try simp only [sI, sS, sZ])
        refine go_take2 15 9 #[tt,tt,tt,tt,tt,tt,tt,tt,tt,tt,tt,tt,tt,tt,tt,tt] (v := ?uv30) rfl rfl rfl (by kernel_rfl) (Or.inl ⟨by rfl, ?uy30⟩) (hkW198) ?urest30
        case uy30 => (intro _ _; go_simp; try with_reducible rfl)
        (try simp only [sI, sS, sZ])
        exact wpBut_done (by kernel_rfl) (NoPanic.normal (HQ.out (_) _ ⟨HA13.out, MA13.out, (hkW198)⟩))
      · rintro W19 B8 vw19 hW19 ⟨hBq0, mBq0, hbw⟩
        simp only [Act.put, List.setIfInBounds_toArray, List.set_cons_succ, List.set_cons_zero] at  hBq0  mBq0 ⊢
        rw [← hW19] at M1 M2 M5 M6 M7 HB
        clear hW19
        have hltM1_19 := M1.out.lt
        have hltM2_19 := M2.out.lt
        have hltM5_19 := M5.out.lt
        have hltM6_19 := M6.out.lt
        have hltM7_19 := M7.out.lt
        replace M1 := Lib.hid (M1.out.call hbw)
        replace M2 := Lib.hid (M2.out.call hbw)
        replace M5 := Lib.hid (M5.out.call hbw)
        replace M6 := Lib.hid (M6.out.call hbw)
        replace M7 := Lib.hid (M7.out.call hbw)
        replace HB := Lib.hid (held_next HB.out hbw)
        have M8 := Lib.hid mBq0; clear mBq0
        clear hbw
        clear M7
        clear Hint Ht1 Hm1 Ht2 Hp1 Ho1 Hrr
        repeat ((fail_if_success (with_reducible (show wpList _ _ _ _ _ _))); go_step)
        cases ok
        · refine wpList_step (fun K hK => ?_)
          go_simp
          (try go_bits)
          refine hK _ _ ?_
          clear hK K
          iterate 10 (refine wpList_step (fun K hK => ?_); go_simp; (try go_bits); refine hK _ _ ?_; clear hK K)
          refine wpList_nil ?_
          repeat ((fail_if_success (with_reducible (show wpList _ _ _ _ _ _))); go_step)
          refine wpList_call (by rfl) rfl rfl (by rfl) ent88 (by rfl) (Horg.out _) 52 rfl ?_
          rintro e uw4 ⟨rfl, hb⟩
          replace M1 := Lib.hid (M1.out.call hb)
          replace M2 := Lib.hid (M2.out.call hb)
          replace M5 := Lib.hid (M5.out.call hb)
          replace M6 := Lib.hid (M6.out.call hb)
          replace M8 := Lib.hid (M8.out.call hb)
          replace HB := Lib.hid (held_next HB.out hb)
          refine ⟨_, rfl, ?_⟩
          clear hb
          (try simp only [Act.put, sI, sS, sZ])
          first | (obtain ⟨Zq, hZ, mZ⟩ := M2.out) | (obtain ⟨Zq, hZ, mZ⟩ := M2.out.toN (rp_size ..))
          refine wpList_store2 (by rfl) 57 _ _ rfl rfl (w.heap.size + 1) (rp 0 1 1 0) rfl rfl 57 Zq mZ (by rw [rp_size]; kernel_rfl) (hZ.trans (rp_size ..).symm) (rp_one _ _ _ _) ?_
          intro yw20 hw2
          replace M1 := Lib.hid (M1.out.setRow_other (w.heap.size + 1) (rp 0 1 1 0) (by omega))
          replace M5 := Lib.hid (M5.out.setRow_other (w.heap.size + 1) (rp 0 1 1 0) (by omega))
          replace M6 := Lib.hid (M6.out.setRow_other (w.heap.size + 1) (rp 0 1 1 0) (by omega))
          replace M8 := Lib.hid (M8.out.setRow_other (w.heap.size + 1) (rp 0 1 1 0) (by omega))
          replace M2 := Lib.hid (mZ.setRow (rp 0 1 1 0))
          replace HB := Lib.hid (below_setRow HB.out (w.heap.size + 1) (rp 0 1 1 0) (by omega))
          rw [← hw2] at M1 M5 M6 M8 M2 HB; clear mZ hZ hw2
          (refine wpList_step (fun K hK => ?_); go_simp; (try go_bits); refine hK _ _ ?_; clear hK K)
          refine wpList_nil ?_
          go_wp2_with fail
          have hb := Hcof.out.trans (bes_no1 C true n0 Hok.out.symm)
          exact bodyPost_ret (v := .tuple #[.agg (rp 0 1 1 0), .bool false]) (results_cell_tmp_row (fn := Try.f48) (p := 2) (t2 := 3) (ty := 57) (t := 57) (by rfl) _ _ (w.heap.size + 1) _ _ _ rfl M2.out Try.underlying57 rfl (by rw [rp_size]; kernel_rfl)) rfl ⟨by rw [hb, Nat.zero_mul, Nat.zero_mod], HB.out⟩
        · refine wpList_step (fun K hK => ?_)
          go_simp
          (try go_bits)
          refine hK _ _ ?_
          clear hK K
          iterate 10 (refine wpList_step (fun K hK => ?_); go_simp; (try go_bits); refine hK _ _ ?_; clear hK K)
          refine wpList_nil ?_
          repeat ((fail_if_success (with_reducible (show wpList _ _ _ _ _ _))); go_step)
          iterate 2 (refine wpList_step (fun K hK => ?_); go_simp; (try go_bits); refine hK _ _ ?_; clear hK K)
          refine wpList_nil ?_
          repeat ((fail_if_success (with_reducible (show wpList _ _ _ _ _ _))); go_step)
          have htx := fun w => rtimes_any R3 n0 HR3l.out Hlt.out w
          obtain ⟨tq9, htt⟩ : ∃ t, t = R3 * n0 % PP := ⟨_, rfl⟩
          rw [← htt] at htx
          have Htx := Lib.hid htx; clear htx
          have Htt := Lib.hid htt; clear htt
          refine wp_region_noPanic ?_
          refine wp_region_goS (fun w' => Has w' (B8) (r22 R3) 40 ∧ Has w' (uw1.heap.size) (r22 n0) 40 ∧ Has w' (uw2.heap.size) (r22 1) 40) 99 9 #[ff,ff,ff,ff,ff,ff,ff,ff,ff] (by kernel_rfl) rfl rfl ?_
          replace M1 := Lib.hid (M1.out.drew)
          replace M2 := Lib.hid (M2.out.drew)
          replace M5 := Lib.hid (M5.out.drew)
          replace M6 := Lib.hid (M6.out.drew)
          replace M8 := Lib.hid (M8.out.drew)
          replace HB := Lib.hid (below_drewN HB.out 1)
          obtain ⟨yw20, hwyw20⟩ : ∃ ww, ww = vw19.drew := ⟨_, rfl⟩
          rw [← hwyw20] at M1 M2 M5 M6 M8 ⊢
          have kq : Below w.heap.size w yw20 := by rw [hwyw20]; exact HB.out
          clear HB; have HB := Lib.hid kq; clear kq hwyw20
          refine go_take2 0 58 #[tt,ff,ff,ff,ff,ff,ff,ff,ff] rfl rfl rfl (by kernel_rfl) (yieldsIf_load_row (by rfl) 40 _ rfl (B8) rfl 40 (r22 R3) (fun _ h => h.1) Try.underlying40 rfl (by rw [r22_size]; kernel_rfl)) (⟨M8.out, M5.out, M6.out⟩) ?_
          (try simp only [sI, sS, sZ])
          refine go_take2 1 59 #[tt,tt,ff,ff,ff,ff,ff,ff,ff] rfl rfl rfl (by kernel_rfl) (yieldsIf_load_row (by rfl) 40 _ rfl (uw1.heap.size) rfl 40 (r22 n0) (fun _ h => h.2.1) Try.underlying40 rfl (by rw [r22_size]; kernel_rfl)) (⟨M8.out, M5.out, M6.out⟩) ?_
          (try simp only [sI, sS, sZ])
          refine go_take2 2 60 #[tt,tt,tt,ff,ff,ff,ff,ff,ff] rfl rfl rfl (by kernel_rfl) (yieldsIf_load_row (by rfl) 40 _ rfl (uw2.heap.size) rfl 40 (r22 1) (fun _ h => h.2.2) Try.underlying40 rfl (by rw [r22_size]; kernel_rfl)) (⟨M8.out, M5.out, M6.out⟩) ?_
          (try simp only [sI, sS, sZ])
          refine go_take2 3 61 #[tt,tt,tt,tt,ff,ff,ff,ff,ff] rfl rfl rfl (by kernel_rfl) (yieldsIf_load_row (by rfl) 40 _ rfl (B8) rfl 40 (r22 R3) (fun _ h => h.1) Try.underlying40 rfl (by rw [r22_size]; kernel_rfl)) (⟨M8.out, M5.out, M6.out⟩) ?_
          (try simp only [sI, sS, sZ])
          refine go_take2 4 62 #[tt,tt,tt,tt,tt,ff,ff,ff,ff] rfl rfl rfl (by kernel_rfl) (yieldsIf_load_row (by rfl) 40 _ rfl (uw1.heap.size) rfl 40 (r22 n0) (fun _ h => h.2.1) Try.underlying40 rfl (by rw [r22_size]; kernel_rfl)) (⟨M8.out, M5.out, M6.out⟩) ?_
          (try simp only [sI, sS, sZ])
          refine wpBut_r1 (i := 5) (by kernel_rfl) ?_
          refine go_call 5 63 #[tt,tt,tt,tt,tt,tt,ff,ff,ff] rfl rfl rfl (by rfl) rfl rfl (by rfl) ent32 (by rfl) (Htx.out _) ?_
          rintro e uw4 ⟨rfl, hb⟩
          replace M1 := Lib.hid (M1.out.call hb)
          replace M2 := Lib.hid (M2.out.call hb)
          replace M5 := Lib.hid (M5.out.call hb)
          replace M6 := Lib.hid (M6.out.call hb)
          replace M8 := Lib.hid (M8.out.call hb)
          replace HB := Lib.hid (held_next HB.out hb)
          refine ⟨_, rfl, fun _ => ⟨M8.out, M5.out, M6.out⟩, ?_⟩
          clear hb
          (try simp only [sI, sS, sZ])
          refine go_take2 6 64 #[tt,tt,tt,tt,tt,tt,tt,ff,ff] rfl rfl rfl (by kernel_rfl) (yieldsIf_build (by rfl) 57 _ rfl _ (by rfl) (rp R3 n0 1 tq9) (bd57 R3 n0 1 tq9)) (⟨M8.out, M5.out, M6.out⟩) ?_
          (try simp only [sI, sS, sZ])
          refine wpBut_r1 (i := 7) (by kernel_rfl) ?_
          first | (obtain ⟨Zq, hZ, mZ⟩ := M2.out) | (obtain ⟨Zq, hZ, mZ⟩ := M2.out.toN (rp_size ..))
          refine go_store2 7 #[tt,tt,tt,tt,tt,tt,tt,tt,ff] rfl rfl rfl (by rfl) 57 _ _ rfl (w.heap.size + 1) (rp R3 n0 1 tq9) rfl rfl 57 Zq mZ (by rw [rp_size]; kernel_rfl) (hZ.trans (rp_size ..).symm) (rp_one _ _ _ _) ?_
          intro yw21 hw2
          replace M1 := Lib.hid (M1.out.setRow_other (w.heap.size + 1) (rp R3 n0 1 tq9) (by omega))
          replace M5 := Lib.hid (M5.out.setRow_other (w.heap.size + 1) (rp R3 n0 1 tq9) (by omega))
          replace M6 := Lib.hid (M6.out.setRow_other (w.heap.size + 1) (rp R3 n0 1 tq9) (by omega))
          replace M8 := Lib.hid (M8.out.setRow_other (w.heap.size + 1) (rp R3 n0 1 tq9) (by omega))
          replace M2 := Lib.hid (mZ.setRow (rp R3 n0 1 tq9))
          replace HB := Lib.hid (below_setRow HB.out (w.heap.size + 1) (rp R3 n0 1 tq9) (by omega))
          rw [← hw2] at M1 M5 M6 M8 M2 HB; clear mZ hZ hw2
          refine ⟨fun _ => ⟨M8.out, M5.out, M6.out⟩, ?_⟩
          (try simp only [sI, sS, sZ])
          refine go_take2 8 3 #[tt,tt,tt,tt,tt,tt,tt,tt,tt] (v := ?uv31) rfl rfl rfl (by kernel_rfl) (Or.inl ⟨by rfl, ?uy31⟩) (⟨M8.out, M5.out, M6.out⟩) ?urest31
          case uy31 => (intro _ _; go_simp; try with_reducible rfl)
          (try simp only [sI, sS, sZ])
          refine wpBut_done (by kernel_rfl) (NoPanic.normal ?_)
          go_wp2_with fail
          have hb := Hcof.out.trans (bes_even C n0 Hok.out.symm)
          exact bodyPost_ret (v := .tuple #[.agg (rp R3 n0 1 tq9), .bool true]) (results_cell_tmp_row (fn := Try.f48) (p := 2) (t2 := 3) (ty := 57) (t := 57) (by rfl) _ _ (w.heap.size + 1) _ _ _ rfl M2.out Try.underlying57 rfl (by rw [rp_size]; kernel_rfl)) rfl ⟨by rw [hb, Htt.out, HR3.out], HB.out⟩
    · have hne : ¬ A = n0 := by have := HAl.out; omega
      have heq := fun w => k32_eq A n0 (PP_256 A HAl.out) Hl0.out w
      rw [decide_eq_false hne] at heq
      clear hne
      have hcf := Hno.out hlt
      refine wp_region_noPanic ?_
      refine wp_region_go 99 4 #[false, false, false, false] (by kernel_rfl) rfl rfl ?_
      intro W7 hW7
      rw [← hW7] at M1 M2 M5 HB
      clear hW7
      refine go_take2 0 19 #[true, false, false, false] rfl rfl rfl (by kernel_rfl) (yieldsIf_load_row (by rfl) 40 _ rfl (uw1.heap.size) rfl 40 (r22 A) (fun _ h => M5.out.below h M5.out.lt) Try.underlying40 rfl (by rw [r22_size]; kernel_rfl)) ((below_dr W7)) ?_
      (try simp only [sI, sS, sZ])
      refine go_take2 2 21 #[true, false, true, false] rfl rfl rfl (by kernel_rfl) (yieldsIf_load_row (by rfl) 24 _ rfl (w.heap.size) rfl 24 (k32 n0) (fun _ h => M1.out.below h M1.out.lt) Try.underlying24 rfl (by rw [k32_size]; kernel_rfl)) ((below_dr W7)) ?_
      (try simp only [sI, sS, sZ])
      refine wpBut_r1 (i := 1) (by kernel_rfl) ?_
      refine go_call 1 20 #[true, true, true, false] rfl rfl rfl (by rfl) rfl rfl (by rfl) ent74 (by rfl) (Hrk.out _) ?_
      rintro e wW71 ⟨rfl, hb⟩
      have hkW71 := held_next (below_dr W7) hb
      refine ⟨_, rfl, fun _ => hkW71, ?_⟩
      clear hb
      (try simp only [sI, sS, sZ])
      refine go_take2 3 22 #[true, true, true, true] (v := ?uv1) rfl rfl rfl (by kernel_rfl) (Or.inl ⟨by rfl, ?uy1⟩) (hkW71) ?urest1
      case uy1 => (intro _ _; go_simp; try with_reducible rfl)
      (try simp only [sI, sS, sZ])
      refine wpBut_done (by kernel_rfl) (NoPanic.normal ?_)
      replace M1 := Lib.hid (M1.out.call hkW71)
      replace M2 := Lib.hid (M2.out.call hkW71)
      replace M5 := Lib.hid (M5.out.call hkW71)
      replace HB := Lib.hid (held_next HB.out hkW71)
      clear heq
      repeat ((fail_if_success (with_reducible (show wpList _ _ _ _ _ _))); go_step)
      refine wpList_call (by rfl) rfl rfl (by rfl) ent88 (by rfl) (Horg.out _) 23 rfl ?_
      rintro e uw2 ⟨rfl, hb⟩
      replace M1 := Lib.hid (M1.out.call hb)
      replace M2 := Lib.hid (M2.out.call hb)
      replace M5 := Lib.hid (M5.out.call hb)
      replace HB := Lib.hid (held_next HB.out hb)
      refine ⟨_, rfl, ?_⟩
      clear hb
      (try simp only [Act.put, sI, sS, sZ])
      first | (obtain ⟨Zq, hZ, mZ⟩ := M2.out) | (obtain ⟨Zq, hZ, mZ⟩ := M2.out.toN (rp_size ..))
      refine wpList_store2 (by rfl) 57 _ _ rfl rfl (w.heap.size + 1) (rp 0 1 1 0) rfl rfl 57 Zq mZ (by rw [rp_size]; kernel_rfl) (hZ.trans (rp_size ..).symm) (rp_one _ _ _ _) ?_
      intro yw8 hw2
      replace M1 := Lib.hid (M1.out.setRow_other (w.heap.size + 1) (rp 0 1 1 0) (by omega))
      replace M5 := Lib.hid (M5.out.setRow_other (w.heap.size + 1) (rp 0 1 1 0) (by omega))
      replace M2 := Lib.hid (mZ.setRow (rp 0 1 1 0))
      replace HB := Lib.hid (below_setRow HB.out (w.heap.size + 1) (rp 0 1 1 0) (by omega))
      rw [← hw2] at M1 M5 M2 HB; clear mZ hZ hw2
      (refine wpList_step (fun K hK => ?_); go_simp; (try go_bits); refine hK _ _ ?_; clear hK K)
      refine wpList_nil ?_
      go_wp2_with fail
      exact bodyPost_ret (v := .tuple #[.agg (rp 0 1 1 0), .bool false]) (results_cell_tmp_row (fn := Try.f48) (p := 2) (t2 := 3) (ty := 57) (t := 57) (by rfl) _ _ (w.heap.size + 1) _ _ _ rfl M2.out Try.underlying57 rfl (by rw [rp_size]; kernel_rfl)) rfl ⟨by rw [hcf, Nat.zero_mul, Nat.zero_mod], HB.out⟩
  · have hyes := hev 1 hq
    rw [decide_eq_false (by decide)] at hyes
    rw [hq] at htd
    have htd : (c : Int).tdiv 128 = 1 := htd
    clear hq hev
    have Hclr := Lib.hid hclr; clear hclr
    have Hyes := Lib.hid hyes; clear hyes
    have Hno := Lib.hid hno; clear hno
    have Hro := Lib.hid hro; clear hro
    have Hrk := Lib.hid hrk; clear hrk
    have Hc := Lib.hid hc; clear hc
    have Hl0 := Lib.hid hl0; clear hl0
    have HA := Lib.hid hA; clear hA
    have HAl := Lib.hid hAl; clear hAl
    have Horg := Lib.hid horg; clear horg
    go_enter Try.func48, Try.ntmps48
    repeat ((fail_if_success (with_reducible (show wpList _ _ _ _ _ _))); go_step)
    iterate 3 (refine wpList_step (fun K hK => ?_); go_simp; (try go_bits); refine hK _ _ ?_; clear hK K)
    refine wpList_nil ?_
    have M1 := Lib.hid ((Has.new w  (k32 n) 24).alloc (.cells Try.zeroCells57 57))
    have M2 := Lib.hid (HasN.new1 w (.cells (k32 n) 24) Try.zeroCells57 57 88 (by kernel_rfl))
    have HB := Lib.hid (below_2 w (.cells (k32 n) 24) (.cells Try.zeroCells57 57))
    obtain ⟨yw1, hwyw1⟩ : ∃ ww, ww = ((w.alloc (.cells (k32 n) 24)).alloc (.cells Try.zeroCells57 57)) := ⟨_, rfl⟩
    rw [← hwyw1] at M1 M2 HB ⊢
    clear hwyw1
    have h1 := M1.out.cell 31 (by omega)
    rw [Hc.out] at h1
    have hfz := M1.out.frozen 31
    repeat ((fail_if_success (with_reducible (show wpList _ _ _ _ _ _))); go_step)
    iterate 4 (refine wpList_step (fun K hK => ?_); go_simp; (try go_bits); refine hK _ _ ?_; clear hK K)
    refine wpList_nil ?_
    repeat ((fail_if_success (with_reducible (show wpList _ _ _ _ _ _))); go_step)
    iterate 5 (refine wpList_step (fun K hK => ?_); go_simp; (try go_bits); refine hK _ _ ?_; clear hK K)
    refine wpList_nil ?_
    clear h1 hfz
    have kq := M1.out.set 31 ((c2 : Int)); rw [Hclr.out] at kq; clear M1; have M1 := Lib.hid kq; clear kq
    have kq := M2.out.other ⟨w.heap.size, 31, none⟩ (.int .u8 ((c2 : Int))) (by simp <;> omega); clear M2; have M2 := Lib.hid kq; clear kq
    replace HB := Lib.hid (HB.out.setCell (p := ⟨w.heap.size, 31, none⟩) (show w.heap.size ≤ w.heap.size by omega) (.int .u8 ((c2 : Int))))
    obtain ⟨yw2, hwyw2⟩ : ∃ ww, ww = yw1.setCell ⟨w.heap.size, 31, none⟩ (.int .u8 ((c2 : Int))) := ⟨_, rfl⟩
    rw [← hwyw2] at M1 M2 HB ⊢
    clear hwyw2
    clear htd htm hcl
    repeat ((fail_if_success (with_reducible (show wpList _ _ _ _ _ _))); go_step)
    refine wpList_load (by rfl) 24 _ rfl (w.heap.size) rfl 24 (k32 n0) M1.out Try.underlying24 rfl (by rw [k32_size]; kernel_rfl) 17 rfl ?_
    (try simp only [Act.put, sI, sS, sZ])
    refine wpList_call (by rfl) rfl rfl (by rfl) ent33 (by rfl) (Hro.out _) 18 rfl ?_
    rintro e uw1 ⟨rfl, hb⟩
    replace M1 := Lib.hid (M1.out.call hb)
    replace M2 := Lib.hid (M2.out.call hb)
    replace HB := Lib.hid (held_next HB.out hb)
    refine ⟨_, rfl, ?_⟩
    clear hb
    (try simp only [Act.put, sI, sS, sZ])
    refine wpList_alloc (by rfl) 40 rfl _ al40 5 rfl ?_
    intro yw3 hw2
    have hlt4 := M1.out.lt
    have hlt5 := M2.out.lt
    have hsz := HB.out.size
    replace M1 := Lib.hid (M1.out.alloc (.cells z40 40))
    replace M2 := Lib.hid (M2.out.alloc (.cells z40 40))
    have M5 := Lib.hid (HasN.new uw1 z40 40 22 (by kernel_rfl))
    replace HB := Lib.hid (HB.out.alloc hsz (.cells z40 40))
    rw [← hw2] at M1 M2 M5 HB; clear hw2
    (try simp only [Act.put, sI, sS, sZ])
    first | (obtain ⟨Zq, hZ, mZ⟩ := M5.out) | (obtain ⟨Zq, hZ, mZ⟩ := M5.out.toN (r22_size ..))
    refine wpList_store2 (by rfl) 40 _ _ rfl rfl (uw1.heap.size) (r22 A) rfl rfl 40 Zq mZ (by rw [r22_size]; kernel_rfl) (hZ.trans (r22_size ..).symm) (row_one _ _ _) ?_
    intro yw6 hw2
    replace M1 := Lib.hid (M1.out.setRow_other (uw1.heap.size) (r22 A) (by omega))
    replace M2 := Lib.hid (M2.out.setRow_other (uw1.heap.size) (r22 A) (by omega))
    replace M5 := Lib.hid (mZ.setRow (r22 A))
    replace HB := Lib.hid (below_setRow HB.out (uw1.heap.size) (r22 A) (by omega))
    rw [← hw2] at M1 M2 M5 HB; clear mZ hZ hw2
    refine wpList_nil ?_
    repeat ((fail_if_success (with_reducible (show wpList _ _ _ _ _ _))); go_step)
    by_cases hlt : n0 < PP
    · have hAn : A = n0 := by rw [HA.out]; exact Nat.mod_eq_of_lt hlt
      have M5' := M5.out; rw [hAn] at M5'; clear M5; have M5 := Lib.hid M5'; clear M5'
      have hrk2 := Hrk.out; rw [hAn] at hrk2; clear Hrk; have Hrk := Lib.hid hrk2; clear hrk2
      have heq := fun w => k32_same n0 Hl0.out w
      have hcof := Hyes.out hlt
      clear hAn
      have Hlt := Lib.hid hlt; clear hlt
      have Hcof := Lib.hid hcof; clear hcof
      refine wp_region_noPanic ?_
      refine wp_region_go 99 4 #[false, false, false, false] (by kernel_rfl) rfl rfl ?_
      intro W7 hW7
      rw [← hW7] at M1 M2 M5 HB
      clear hW7
      refine go_take2 0 19 #[true, false, false, false] rfl rfl rfl (by kernel_rfl) (yieldsIf_load_row (by rfl) 40 _ rfl (uw1.heap.size) rfl 40 (r22 n0) (fun _ h => M5.out.below h M5.out.lt) Try.underlying40 rfl (by rw [r22_size]; kernel_rfl)) ((below_dr W7)) ?_
      (try simp only [sI, sS, sZ])
      refine go_take2 2 21 #[true, false, true, false] rfl rfl rfl (by kernel_rfl) (yieldsIf_load_row (by rfl) 24 _ rfl (w.heap.size) rfl 24 (k32 n0) (fun _ h => M1.out.below h M1.out.lt) Try.underlying24 rfl (by rw [k32_size]; kernel_rfl)) ((below_dr W7)) ?_
      (try simp only [sI, sS, sZ])
      refine wpBut_r1 (i := 1) (by kernel_rfl) ?_
      refine go_call 1 20 #[true, true, true, false] rfl rfl rfl (by rfl) rfl rfl (by rfl) ent74 (by rfl) (Hrk.out _) ?_
      rintro e wW71 ⟨rfl, hb⟩
      have hkW71 := held_next (below_dr W7) hb
      refine ⟨_, rfl, fun _ => hkW71, ?_⟩
      clear hb
      (try simp only [sI, sS, sZ])
      refine go_take2 3 22 #[true, true, true, true] (v := ?uv33) rfl rfl rfl (by kernel_rfl) (Or.inl ⟨by rfl, ?uy33⟩) (hkW71) ?urest33
      case uy33 => (intro _ _; go_simp; try with_reducible rfl)
      (try simp only [sI, sS, sZ])
      refine wpBut_done (by kernel_rfl) (NoPanic.normal ?_)
      replace M1 := Lib.hid (M1.out.call hkW71)
      replace M2 := Lib.hid (M2.out.call hkW71)
      replace M5 := Lib.hid (M5.out.call hkW71)
      replace HB := Lib.hid (held_next HB.out hkW71)
      clear heq
      repeat ((fail_if_success (with_reducible (show wpList _ _ _ _ _ _))); go_step)
      have hint := fun w => rint_nn 1 (by decide) w
      rw [one_PP] at hint
      have ht1 := fun w => rtimes_any n0 n0 Hlt.out Hlt.out w
      obtain ⟨sq, hsq⟩ : ∃ s, s = n0 * n0 % PP := ⟨_, rfl⟩
      rw [← hsq] at ht1
      have hsql : sq < PP := by rw [hsq]; exact Nat.mod_lt _ PP_pos
      have h1l : 1 < PP := by have := PP_val; omega
      have hm1 := fun w => rminus_any sq 1 hsql h1l w
      obtain ⟨e1, he1⟩ : ∃ s, s = (sq + (PP - 1)) % PP := ⟨_, rfl⟩
      rw [← he1] at hm1
      have he1l : e1 < PP := by rw [he1]; exact Nat.mod_lt _ PP_pos
      have ht2 := fun w => rtimes_any SL sq SL_lt hsql w
      obtain ⟨e2, he2⟩ : ∃ s, s = SL * sq % PP := ⟨_, rfl⟩
      rw [← he2] at ht2
      have he2l : e2 < PP := by rw [he2]; exact Nat.mod_lt _ PP_pos
      have hp1 := fun w => rplus_any e2 1 (PPr_22 _ he2l) (PPr_22 _ h1l) w
      obtain ⟨e3, he3⟩ : ∃ s, s = (e2 + 1) % PP := ⟨_, rfl⟩
      rw [← he3] at hp1
      have he3l : e3 < PP := by rw [he3]; exact Nat.mod_lt _ PP_pos
      have ho1 := fun w => rover_any e1 e3 he1l he3l w
      obtain ⟨C, hC⟩ : ∃ s, s = e1 * pwm e3 (PP - 2) % PP := ⟨_, rfl⟩
      rw [← hC] at ho1
      have hCl : C < PP := by rw [hC]; exact Nat.mod_lt _ PP_pos
      have hcc := cx_def n0 sq e1 e2 e3 C hsq he1 he2 he3 hC
      have hrr := fun w => rroot_any C hCl w
      have hcof2 := Hcof.out
      rw [hcc] at hcof2
      clear Hcof
      have Hcof := Lib.hid hcof2; clear hcof2 hcc hCl hC he3l he3 he2l he2 he1l he1 hsql hsq h1l
      obtain ⟨ok, hok⟩ : ∃ ok, ok = rtok C := ⟨_, rfl⟩
      obtain ⟨R3, hR3⟩ : ∃ R, R = rt3 C := ⟨_, rfl⟩
      have hR3l : R3 < PP := by rw [hR3]; exact rt3_lt C
      rw [← hok, ← hR3] at hrr
      have Hint := Lib.hid hint; clear hint
      have Ht1 := Lib.hid ht1; clear ht1
      have Hm1 := Lib.hid hm1; clear hm1
      have Ht2 := Lib.hid ht2; clear ht2
      have Hp1 := Lib.hid hp1; clear hp1
      have Ho1 := Lib.hid ho1; clear ho1
      have Hrr := Lib.hid hrr; clear hrr
      have Hok := Lib.hid hok; clear hok
      have HR3 := Lib.hid hR3; clear hR3
      have HR3l := Lib.hid hR3l; clear hR3l
      refine wpList_call (by rfl) rfl rfl (by rfl) ent35 (by rfl) (Hint.out _) 24 rfl ?_
      rintro e uw2 ⟨rfl, hb⟩
      replace M1 := Lib.hid (M1.out.call hb)
      replace M2 := Lib.hid (M2.out.call hb)
      replace M5 := Lib.hid (M5.out.call hb)
      replace HB := Lib.hid (held_next HB.out hb)
      refine ⟨_, rfl, ?_⟩
      clear hb
      (try simp only [Act.put, sI, sS, sZ])
      refine wpList_alloc (by rfl) 40 rfl _ al40 6 rfl ?_
      intro yw8 hw2
      have hlt9 := M1.out.lt
      have hlt10 := M2.out.lt
      have hlt11 := M5.out.lt
      have hsz := HB.out.size
      replace M1 := Lib.hid (M1.out.alloc (.cells z40 40))
      replace M2 := Lib.hid (M2.out.alloc (.cells z40 40))
      replace M5 := Lib.hid (M5.out.alloc (.cells z40 40))
      have M6 := Lib.hid (HasN.new uw2 z40 40 22 (by kernel_rfl))
      replace HB := Lib.hid (HB.out.alloc hsz (.cells z40 40))
      rw [← hw2] at M1 M2 M5 M6 HB; clear hw2
      (try simp only [Act.put, sI, sS, sZ])
      first | (obtain ⟨Zq, hZ, mZ⟩ := M6.out) | (obtain ⟨Zq, hZ, mZ⟩ := M6.out.toN (r22_size ..))
      refine wpList_store2 (by rfl) 40 _ _ rfl rfl (uw2.heap.size) (r22 1) rfl rfl 40 Zq mZ (by rw [r22_size]; kernel_rfl) (hZ.trans (r22_size ..).symm) (row_one _ _ _) ?_
      intro yw12 hw2
      replace M1 := Lib.hid (M1.out.setRow_other (uw2.heap.size) (r22 1) (by omega))
      replace M2 := Lib.hid (M2.out.setRow_other (uw2.heap.size) (r22 1) (by omega))
      replace M5 := Lib.hid (M5.out.setRow_other (uw2.heap.size) (r22 1) (by omega))
      replace M6 := Lib.hid (mZ.setRow (r22 1))
      replace HB := Lib.hid (below_setRow HB.out (uw2.heap.size) (r22 1) (by omega))
      rw [← hw2] at M1 M2 M5 M6 HB; clear mZ hZ hw2
      refine wpList_nil ?_
      repeat ((fail_if_success (with_reducible (show wpList _ _ _ _ _ _))); go_step)
      refine wpList_load (by rfl) 40 _ rfl (uw1.heap.size) rfl 40 (r22 n0) M5.out Try.underlying40 rfl (by rw [r22_size]; kernel_rfl) 25 rfl ?_
      (try simp only [Act.put, sI, sS, sZ])
      refine wpList_load (by rfl) 40 _ rfl (uw1.heap.size) rfl 40 (r22 n0) M5.out Try.underlying40 rfl (by rw [r22_size]; kernel_rfl) 26 rfl ?_
      (try simp only [Act.put, sI, sS, sZ])
      refine wpList_call (by rfl) rfl rfl (by rfl) ent32 (by rfl) (Ht1.out _) 27 rfl ?_
      rintro e uw3 ⟨rfl, hb⟩
      replace M1 := Lib.hid (M1.out.call hb)
      replace M2 := Lib.hid (M2.out.call hb)
      replace M5 := Lib.hid (M5.out.call hb)
      replace M6 := Lib.hid (M6.out.call hb)
      replace HB := Lib.hid (held_next HB.out hb)
      refine ⟨_, rfl, ?_⟩
      clear hb
      (try simp only [Act.put, sI, sS, sZ])
      refine wpList_alloc (by rfl) 40 rfl _ al40 7 rfl ?_
      intro yw13 hw2
      have hlt14 := M1.out.lt
      have hlt15 := M2.out.lt
      have hlt16 := M5.out.lt
      have hlt17 := M6.out.lt
      have hsz := HB.out.size
      replace M1 := Lib.hid (M1.out.alloc (.cells z40 40))
      replace M2 := Lib.hid (M2.out.alloc (.cells z40 40))
      replace M5 := Lib.hid (M5.out.alloc (.cells z40 40))
      replace M6 := Lib.hid (M6.out.alloc (.cells z40 40))
      have M7 := Lib.hid (HasN.new uw3 z40 40 22 (by kernel_rfl))
      replace HB := Lib.hid (HB.out.alloc hsz (.cells z40 40))
      rw [← hw2] at M1 M2 M5 M6 M7 HB; clear hw2
      (try simp only [Act.put, sI, sS, sZ])
      first | (obtain ⟨Zq, hZ, mZ⟩ := M7.out) | (obtain ⟨Zq, hZ, mZ⟩ := M7.out.toN (r22_size ..))
      refine wpList_store2 (by rfl) 40 _ _ rfl rfl (uw3.heap.size) (r22 sq) rfl rfl 40 Zq mZ (by rw [r22_size]; kernel_rfl) (hZ.trans (r22_size ..).symm) (row_one _ _ _) ?_
      intro yw18 hw2
      replace M1 := Lib.hid (M1.out.setRow_other (uw3.heap.size) (r22 sq) (by omega))
      replace M2 := Lib.hid (M2.out.setRow_other (uw3.heap.size) (r22 sq) (by omega))
      replace M5 := Lib.hid (M5.out.setRow_other (uw3.heap.size) (r22 sq) (by omega))
      replace M6 := Lib.hid (M6.out.setRow_other (uw3.heap.size) (r22 sq) (by omega))
      replace M7 := Lib.hid (mZ.setRow (r22 sq))
      replace HB := Lib.hid (below_setRow HB.out (uw3.heap.size) (r22 sq) (by omega))
      rw [← hw2] at M1 M2 M5 M6 M7 HB; clear mZ hZ hw2
      refine wpList_nil ?_
      repeat ((fail_if_success (with_reducible (show wpList _ _ _ _ _ _))); go_step)
      refine wp_region_meet (α := Nat) (fun W0 x w' => W0.heap.size ≤ x ∧ Has w' x (r22 R3) 40 ∧ Below W0.heap.size W0 w') (fun ac x => (((((((((((((((ac.put (some 29) (.agg (r22 sq))).put (some 30) (.agg (r22 1))).put (some 31) (.agg (r22 e1))).put (some 32) (.agg (r22 SL))).put (some 33) (.agg (r22 sq))).put (some 34) (.agg (r22 e2))).put (some 35) (.agg (r22 1))).put (some 36) (.agg (r22 e3))).put (some 37) (.agg (r22 C))).put (some 38) (.tuple #[.agg (r22 R3), .bool ok])).put (some 28) (.tuple #[.agg (r22 R3), .bool ok])).put (some 39) (.agg (r22 R3))).put (some 40) (.bool ok)).put (some 9) (.bool ok)).put (some 8) (.pointer (some ⟨x, 0, none⟩)))) ?_ ?_
      · intro Q' hQ'
        refine wp_region_noPanic ?_
        refine wp_region_go 99 16 #[ff,ff,ff,ff,ff,ff,ff,ff,ff,ff,ff,ff,ff,ff,ff,ff] (by kernel_rfl) rfl rfl ?_
        intro W19 hW19
        rw [← hW19] at hQ'
        simp only [Act.put, List.setIfInBounds_toArray, List.set_cons_succ, List.set_cons_zero] at hQ'
        have HQ := Lib.hid hQ'; clear hQ'
        rw [← hW19] at M1 M2 M5 M6 M7 HB
        clear hW19
        refine go_take2 0 29 #[tt,ff,ff,ff,ff,ff,ff,ff,ff,ff,ff,ff,ff,ff,ff,ff] rfl rfl rfl (by kernel_rfl) (yieldsIf_load_row (by rfl) 40 _ rfl (uw3.heap.size) rfl 40 (r22 sq) (fun _ h => M7.out.below h M7.out.lt) Try.underlying40 rfl (by rw [r22_size]; kernel_rfl)) ((below_dr W19)) ?_
        (try simp only [sI, sS, sZ])
        refine go_take2 1 30 #[tt,tt,ff,ff,ff,ff,ff,ff,ff,ff,ff,ff,ff,ff,ff,ff] rfl rfl rfl (by kernel_rfl) (yieldsIf_load_row (by rfl) 40 _ rfl (uw2.heap.size) rfl 40 (r22 1) (fun _ h => M6.out.below h M6.out.lt) Try.underlying40 rfl (by rw [r22_size]; kernel_rfl)) ((below_dr W19)) ?_
        (try simp only [sI, sS, sZ])
        refine go_take2 4 33 #[tt,tt,ff,ff,tt,ff,ff,ff,ff,ff,ff,ff,ff,ff,ff,ff] rfl rfl rfl (by kernel_rfl) (yieldsIf_load_row (by rfl) 40 _ rfl (uw3.heap.size) rfl 40 (r22 sq) (fun _ h => M7.out.below h M7.out.lt) Try.underlying40 rfl (by rw [r22_size]; kernel_rfl)) ((below_dr W19)) ?_
        (try simp only [sI, sS, sZ])
        refine go_take2 6 35 #[tt,tt,ff,ff,tt,ff,tt,ff,ff,ff,ff,ff,ff,ff,ff,ff] rfl rfl rfl (by kernel_rfl) (yieldsIf_load_row (by rfl) 40 _ rfl (uw2.heap.size) rfl 40 (r22 1) (fun _ h => M6.out.below h M6.out.lt) Try.underlying40 rfl (by rw [r22_size]; kernel_rfl)) ((below_dr W19)) ?_
        (try simp only [sI, sS, sZ])
        refine wpBut_r2 (i := 2) (j := 13) (by kernel_rfl) ?_ ?_
        refine go_call 2 31 #[tt,tt,tt,ff,tt,ff,tt,ff,ff,ff,ff,ff,ff,ff,ff,ff] rfl rfl rfl (by rfl) rfl rfl (by rfl) ent40 (by rfl) (Hm1.out _) ?_
        rintro e wW191 ⟨rfl, hb⟩
        have hkW191 := held_next (below_dr W19) hb
        refine ⟨_, rfl, fun _ => hkW191, ?_⟩
        clear hb
        (try simp only [sI, sS, sZ])
        refine wpBut_r2 (i := 3) (j := 13) (by kernel_rfl) ?_ ?_
        refine go_call 3 32 #[tt,tt,tt,tt,tt,ff,tt,ff,ff,ff,ff,ff,ff,ff,ff,ff] rfl rfl rfl (by rfl) rfl rfl (by rfl) ent89 (by rfl) (rslope_any _) ?_
        rintro e wW192 ⟨rfl, hb⟩
        have hkW192 := held_next hkW191 hb
        refine ⟨_, rfl, fun _ => hkW192, ?_⟩
        clear hb
        (try simp only [sI, sS, sZ])
        refine wpBut_r2 (i := 5) (j := 13) (by kernel_rfl) ?_ ?_
        refine go_call 5 34 #[tt,tt,tt,tt,tt,tt,tt,ff,ff,ff,ff,ff,ff,ff,ff,ff] rfl rfl rfl (by rfl) rfl rfl (by rfl) ent32 (by rfl) (Ht2.out _) ?_
        rintro e wW193 ⟨rfl, hb⟩
        have hkW193 := held_next hkW192 hb
        refine ⟨_, rfl, fun _ => hkW193, ?_⟩
        clear hb
        (try simp only [sI, sS, sZ])
        refine wpBut_r2 (i := 7) (j := 13) (by kernel_rfl) ?_ ?_
        refine go_call 7 36 #[tt,tt,tt,tt,tt,tt,tt,tt,ff,ff,ff,ff,ff,ff,ff,ff] rfl rfl rfl (by rfl) rfl rfl (by rfl) ent38 (by rfl) (Hp1.out _) ?_
        rintro e wW194 ⟨rfl, hb⟩
        have hkW194 := held_next hkW193 hb
        refine ⟨_, rfl, fun _ => hkW194, ?_⟩
        clear hb
        (try simp only [sI, sS, sZ])
        refine wpBut_r2 (i := 8) (j := 13) (by kernel_rfl) ?_ ?_
        refine go_call 8 37 #[tt,tt,tt,tt,tt,tt,tt,tt,tt,ff,ff,ff,ff,ff,ff,ff] rfl rfl rfl (by rfl) rfl rfl (by rfl) ent43 (by rfl) (Ho1.out _) ?_
        rintro e wW195 ⟨rfl, hb⟩
        have hkW195 := held_next hkW194 hb
        refine ⟨_, rfl, fun _ => hkW195, ?_⟩
        clear hb
        (try simp only [sI, sS, sZ])
        refine wpBut_r2 (i := 9) (j := 13) (by kernel_rfl) ?_ ?_
        refine go_call 9 38 #[tt,tt,tt,tt,tt,tt,tt,tt,tt,tt,ff,ff,ff,ff,ff,ff] rfl rfl rfl (by rfl) rfl rfl (by rfl) ent45 (by rfl) (Hrr.out _) ?_
        rintro e wW196 ⟨rfl, hb⟩
        have hkW196 := held_next hkW195 hb
        refine ⟨_, rfl, fun _ => hkW196, ?_⟩
        clear hb
        (try simp only [sI, sS, sZ])
        refine go_take2 10 28 #[tt,tt,tt,tt,tt,tt,tt,tt,tt,tt,tt,ff,ff,ff,ff,ff] (v := ?uv34) rfl rfl rfl (by kernel_rfl) (Or.inl ⟨by rfl, ?uy34⟩) (hkW196) ?urest34
        case uy34 => (intro _ _; go_simp; try with_reducible rfl)
        (try simp only [sI, sS, sZ])
        refine go_take2 11 39 #[tt,tt,tt,tt,tt,tt,tt,tt,tt,tt,tt,tt,ff,ff,ff,ff] (v := ?uv35) rfl rfl rfl (by kernel_rfl) (Or.inl ⟨by rfl, ?uy35⟩) (hkW196) ?urest35
        case uy35 => (intro _ _; go_simp; try with_reducible rfl)
        (try simp only [sI, sS, sZ])
        refine go_take2 12 40 #[tt,tt,tt,tt,tt,tt,tt,tt,tt,tt,tt,tt,tt,ff,ff,ff] (v := ?uv36) rfl rfl rfl (by kernel_rfl) (Or.inl ⟨by rfl, ?uy36⟩) (hkW196) ?urest36
        case uy36 => (intro _ _; go_simp; try with_reducible rfl)
        (try simp only [sI, sS, sZ])
        refine wpBut_r1 (i := 13) (by kernel_rfl) ?_
        refine go_alloc 13 8 #[tt,tt,tt,tt,tt,tt,tt,tt,tt,tt,tt,tt,tt,tt,ff,ff] rfl rfl rfl (by rfl) 40 rfl _ al40 ?_
        intro wW197 hw2
        have hkW197 := (hkW196).alloc (hkW196).size (.cells z40 40)
        rw [← hw2] at hkW197
        have MA13 := Lib.hid (HasN.new (wW196) z40 40 22 (by kernel_rfl))
        rw [← hw2] at MA13
        have HA13 := Lib.hid (show W19.heap.size ≤ _ from (hkW196).size)
        clear hw2
        refine ⟨fun _ => hkW197, ?_⟩
        (try simp only [sI, sS, sZ])
        refine wpBut_r1 (i := 14) (by kernel_rfl) ?_
        obtain ⟨Zq, hZ, mZ⟩ := MA13.out
        refine go_store2 14 #[tt,tt,tt,tt,tt,tt,tt,tt,tt,tt,tt,tt,tt,tt,tt,ff] rfl rfl rfl (by rfl) 40 _ _ rfl _ _ rfl rfl 40 Zq mZ (by rw [r22_size]; kernel_rfl) (hZ.trans (r22_size ..).symm) (row_one _ _ _) ?_
        intro wW198 hw2
        have hkW198 := below_setRow (hkW197) _ (r22 R3) HA13.out
        rw [← hw2] at hkW198
        clear MA13
        have MA13 := Lib.hid (mZ.setRow (r22 R3))
        rw [← hw2] at MA13; clear mZ hZ hw2
        refine ⟨fun _ => hkW198, ?_⟩
        (try simp only [sI, sS, sZ])
        refine go_take2 15 9 #[tt,tt,tt,tt,tt,tt,tt,tt,tt,tt,tt,tt,tt,tt,tt,tt] (v := ?uv37) rfl rfl rfl (by kernel_rfl) (Or.inl ⟨by rfl, ?uy37⟩) (hkW198) ?urest37
        case uy37 => (intro _ _; go_simp; try with_reducible rfl)
        (try simp only [sI, sS, sZ])
        exact wpBut_done (by kernel_rfl) (NoPanic.normal (HQ.out (_) _ ⟨HA13.out, MA13.out, (hkW198)⟩))
        refine go_alloc 13 8 #[tt,tt,tt,tt,tt,tt,tt,tt,tt,ff,ff,ff,ff,tt,ff,ff] rfl rfl rfl (by rfl) 40 rfl _ al40 ?_
        intro wW196 hw2
        have hkW196 := (hkW195).alloc (hkW195).size (.cells z40 40)
        rw [← hw2] at hkW196
        have MA13 := Lib.hid (HasN.new (wW195) z40 40 22 (by kernel_rfl))
        rw [← hw2] at MA13
        have HA13 := Lib.hid (show W19.heap.size ≤ _ from (hkW195).size)
        clear hw2
        refine ⟨fun _ => hkW196, ?_⟩
        (try simp only [sI, sS, sZ])
        refine wpBut_r1 (i := 9) (by kernel_rfl) ?_
        refine go_call 9 38 #[tt,tt,tt,tt,tt,tt,tt,tt,tt,tt,ff,ff,ff,tt,ff,ff] rfl rfl rfl (by rfl) rfl rfl (by rfl) ent45 (by rfl) (Hrr.out _) ?_
        rintro e wW197 ⟨rfl, hb⟩
        have hkW197 := held_next hkW196 hb
        replace MA13 := Lib.hid (MA13.out.call hb)
        refine ⟨_, rfl, fun _ => hkW197, ?_⟩
        clear hb
        (try simp only [sI, sS, sZ])
        refine go_take2 10 28 #[tt,tt,tt,tt,tt,tt,tt,tt,tt,tt,tt,ff,ff,tt,ff,ff] (v := ?uv38) rfl rfl rfl (by kernel_rfl) (Or.inl ⟨by rfl, ?uy38⟩) (hkW197) ?urest38
        case uy38 => (intro _ _; go_simp; try with_reducible rfl)
        (try simp only [sI, sS, sZ])
        refine go_take2 11 39 #[tt,tt,tt,tt,tt,tt,tt,tt,tt,tt,tt,tt,ff,tt,ff,ff] (v := ?uv39) rfl rfl rfl (by kernel_rfl) (Or.inl ⟨by rfl, ?uy39⟩) (hkW197) ?urest39
        case uy39 => (intro _ _; go_simp; try with_reducible rfl)
        (try simp only [sI, sS, sZ])
        refine go_take2 12 40 #[tt,tt,tt,tt,tt,tt,tt,tt,tt,tt,tt,tt,tt,tt,ff,ff] (v := ?uv40) rfl rfl rfl (by kernel_rfl) (Or.inl ⟨by rfl, ?uy40⟩) (hkW197) ?urest40
        case uy40 => (intro _ _; go_simp; try with_reducible rfl)
        (try simp only [sI, sS, sZ])
        refine wpBut_r1 (i := 14) (by kernel_rfl) ?_
        obtain ⟨Zq, hZ, mZ⟩ := MA13.out
        refine go_store2 14 #[tt,tt,tt,tt,tt,tt,tt,tt,tt,tt,tt,tt,tt,tt,tt,ff] rfl rfl rfl (by rfl) 40 _ _ rfl _ _ rfl rfl 40 Zq mZ (by rw [r22_size]; kernel_rfl) (hZ.trans (r22_size ..).symm) (row_one _ _ _) ?_
        intro wW198 hw2
        have hkW198 := below_setRow (hkW197) _ (r22 R3) HA13.out
        rw [← hw2] at hkW198
        clear MA13
        have MA13 := Lib.hid (mZ.setRow (r22 R3))
        rw [← hw2] at MA13; clear mZ hZ hw2
        refine ⟨fun _ => hkW198, ?_⟩
        (try simp only [sI, sS, sZ])
        refine go_take2 15 9 #[tt,tt,tt,tt,tt,tt,tt,tt,tt,tt,tt,tt,tt,tt,tt,tt] (v := ?uv41) rfl rfl rfl (by kernel_rfl) (Or.inl ⟨by rfl, ?uy41⟩) (hkW198) ?urest41
        case uy41 => (intro _ _; go_simp; try with_reducible rfl)
        (try simp only [sI, sS, sZ])
        exact wpBut_done (by kernel_rfl) (NoPanic.normal (HQ.out (_) _ ⟨HA13.out, MA13.out, (hkW198)⟩))
        refine go_alloc 13 8 #[tt,tt,tt,tt,tt,tt,tt,tt,ff,ff,ff,ff,ff,tt,ff,ff] rfl rfl rfl (by rfl) 40 rfl _ al40 ?_
        intro wW195 hw2
        have hkW195 := (hkW194).alloc (hkW194).size (.cells z40 40)
        rw [← hw2] at hkW195
        have MA13 := Lib.hid (HasN.new (wW194) z40 40 22 (by kernel_rfl))
        rw [← hw2] at MA13
        have HA13 := Lib.hid (show W19.heap.size ≤ _ from (hkW194).size)
        clear hw2
        refine ⟨fun _ => hkW195, ?_⟩
        (try simp only [sI, sS, sZ])
        refine wpBut_r1 (i := 8) (by kernel_rfl) ?_
        refine go_call 8 37 #[tt,tt,tt,tt,tt,tt,tt,tt,tt,ff,ff,ff,ff,tt,ff,ff] rfl rfl rfl (by rfl) rfl rfl (by rfl) ent43 (by rfl) (Ho1.out _) ?_
        rintro e wW196 ⟨rfl, hb⟩
        have hkW196 := held_next hkW195 hb
        replace MA13 := Lib.hid (MA13.out.call hb)
        refine ⟨_, rfl, fun _ => hkW196, ?_⟩
        clear hb
        (try simp only [sI, sS, sZ])
        refine wpBut_r1 (i := 9) (by kernel_rfl) ?_
        refine go_call 9 38 #[tt,tt,tt,tt,tt,tt,tt,tt,tt,tt,ff,ff,ff,tt,ff,ff] rfl rfl rfl (by rfl) rfl rfl (by rfl) ent45 (by rfl) (Hrr.out _) ?_
        rintro e wW197 ⟨rfl, hb⟩
        have hkW197 := held_next hkW196 hb
        replace MA13 := Lib.hid (MA13.out.call hb)
        refine ⟨_, rfl, fun _ => hkW197, ?_⟩
        clear hb
        (try simp only [sI, sS, sZ])
        refine go_take2 10 28 #[tt,tt,tt,tt,tt,tt,tt,tt,tt,tt,tt,ff,ff,tt,ff,ff] (v := ?uv42) rfl rfl rfl (by kernel_rfl) (Or.inl ⟨by rfl, ?uy42⟩) (hkW197) ?urest42
        case uy42 => (intro _ _; go_simp; try with_reducible rfl)
        (try simp only [sI, sS, sZ])
        refine go_take2 11 39 #[tt,tt,tt,tt,tt,tt,tt,tt,tt,tt,tt,tt,ff,tt,ff,ff] (v := ?uv43) rfl rfl rfl (by kernel_rfl) (Or.inl ⟨by rfl, ?uy43⟩) (hkW197) ?urest43
        case uy43 => (intro _ _; go_simp; try with_reducible rfl)
        (try simp only [sI, sS, sZ])
        refine go_take2 12 40 #[tt,tt,tt,tt,tt,tt,tt,tt,tt,tt,tt,tt,tt,tt,ff,ff] (v := ?uv44) rfl rfl rfl (by kernel_rfl) (Or.inl ⟨by rfl, ?uy44⟩) (hkW197) ?urest44
        case uy44 => (intro _ _; go_simp; try with_reducible rfl)
        (try simp only [sI, sS, sZ])
        refine wpBut_r1 (i := 14) (by kernel_rfl) ?_
        obtain ⟨Zq, hZ, mZ⟩ := MA13.out
        refine go_store2 14 #[tt,tt,tt,tt,tt,tt,tt,tt,tt,tt,tt,tt,tt,tt,tt,ff] rfl rfl rfl (by rfl) 40 _ _ rfl _ _ rfl rfl 40 Zq mZ (by rw [r22_size]; kernel_rfl) (hZ.trans (r22_size ..).symm) (row_one _ _ _) ?_
        intro wW198 hw2
        have hkW198 := below_setRow (hkW197) _ (r22 R3) HA13.out
        rw [← hw2] at hkW198
        clear MA13
        have MA13 := Lib.hid (mZ.setRow (r22 R3))
        rw [← hw2] at MA13; clear mZ hZ hw2
        refine ⟨fun _ => hkW198, ?_⟩
        (try simp only [sI, sS, sZ])
        refine go_take2 15 9 #[tt,tt,tt,tt,tt,tt,tt,tt,tt,tt,tt,tt,tt,tt,tt,tt] (v := ?uv45) rfl rfl rfl (by kernel_rfl) (Or.inl ⟨by rfl, ?uy45⟩) (hkW198) ?urest45
        case uy45 => (intro _ _; go_simp; try with_reducible rfl)
        (try simp only [sI, sS, sZ])
        exact wpBut_done (by kernel_rfl) (NoPanic.normal (HQ.out (_) _ ⟨HA13.out, MA13.out, (hkW198)⟩))
        refine go_alloc 13 8 #[tt,tt,tt,tt,tt,tt,tt,ff,ff,ff,ff,ff,ff,tt,ff,ff] rfl rfl rfl (by rfl) 40 rfl _ al40 ?_
        intro wW194 hw2
        have hkW194 := (hkW193).alloc (hkW193).size (.cells z40 40)
        rw [← hw2] at hkW194
        have MA13 := Lib.hid (HasN.new (wW193) z40 40 22 (by kernel_rfl))
        rw [← hw2] at MA13
        have HA13 := Lib.hid (show W19.heap.size ≤ _ from (hkW193).size)
        clear hw2
        refine ⟨fun _ => hkW194, ?_⟩
        (try simp only [sI, sS, sZ])
        refine wpBut_r1 (i := 7) (by kernel_rfl) ?_
        refine go_call 7 36 #[tt,tt,tt,tt,tt,tt,tt,tt,ff,ff,ff,ff,ff,tt,ff,ff] rfl rfl rfl (by rfl) rfl rfl (by rfl) ent38 (by rfl) (Hp1.out _) ?_
        rintro e wW195 ⟨rfl, hb⟩
        have hkW195 := held_next hkW194 hb
        replace MA13 := Lib.hid (MA13.out.call hb)
        refine ⟨_, rfl, fun _ => hkW195, ?_⟩
        clear hb
        (try simp only [sI, sS, sZ])
        refine wpBut_r1 (i := 8) (by kernel_rfl) ?_
        refine go_call 8 37 #[tt,tt,tt,tt,tt,tt,tt,tt,tt,ff,ff,ff,ff,tt,ff,ff] rfl rfl rfl (by rfl) rfl rfl (by rfl) ent43 (by rfl) (Ho1.out _) ?_
        rintro e wW196 ⟨rfl, hb⟩
        have hkW196 := held_next hkW195 hb
        replace MA13 := Lib.hid (MA13.out.call hb)
        refine ⟨_, rfl, fun _ => hkW196, ?_⟩
        clear hb
        (try simp only [sI, sS, sZ])
        refine wpBut_r1 (i := 9) (by kernel_rfl) ?_
        refine go_call 9 38 #[tt,tt,tt,tt,tt,tt,tt,tt,tt,tt,ff,ff,ff,tt,ff,ff] rfl rfl rfl (by rfl) rfl rfl (by rfl) ent45 (by rfl) (Hrr.out _) ?_
        rintro e wW197 ⟨rfl, hb⟩
        have hkW197 := held_next hkW196 hb
        replace MA13 := Lib.hid (MA13.out.call hb)
        refine ⟨_, rfl, fun _ => hkW197, ?_⟩
        clear hb
        (try simp only [sI, sS, sZ])
        refine go_take2 10 28 #[tt,tt,tt,tt,tt,tt,tt,tt,tt,tt,tt,ff,ff,tt,ff,ff] (v := ?uv46) rfl rfl rfl (by kernel_rfl) (Or.inl ⟨by rfl, ?uy46⟩) (hkW197) ?urest46
        case uy46 => (intro _ _; go_simp; try with_reducible rfl)
        (try simp only [sI, sS, sZ])
        refine go_take2 11 39 #[tt,tt,tt,tt,tt,tt,tt,tt,tt,tt,tt,tt,ff,tt,ff,ff] (v := ?uv47) rfl rfl rfl (by kernel_rfl) (Or.inl ⟨by rfl, ?uy47⟩) (hkW197) ?urest47
        case uy47 => (intro _ _; go_simp; try with_reducible rfl)
        (try simp only [sI, sS, sZ])
        refine go_take2 12 40 #[tt,tt,tt,tt,tt,tt,tt,tt,tt,tt,tt,tt,tt,tt,ff,ff] (v := ?uv48) rfl rfl rfl (by kernel_rfl) (Or.inl ⟨by rfl, ?uy48⟩) (hkW197) ?urest48
        case uy48 => (intro _ _; go_simp; try with_reducible rfl)
        (try simp only [sI, sS, sZ])
        refine wpBut_r1 (i := 14) (by kernel_rfl) ?_
        obtain ⟨Zq, hZ, mZ⟩ := MA13.out
        refine go_store2 14 #[tt,tt,tt,tt,tt,tt,tt,tt,tt,tt,tt,tt,tt,tt,tt,ff] rfl rfl rfl (by rfl) 40 _ _ rfl _ _ rfl rfl 40 Zq mZ (by rw [r22_size]; kernel_rfl) (hZ.trans (r22_size ..).symm) (row_one _ _ _) ?_
        intro wW198 hw2
        have hkW198 := below_setRow (hkW197) _ (r22 R3) HA13.out
        rw [← hw2] at hkW198
        clear MA13
        have MA13 := Lib.hid (mZ.setRow (r22 R3))
        rw [← hw2] at MA13; clear mZ hZ hw2
        refine ⟨fun _ => hkW198, ?_⟩
        (try simp only [sI, sS, sZ])
        refine go_take2 15 9 #[tt,tt,tt,tt,tt,tt,tt,tt,tt,tt,tt,tt,tt,tt,tt,tt] (v := ?uv49) rfl rfl rfl (by kernel_rfl) (Or.inl ⟨by rfl, ?uy49⟩) (hkW198) ?urest49
        case uy49 => (intro _ _; go_simp; try with_reducible rfl)
        (try simp only [sI, sS, sZ])
        exact wpBut_done (by kernel_rfl) (NoPanic.normal (HQ.out (_) _ ⟨HA13.out, MA13.out, (hkW198)⟩))
        refine go_alloc 13 8 #[tt,tt,tt,tt,tt,ff,tt,ff,ff,ff,ff,ff,ff,tt,ff,ff] rfl rfl rfl (by rfl) 40 rfl _ al40 ?_
        intro wW193 hw2
        have hkW193 := (hkW192).alloc (hkW192).size (.cells z40 40)
        rw [← hw2] at hkW193
        have MA13 := Lib.hid (HasN.new (wW192) z40 40 22 (by kernel_rfl))
        rw [← hw2] at MA13
        have HA13 := Lib.hid (show W19.heap.size ≤ _ from (hkW192).size)
        clear hw2
        refine ⟨fun _ => hkW193, ?_⟩
        (try simp only [sI, sS, sZ])
        refine wpBut_r1 (i := 5) (by kernel_rfl) ?_
        refine go_call 5 34 #[tt,tt,tt,tt,tt,tt,tt,ff,ff,ff,ff,ff,ff,tt,ff,ff] rfl rfl rfl (by rfl) rfl rfl (by rfl) ent32 (by rfl) (Ht2.out _) ?_
        rintro e wW194 ⟨rfl, hb⟩
        have hkW194 := held_next hkW193 hb
        replace MA13 := Lib.hid (MA13.out.call hb)
        refine ⟨_, rfl, fun _ => hkW194, ?_⟩
        clear hb
        (try simp only [sI, sS, sZ])
        refine wpBut_r1 (i := 7) (by kernel_rfl) ?_
        refine go_call 7 36 #[tt,tt,tt,tt,tt,tt,tt,tt,ff,ff,ff,ff,ff,tt,ff,ff] rfl rfl rfl (by rfl) rfl rfl (by rfl) ent38 (by rfl) (Hp1.out _) ?_
        rintro e wW195 ⟨rfl, hb⟩
        have hkW195 := held_next hkW194 hb
        replace MA13 := Lib.hid (MA13.out.call hb)
        refine ⟨_, rfl, fun _ => hkW195, ?_⟩
        clear hb
        (try simp only [sI, sS, sZ])
        refine wpBut_r1 (i := 8) (by kernel_rfl) ?_
        refine go_call 8 37 #[tt,tt,tt,tt,tt,tt,tt,tt,tt,ff,ff,ff,ff,tt,ff,ff] rfl rfl rfl (by rfl) rfl rfl (by rfl) ent43 (by rfl) (Ho1.out _) ?_
        rintro e wW196 ⟨rfl, hb⟩
        have hkW196 := held_next hkW195 hb
        replace MA13 := Lib.hid (MA13.out.call hb)
        refine ⟨_, rfl, fun _ => hkW196, ?_⟩
        clear hb
        (try simp only [sI, sS, sZ])
        refine wpBut_r1 (i := 9) (by kernel_rfl) ?_
        refine go_call 9 38 #[tt,tt,tt,tt,tt,tt,tt,tt,tt,tt,ff,ff,ff,tt,ff,ff] rfl rfl rfl (by rfl) rfl rfl (by rfl) ent45 (by rfl) (Hrr.out _) ?_
        rintro e wW197 ⟨rfl, hb⟩
        have hkW197 := held_next hkW196 hb
        replace MA13 := Lib.hid (MA13.out.call hb)
        refine ⟨_, rfl, fun _ => hkW197, ?_⟩
        clear hb
        (try simp only [sI, sS, sZ])
        refine go_take2 10 28 #[tt,tt,tt,tt,tt,tt,tt,tt,tt,tt,tt,ff,ff,tt,ff,ff] (v := ?uv50) rfl rfl rfl (by kernel_rfl) (Or.inl ⟨by rfl, ?uy50⟩) (hkW197) ?urest50
        case uy50 => (intro _ _; go_simp; try with_reducible rfl)
        (try simp only [sI, sS, sZ])
        refine go_take2 11 39 #[tt,tt,tt,tt,tt,tt,tt,tt,tt,tt,tt,tt,ff,tt,ff,ff] (v := ?uv51) rfl rfl rfl (by kernel_rfl) (Or.inl ⟨by rfl, ?uy51⟩) (hkW197) ?urest51
        case uy51 => (intro _ _; go_simp; try with_reducible rfl)
        (try simp only [sI, sS, sZ])
        refine go_take2 12 40 #[tt,tt,tt,tt,tt,tt,tt,tt,tt,tt,tt,tt,tt,tt,ff,ff] (v := ?uv52) rfl rfl rfl (by kernel_rfl) (Or.inl ⟨by rfl, ?uy52⟩) (hkW197) ?urest52
        case uy52 => (intro _ _; go_simp; try with_reducible rfl)
        (try simp only [sI, sS, sZ])
        refine wpBut_r1 (i := 14) (by kernel_rfl) ?_
        obtain ⟨Zq, hZ, mZ⟩ := MA13.out
        refine go_store2 14 #[tt,tt,tt,tt,tt,tt,tt,tt,tt,tt,tt,tt,tt,tt,tt,ff] rfl rfl rfl (by rfl) 40 _ _ rfl _ _ rfl rfl 40 Zq mZ (by rw [r22_size]; kernel_rfl) (hZ.trans (r22_size ..).symm) (row_one _ _ _) ?_
        intro wW198 hw2
        have hkW198 := below_setRow (hkW197) _ (r22 R3) HA13.out
        rw [← hw2] at hkW198
        clear MA13
        have MA13 := Lib.hid (mZ.setRow (r22 R3))
        rw [← hw2] at MA13; clear mZ hZ hw2
        refine ⟨fun _ => hkW198, ?_⟩
        (try simp only [sI, sS, sZ])
        refine go_take2 15 9 #[tt,tt,tt,tt,tt,tt,tt,tt,tt,tt,tt,tt,tt,tt,tt,tt] (v := ?uv53) rfl rfl rfl (by kernel_rfl) (Or.inl ⟨by rfl, ?uy53⟩) (hkW198) ?urest53
        case uy53 => (intro _ _; go_simp; try with_reducible rfl)
        (try simp only [sI, sS, sZ])
        exact wpBut_done (by kernel_rfl) (NoPanic.normal (HQ.out (_) _ ⟨HA13.out, MA13.out, (hkW198)⟩))
        refine go_alloc 13 8 #[tt,tt,tt,ff,tt,ff,tt,ff,ff,ff,ff,ff,ff,tt,ff,ff] rfl rfl rfl (by rfl) 40 rfl _ al40 ?_
        intro wW192 hw2
        have hkW192 := (hkW191).alloc (hkW191).size (.cells z40 40)
        rw [← hw2] at hkW192
        have MA13 := Lib.hid (HasN.new (wW191) z40 40 22 (by kernel_rfl))
        rw [← hw2] at MA13
        have HA13 := Lib.hid (show W19.heap.size ≤ _ from (hkW191).size)
        clear hw2
        refine ⟨fun _ => hkW192, ?_⟩
        (try simp only [sI, sS, sZ])
        refine wpBut_r1 (i := 3) (by kernel_rfl) ?_
        refine go_call 3 32 #[tt,tt,tt,tt,tt,ff,tt,ff,ff,ff,ff,ff,ff,tt,ff,ff] rfl rfl rfl (by rfl) rfl rfl (by rfl) ent89 (by rfl) (rslope_any _) ?_
        rintro e wW193 ⟨rfl, hb⟩
        have hkW193 := held_next hkW192 hb
        replace MA13 := Lib.hid (MA13.out.call hb)
        refine ⟨_, rfl, fun _ => hkW193, ?_⟩
        clear hb
        (try simp only [sI, sS, sZ])
        refine wpBut_r1 (i := 5) (by kernel_rfl) ?_
        refine go_call 5 34 #[tt,tt,tt,tt,tt,tt,tt,ff,ff,ff,ff,ff,ff,tt,ff,ff] rfl rfl rfl (by rfl) rfl rfl (by rfl) ent32 (by rfl) (Ht2.out _) ?_
        rintro e wW194 ⟨rfl, hb⟩
        have hkW194 := held_next hkW193 hb
        replace MA13 := Lib.hid (MA13.out.call hb)
        refine ⟨_, rfl, fun _ => hkW194, ?_⟩
        clear hb
        (try simp only [sI, sS, sZ])
        refine wpBut_r1 (i := 7) (by kernel_rfl) ?_
        refine go_call 7 36 #[tt,tt,tt,tt,tt,tt,tt,tt,ff,ff,ff,ff,ff,tt,ff,ff] rfl rfl rfl (by rfl) rfl rfl (by rfl) ent38 (by rfl) (Hp1.out _) ?_
        rintro e wW195 ⟨rfl, hb⟩
        have hkW195 := held_next hkW194 hb
        replace MA13 := Lib.hid (MA13.out.call hb)
        refine ⟨_, rfl, fun _ => hkW195, ?_⟩
        clear hb
        (try simp only [sI, sS, sZ])
        refine wpBut_r1 (i := 8) (by kernel_rfl) ?_
        refine go_call 8 37 #[tt,tt,tt,tt,tt,tt,tt,tt,tt,ff,ff,ff,ff,tt,ff,ff] rfl rfl rfl (by rfl) rfl rfl (by rfl) ent43 (by rfl) (Ho1.out _) ?_
        rintro e wW196 ⟨rfl, hb⟩
        have hkW196 := held_next hkW195 hb
        replace MA13 := Lib.hid (MA13.out.call hb)
        refine ⟨_, rfl, fun _ => hkW196, ?_⟩
        clear hb
        (try simp only [sI, sS, sZ])
        refine wpBut_r1 (i := 9) (by kernel_rfl) ?_
        refine go_call 9 38 #[tt,tt,tt,tt,tt,tt,tt,tt,tt,tt,ff,ff,ff,tt,ff,ff] rfl rfl rfl (by rfl) rfl rfl (by rfl) ent45 (by rfl) (Hrr.out _) ?_
        rintro e wW197 ⟨rfl, hb⟩
        have hkW197 := held_next hkW196 hb
        replace MA13 := Lib.hid (MA13.out.call hb)
        refine ⟨_, rfl, fun _ => hkW197, ?_⟩
        clear hb
        (try simp only [sI, sS, sZ])
        refine go_take2 10 28 #[tt,tt,tt,tt,tt,tt,tt,tt,tt,tt,tt,ff,ff,tt,ff,ff] (v := ?uv54) rfl rfl rfl (by kernel_rfl) (Or.inl ⟨by rfl, ?uy54⟩) (hkW197) ?urest54
        case uy54 => (intro _ _; go_simp; try with_reducible rfl)
        (try simp only [sI, sS, sZ])
        refine go_take2 11 39 #[tt,tt,tt,tt,tt,tt,tt,tt,tt,tt,tt,tt,ff,tt,ff,ff] (v := ?uv55) rfl rfl rfl (by kernel_rfl) (Or.inl ⟨by rfl, ?uy55⟩) (hkW197) ?urest55
        case uy55 => (intro _ _; go_simp; try with_reducible rfl)
        (try simp only [sI, sS, sZ])
        refine go_take2 12 40 #[tt,tt,tt,tt,tt,tt,tt,tt,tt,tt,tt,tt,tt,tt,ff,ff] (v := ?uv56) rfl rfl rfl (by kernel_rfl) (Or.inl ⟨by rfl, ?uy56⟩) (hkW197) ?urest56
        case uy56 => (intro _ _; go_simp; try with_reducible rfl)
        (try simp only [sI, sS, sZ])
        refine wpBut_r1 (i := 14) (by kernel_rfl) ?_
        obtain ⟨Zq, hZ, mZ⟩ := MA13.out
        refine go_store2 14 #[tt,tt,tt,tt,tt,tt,tt,tt,tt,tt,tt,tt,tt,tt,tt,ff] rfl rfl rfl (by rfl) 40 _ _ rfl _ _ rfl rfl 40 Zq mZ (by rw [r22_size]; kernel_rfl) (hZ.trans (r22_size ..).symm) (row_one _ _ _) ?_
        intro wW198 hw2
        have hkW198 := below_setRow (hkW197) _ (r22 R3) HA13.out
        rw [← hw2] at hkW198
        clear MA13
        have MA13 := Lib.hid (mZ.setRow (r22 R3))
        rw [← hw2] at MA13; clear mZ hZ hw2
        refine ⟨fun _ => hkW198, ?_⟩
        (try simp only [sI, sS, sZ])
        refine go_take2 15 9 #[tt,tt,tt,tt,tt,tt,tt,tt,tt,tt,tt,tt,tt,tt,tt,tt] (v := ?uv57) rfl rfl rfl (by kernel_rfl) (Or.inl ⟨by rfl, ?uy57⟩) (hkW198) ?urest57
        case uy57 => (intro _ _; go_simp; try with_reducible rfl)
        (try simp only [sI, sS, sZ])
        exact wpBut_done (by kernel_rfl) (NoPanic.normal (HQ.out (_) _ ⟨HA13.out, MA13.out, (hkW198)⟩))
        refine go_alloc 13 8 #[tt,tt,ff,ff,tt,ff,tt,ff,ff,ff,ff,ff,ff,tt,ff,ff] rfl rfl rfl (by rfl) 40 rfl _ al40 ?_
        intro wW191 hw2
        have hkW191 := ((below_dr W19)).alloc ((below_dr W19)).size (.cells z40 40)
        rw [← hw2] at hkW191
        have MA13 := Lib.hid (HasN.new (W19.drew) z40 40 22 (by kernel_rfl))
        rw [← hw2] at MA13
        have HA13 := Lib.hid (show W19.heap.size ≤ _ from ((below_dr W19)).size)
        clear hw2
        refine ⟨fun _ => hkW191, ?_⟩
        (try simp only [sI, sS, sZ])
        refine wpBut_r1 (i := 2) (by kernel_rfl) ?_
        refine go_call 2 31 #[tt,tt,tt,ff,tt,ff,tt,ff,ff,ff,ff,ff,ff,tt,ff,ff] rfl rfl rfl (by rfl) rfl rfl (by rfl) ent40 (by rfl) (Hm1.out _) ?_
        rintro e wW192 ⟨rfl, hb⟩
        have hkW192 := held_next hkW191 hb
        replace MA13 := Lib.hid (MA13.out.call hb)
        refine ⟨_, rfl, fun _ => hkW192, ?_⟩
        clear hb
        (try simp only [sI, sS, sZ])
        refine wpBut_r1 (i := 3) (by kernel_rfl) ?_
        refine go_call 3 32 #[tt,tt,tt,tt,tt,ff,tt,ff,ff,ff,ff,ff,ff,tt,ff,ff] rfl rfl rfl (by rfl) rfl rfl (by rfl) ent89 (by rfl) (rslope_any _) ?_
        rintro e wW193 ⟨rfl, hb⟩
        have hkW193 := held_next hkW192 hb
        replace MA13 := Lib.hid (MA13.out.call hb)
        refine ⟨_, rfl, fun _ => hkW193, ?_⟩
        clear hb
        (try simp only [sI, sS, sZ])
        refine wpBut_r1 (i := 5) (by kernel_rfl) ?_
        refine go_call 5 34 #[tt,tt,tt,tt,tt,tt,tt,ff,ff,ff,ff,ff,ff,tt,ff,ff] rfl rfl rfl (by rfl) rfl rfl (by rfl) ent32 (by rfl) (Ht2.out _) ?_
        rintro e wW194 ⟨rfl, hb⟩
        have hkW194 := held_next hkW193 hb
        replace MA13 := Lib.hid (MA13.out.call hb)
        refine ⟨_, rfl, fun _ => hkW194, ?_⟩
        clear hb
        (try simp only [sI, sS, sZ])
        refine wpBut_r1 (i := 7) (by kernel_rfl) ?_
        refine go_call 7 36 #[tt,tt,tt,tt,tt,tt,tt,tt,ff,ff,ff,ff,ff,tt,ff,ff] rfl rfl rfl (by rfl) rfl rfl (by rfl) ent38 (by rfl) (Hp1.out _) ?_
        rintro e wW195 ⟨rfl, hb⟩
        have hkW195 := held_next hkW194 hb
        replace MA13 := Lib.hid (MA13.out.call hb)
        refine ⟨_, rfl, fun _ => hkW195, ?_⟩
        clear hb
        (try simp only [sI, sS, sZ])
        refine wpBut_r1 (i := 8) (by kernel_rfl) ?_
        refine go_call 8 37 #[tt,tt,tt,tt,tt,tt,tt,tt,tt,ff,ff,ff,ff,tt,ff,ff] rfl rfl rfl (by rfl) rfl rfl (by rfl) ent43 (by rfl) (Ho1.out _) ?_
        rintro e wW196 ⟨rfl, hb⟩
        have hkW196 := held_next hkW195 hb
        replace MA13 := Lib.hid (MA13.out.call hb)
        refine ⟨_, rfl, fun _ => hkW196, ?_⟩
        clear hb
        (try simp only [sI, sS, sZ])
        refine wpBut_r1 (i := 9) (by kernel_rfl) ?_
        refine go_call 9 38 #[tt,tt,tt,tt,tt,tt,tt,tt,tt,tt,ff,ff,ff,tt,ff,ff] rfl rfl rfl (by rfl) rfl rfl (by rfl) ent45 (by rfl) (Hrr.out _) ?_
        rintro e wW197 ⟨rfl, hb⟩
        have hkW197 := held_next hkW196 hb
        replace MA13 := Lib.hid (MA13.out.call hb)
        refine ⟨_, rfl, fun _ => hkW197, ?_⟩
        clear hb
        (try simp only [sI, sS, sZ])
        refine go_take2 10 28 #[tt,tt,tt,tt,tt,tt,tt,tt,tt,tt,tt,ff,ff,tt,ff,ff] (v := ?uv58) rfl rfl rfl (by kernel_rfl) (Or.inl ⟨by rfl, ?uy58⟩) (hkW197) ?urest58
        case uy58 => (intro _ _; go_simp; try with_reducible rfl)
        (try simp only [sI, sS, sZ])
        refine go_take2 11 39 #[tt,tt,tt,tt,tt,tt,tt,tt,tt,tt,tt,tt,ff,tt,ff,ff] (v := ?uv59) rfl rfl rfl (by kernel_rfl) (Or.inl ⟨by rfl, ?uy59⟩) (hkW197) ?urest59
        case uy59 => (intro _ _; go_simp; try with_reducible rfl)
        (try simp only [sI, sS, sZ])
        refine go_take2 12 40 #[tt,tt,tt,tt,tt,tt,tt,tt,tt,tt,tt,tt,tt,tt,ff,ff] (v := ?uv60) rfl rfl rfl (by kernel_rfl) (Or.inl ⟨by rfl, ?uy60⟩) (hkW197) ?urest60
        case uy60 => (intro _ _; go_simp; try with_reducible rfl)
        (try simp only [sI, sS, sZ])
        refine wpBut_r1 (i := 14) (by kernel_rfl) ?_
        obtain ⟨Zq, hZ, mZ⟩ := MA13.out
        refine go_store2 14 #[tt,tt,tt,tt,tt,tt,tt,tt,tt,tt,tt,tt,tt,tt,tt,ff] rfl rfl rfl (by rfl) 40 _ _ rfl _ _ rfl rfl 40 Zq mZ (by rw [r22_size]; kernel_rfl) (hZ.trans (r22_size ..).symm) (row_one _ _ _) ?_
        intro wW198 hw2
        have hkW198 := below_setRow (hkW197) _ (r22 R3) HA13.out
        rw [← hw2] at hkW198
        clear MA13
        have MA13 := Lib.hid (mZ.setRow (r22 R3))
        rw [← hw2] at MA13; clear mZ hZ hw2
        refine ⟨fun _ => hkW198, ?_⟩
        (try simp only [sI, sS, sZ])
        refine go_take2 15 9 #[tt,tt,tt,tt,tt,tt,tt,tt,tt,tt,tt,tt,tt,tt,tt,tt] (v := ?uv61) rfl rfl rfl (by kernel_rfl) (Or.inl ⟨by rfl, ?uy61⟩) (hkW198) ?urest61
        case uy61 => (intro _ _; go_simp; try with_reducible rfl)
        (try simp only [sI, sS, sZ])
        exact wpBut_done (by kernel_rfl) (NoPanic.normal (HQ.out (_) _ ⟨HA13.out, MA13.out, (hkW198)⟩))
      · rintro W19 B8 vw19 hW19 ⟨hBq0, mBq0, hbw⟩
        simp only [Act.put, List.setIfInBounds_toArray, List.set_cons_succ, List.set_cons_zero] at  hBq0  mBq0 ⊢
        rw [← hW19] at M1 M2 M5 M6 M7 HB
        clear hW19
        have hltM1_19 := M1.out.lt
        have hltM2_19 := M2.out.lt
        have hltM5_19 := M5.out.lt
        have hltM6_19 := M6.out.lt
        have hltM7_19 := M7.out.lt
        replace M1 := Lib.hid (M1.out.call hbw)
        replace M2 := Lib.hid (M2.out.call hbw)
        replace M5 := Lib.hid (M5.out.call hbw)
        replace M6 := Lib.hid (M6.out.call hbw)
        replace M7 := Lib.hid (M7.out.call hbw)
        replace HB := Lib.hid (held_next HB.out hbw)
        have M8 := Lib.hid mBq0; clear mBq0
        clear hbw
        clear M7
        clear Hint Ht1 Hm1 Ht2 Hp1 Ho1 Hrr
        repeat ((fail_if_success (with_reducible (show wpList _ _ _ _ _ _))); go_step)
        cases ok
        · refine wpList_step (fun K hK => ?_)
          go_simp
          (try go_bits)
          refine hK _ _ ?_
          clear hK K
          iterate 10 (refine wpList_step (fun K hK => ?_); go_simp; (try go_bits); refine hK _ _ ?_; clear hK K)
          refine wpList_nil ?_
          repeat ((fail_if_success (with_reducible (show wpList _ _ _ _ _ _))); go_step)
          refine wpList_call (by rfl) rfl rfl (by rfl) ent88 (by rfl) (Horg.out _) 52 rfl ?_
          rintro e uw4 ⟨rfl, hb⟩
          replace M1 := Lib.hid (M1.out.call hb)
          replace M2 := Lib.hid (M2.out.call hb)
          replace M5 := Lib.hid (M5.out.call hb)
          replace M6 := Lib.hid (M6.out.call hb)
          replace M8 := Lib.hid (M8.out.call hb)
          replace HB := Lib.hid (held_next HB.out hb)
          refine ⟨_, rfl, ?_⟩
          clear hb
          (try simp only [Act.put, sI, sS, sZ])
          first | (obtain ⟨Zq, hZ, mZ⟩ := M2.out) | (obtain ⟨Zq, hZ, mZ⟩ := M2.out.toN (rp_size ..))
          refine wpList_store2 (by rfl) 57 _ _ rfl rfl (w.heap.size + 1) (rp 0 1 1 0) rfl rfl 57 Zq mZ (by rw [rp_size]; kernel_rfl) (hZ.trans (rp_size ..).symm) (rp_one _ _ _ _) ?_
          intro yw20 hw2
          replace M1 := Lib.hid (M1.out.setRow_other (w.heap.size + 1) (rp 0 1 1 0) (by omega))
          replace M5 := Lib.hid (M5.out.setRow_other (w.heap.size + 1) (rp 0 1 1 0) (by omega))
          replace M6 := Lib.hid (M6.out.setRow_other (w.heap.size + 1) (rp 0 1 1 0) (by omega))
          replace M8 := Lib.hid (M8.out.setRow_other (w.heap.size + 1) (rp 0 1 1 0) (by omega))
          replace M2 := Lib.hid (mZ.setRow (rp 0 1 1 0))
          replace HB := Lib.hid (below_setRow HB.out (w.heap.size + 1) (rp 0 1 1 0) (by omega))
          rw [← hw2] at M1 M5 M6 M8 M2 HB; clear mZ hZ hw2
          (refine wpList_step (fun K hK => ?_); go_simp; (try go_bits); refine hK _ _ ?_; clear hK K)
          refine wpList_nil ?_
          go_wp2_with fail
          have hb := Hcof.out.trans (bes_no1 C false n0 Hok.out.symm)
          exact bodyPost_ret (v := .tuple #[.agg (rp 0 1 1 0), .bool false]) (results_cell_tmp_row (fn := Try.f48) (p := 2) (t2 := 3) (ty := 57) (t := 57) (by rfl) _ _ (w.heap.size + 1) _ _ _ rfl M2.out Try.underlying57 rfl (by rw [rp_size]; kernel_rfl)) rfl ⟨by rw [hb, Nat.zero_mul, Nat.zero_mod], HB.out⟩
        · by_cases hz : R3 = 0
          · have HZ := Lib.hid hz; clear hz
            have heq := fun w => r22_same 0 (PPr_22 0 PP_pos) w
            rw [HZ.out] at M8
            iterate 6 (refine wpList_step (fun K hK => ?_); go_simp; (try go_bits); refine hK _ _ ?_; clear hK K)
            refine wpList_load (by rfl) 40 _ rfl (B8) rfl 40 (r22 0) M8.out Try.underlying40 rfl (by rw [r22_size]; kernel_rfl) 47 rfl ?_
            (try simp only [Act.put, sI, sS, sZ])
            refine wpList_built (by rfl) 40 _ rfl _ (by rfl) (r22 0) (bd40z) 48 rfl ?_
            (try simp only [Act.put, sI, sS, sZ])
            iterate 3 (refine wpList_step (fun K hK => ?_); go_simp; (try go_bits); refine hK _ _ ?_; clear hK K)
            refine wpList_nil ?_
            clear heq
            repeat ((fail_if_success (with_reducible (show wpList _ _ _ _ _ _))); go_step)
            refine wpList_call (by rfl) rfl rfl (by rfl) ent88 (by rfl) (Horg.out _) 52 rfl ?_
            rintro e uw4 ⟨rfl, hb⟩
            replace M1 := Lib.hid (M1.out.call hb)
            replace M2 := Lib.hid (M2.out.call hb)
            replace M5 := Lib.hid (M5.out.call hb)
            replace M6 := Lib.hid (M6.out.call hb)
            replace M8 := Lib.hid (M8.out.call hb)
            replace HB := Lib.hid (held_next HB.out hb)
            refine ⟨_, rfl, ?_⟩
            clear hb
            (try simp only [Act.put, sI, sS, sZ])
            first | (obtain ⟨Zq, hZ, mZ⟩ := M2.out) | (obtain ⟨Zq, hZ, mZ⟩ := M2.out.toN (rp_size ..))
            refine wpList_store2 (by rfl) 57 _ _ rfl rfl (w.heap.size + 1) (rp 0 1 1 0) rfl rfl 57 Zq mZ (by rw [rp_size]; kernel_rfl) (hZ.trans (rp_size ..).symm) (rp_one _ _ _ _) ?_
            intro yw20 hw2
            replace M1 := Lib.hid (M1.out.setRow_other (w.heap.size + 1) (rp 0 1 1 0) (by omega))
            replace M5 := Lib.hid (M5.out.setRow_other (w.heap.size + 1) (rp 0 1 1 0) (by omega))
            replace M6 := Lib.hid (M6.out.setRow_other (w.heap.size + 1) (rp 0 1 1 0) (by omega))
            replace M8 := Lib.hid (M8.out.setRow_other (w.heap.size + 1) (rp 0 1 1 0) (by omega))
            replace M2 := Lib.hid (mZ.setRow (rp 0 1 1 0))
            replace HB := Lib.hid (below_setRow HB.out (w.heap.size + 1) (rp 0 1 1 0) (by omega))
            rw [← hw2] at M1 M5 M6 M8 M2 HB; clear mZ hZ hw2
            (refine wpList_step (fun K hK => ?_); go_simp; (try go_bits); refine hK _ _ ?_; clear hK K)
            refine wpList_nil ?_
            go_wp2_with fail
            have hb := Hcof.out.trans (bes_no2 C n0 (by rw [← HR3.out]; exact HZ.out))
            exact bodyPost_ret (v := .tuple #[.agg (rp 0 1 1 0), .bool false]) (results_cell_tmp_row (fn := Try.f48) (p := 2) (t2 := 3) (ty := 57) (t := 57) (by rfl) _ _ (w.heap.size + 1) _ _ _ rfl M2.out Try.underlying57 rfl (by rw [rp_size]; kernel_rfl)) rfl ⟨by rw [hb, Nat.zero_mul, Nat.zero_mod], HB.out⟩
          · have HZ := Lib.hid hz; clear hz
            have heq := fun w => r22_other R3 0 (PPr_22 R3 HR3l.out) (PPr_22 0 PP_pos) HZ.out w
            iterate 6 (refine wpList_step (fun K hK => ?_); go_simp; (try go_bits); refine hK _ _ ?_; clear hK K)
            refine wpList_load (by rfl) 40 _ rfl (B8) rfl 40 (r22 R3) M8.out Try.underlying40 rfl (by rw [r22_size]; kernel_rfl) 47 rfl ?_
            (try simp only [Act.put, sI, sS, sZ])
            refine wpList_built (by rfl) 40 _ rfl _ (by rfl) (r22 0) (bd40z) 48 rfl ?_
            (try simp only [Act.put, sI, sS, sZ])
            iterate 3 (refine wpList_step (fun K hK => ?_); go_simp; (try go_bits); refine hK _ _ ?_; clear hK K)
            refine wpList_nil ?_
            clear heq
            repeat ((fail_if_success (with_reducible (show wpList _ _ _ _ _ _))); go_step)
            iterate 2 (refine wpList_step (fun K hK => ?_); go_simp; (try go_bits); refine hK _ _ ?_; clear hK K)
            refine wpList_nil ?_
            repeat ((fail_if_success (with_reducible (show wpList _ _ _ _ _ _))); go_step)
            have hmn := fun w => rminus_any 0 R3 PP_pos HR3l.out w
            obtain ⟨x2, hx2⟩ : ∃ x, x = (0 + (PP - R3)) % PP := ⟨_, rfl⟩
            rw [← hx2] at hmn
            have hx2l : x2 < PP := by rw [hx2]; exact Nat.mod_lt _ PP_pos
            have Hmn := Lib.hid hmn; clear hmn
            have Hx2 := Lib.hid hx2; clear hx2
            have Hx2l := Lib.hid hx2l; clear hx2l
            refine wpList_built (by rfl) 40 _ rfl _ (by rfl) (r22 0) (bd40z) 55 rfl ?_
            (try simp only [Act.put, sI, sS, sZ])
            refine wpList_load (by rfl) 40 _ rfl (B8) rfl 40 (r22 R3) M8.out Try.underlying40 rfl (by rw [r22_size]; kernel_rfl) 56 rfl ?_
            (try simp only [Act.put, sI, sS, sZ])
            refine wpList_call (by rfl) rfl rfl (by rfl) ent40 (by rfl) (Hmn.out _) 57 rfl ?_
            rintro e uw4 ⟨rfl, hb⟩
            replace M1 := Lib.hid (M1.out.call hb)
            replace M2 := Lib.hid (M2.out.call hb)
            replace M5 := Lib.hid (M5.out.call hb)
            replace M6 := Lib.hid (M6.out.call hb)
            replace M8 := Lib.hid (M8.out.call hb)
            replace HB := Lib.hid (held_next HB.out hb)
            refine ⟨_, rfl, ?_⟩
            clear hb
            (try simp only [Act.put, sI, sS, sZ])
            first | (obtain ⟨Zq, hZ, mZ⟩ := M8.out) | (obtain ⟨Zq, hZ, mZ⟩ := M8.out.toN (r22_size ..))
            refine wpList_store2 (by rfl) 40 _ _ rfl rfl (B8) (r22 x2) rfl rfl 40 Zq mZ (by rw [r22_size]; kernel_rfl) (hZ.trans (r22_size ..).symm) (row_one _ _ _) ?_
            intro yw20 hw2
            replace M1 := Lib.hid (M1.out.setRow_other (B8) (r22 x2) (by omega))
            replace M2 := Lib.hid (M2.out.setRow_other (B8) (r22 x2) (by omega))
            replace M5 := Lib.hid (M5.out.setRow_other (B8) (r22 x2) (by omega))
            replace M6 := Lib.hid (M6.out.setRow_other (B8) (r22 x2) (by omega))
            replace M8 := Lib.hid (mZ.setRow (r22 x2))
            replace HB := Lib.hid (below_setRow HB.out (B8) (r22 x2) (by omega))
            rw [← hw2] at M1 M2 M5 M6 M8 HB; clear mZ hZ hw2
            refine wpList_nil ?_
            repeat ((fail_if_success (with_reducible (show wpList _ _ _ _ _ _))); go_step)
            have htx := fun w => rtimes_any x2 n0 Hx2l.out Hlt.out w
            obtain ⟨tq9, htt⟩ : ∃ t, t = x2 * n0 % PP := ⟨_, rfl⟩
            rw [← htt] at htx
            have Htx := Lib.hid htx; clear htx
            have Htt := Lib.hid htt; clear htt
            refine wp_region_noPanic ?_
            refine wp_region_goS (fun w' => Has w' (B8) (r22 x2) 40 ∧ Has w' (uw1.heap.size) (r22 n0) 40 ∧ Has w' (uw2.heap.size) (r22 1) 40) 99 9 #[ff,ff,ff,ff,ff,ff,ff,ff,ff] (by kernel_rfl) rfl rfl ?_
            replace M1 := Lib.hid (M1.out.drew)
            replace M2 := Lib.hid (M2.out.drew)
            replace M5 := Lib.hid (M5.out.drew)
            replace M6 := Lib.hid (M6.out.drew)
            replace M8 := Lib.hid (M8.out.drew)
            replace HB := Lib.hid (below_drewN HB.out 1)
            obtain ⟨yw21, hwyw21⟩ : ∃ ww, ww = yw20.drew := ⟨_, rfl⟩
            rw [← hwyw21] at M1 M2 M5 M6 M8 ⊢
            have kq : Below w.heap.size w yw21 := by rw [hwyw21]; exact HB.out
            clear HB; have HB := Lib.hid kq; clear kq hwyw21
            refine go_take2 0 58 #[tt,ff,ff,ff,ff,ff,ff,ff,ff] rfl rfl rfl (by kernel_rfl) (yieldsIf_load_row (by rfl) 40 _ rfl (B8) rfl 40 (r22 x2) (fun _ h => h.1) Try.underlying40 rfl (by rw [r22_size]; kernel_rfl)) (⟨M8.out, M5.out, M6.out⟩) ?_
            (try simp only [sI, sS, sZ])
            refine go_take2 1 59 #[tt,tt,ff,ff,ff,ff,ff,ff,ff] rfl rfl rfl (by kernel_rfl) (yieldsIf_load_row (by rfl) 40 _ rfl (uw1.heap.size) rfl 40 (r22 n0) (fun _ h => h.2.1) Try.underlying40 rfl (by rw [r22_size]; kernel_rfl)) (⟨M8.out, M5.out, M6.out⟩) ?_
            (try simp only [sI, sS, sZ])
            refine go_take2 2 60 #[tt,tt,tt,ff,ff,ff,ff,ff,ff] rfl rfl rfl (by kernel_rfl) (yieldsIf_load_row (by rfl) 40 _ rfl (uw2.heap.size) rfl 40 (r22 1) (fun _ h => h.2.2) Try.underlying40 rfl (by rw [r22_size]; kernel_rfl)) (⟨M8.out, M5.out, M6.out⟩) ?_
            (try simp only [sI, sS, sZ])
            refine go_take2 3 61 #[tt,tt,tt,tt,ff,ff,ff,ff,ff] rfl rfl rfl (by kernel_rfl) (yieldsIf_load_row (by rfl) 40 _ rfl (B8) rfl 40 (r22 x2) (fun _ h => h.1) Try.underlying40 rfl (by rw [r22_size]; kernel_rfl)) (⟨M8.out, M5.out, M6.out⟩) ?_
            (try simp only [sI, sS, sZ])
            refine go_take2 4 62 #[tt,tt,tt,tt,tt,ff,ff,ff,ff] rfl rfl rfl (by kernel_rfl) (yieldsIf_load_row (by rfl) 40 _ rfl (uw1.heap.size) rfl 40 (r22 n0) (fun _ h => h.2.1) Try.underlying40 rfl (by rw [r22_size]; kernel_rfl)) (⟨M8.out, M5.out, M6.out⟩) ?_
            (try simp only [sI, sS, sZ])
            refine wpBut_r1 (i := 5) (by kernel_rfl) ?_
            refine go_call 5 63 #[tt,tt,tt,tt,tt,tt,ff,ff,ff] rfl rfl rfl (by rfl) rfl rfl (by rfl) ent32 (by rfl) (Htx.out _) ?_
            rintro e uw5 ⟨rfl, hb⟩
            replace M1 := Lib.hid (M1.out.call hb)
            replace M2 := Lib.hid (M2.out.call hb)
            replace M5 := Lib.hid (M5.out.call hb)
            replace M6 := Lib.hid (M6.out.call hb)
            replace M8 := Lib.hid (M8.out.call hb)
            replace HB := Lib.hid (held_next HB.out hb)
            refine ⟨_, rfl, fun _ => ⟨M8.out, M5.out, M6.out⟩, ?_⟩
            clear hb
            (try simp only [sI, sS, sZ])
            refine go_take2 6 64 #[tt,tt,tt,tt,tt,tt,tt,ff,ff] rfl rfl rfl (by kernel_rfl) (yieldsIf_build (by rfl) 57 _ rfl _ (by rfl) (rp x2 n0 1 tq9) (bd57 x2 n0 1 tq9)) (⟨M8.out, M5.out, M6.out⟩) ?_
            (try simp only [sI, sS, sZ])
            refine wpBut_r1 (i := 7) (by kernel_rfl) ?_
            first | (obtain ⟨Zq, hZ, mZ⟩ := M2.out) | (obtain ⟨Zq, hZ, mZ⟩ := M2.out.toN (rp_size ..))
            refine go_store2 7 #[tt,tt,tt,tt,tt,tt,tt,tt,ff] rfl rfl rfl (by rfl) 57 _ _ rfl (w.heap.size + 1) (rp x2 n0 1 tq9) rfl rfl 57 Zq mZ (by rw [rp_size]; kernel_rfl) (hZ.trans (rp_size ..).symm) (rp_one _ _ _ _) ?_
            intro yw22 hw2
            replace M1 := Lib.hid (M1.out.setRow_other (w.heap.size + 1) (rp x2 n0 1 tq9) (by omega))
            replace M5 := Lib.hid (M5.out.setRow_other (w.heap.size + 1) (rp x2 n0 1 tq9) (by omega))
            replace M6 := Lib.hid (M6.out.setRow_other (w.heap.size + 1) (rp x2 n0 1 tq9) (by omega))
            replace M8 := Lib.hid (M8.out.setRow_other (w.heap.size + 1) (rp x2 n0 1 tq9) (by omega))
            replace M2 := Lib.hid (mZ.setRow (rp x2 n0 1 tq9))
            replace HB := Lib.hid (below_setRow HB.out (w.heap.size + 1) (rp x2 n0 1 tq9) (by omega))
            rw [← hw2] at M1 M5 M6 M8 M2 HB; clear mZ hZ hw2
            refine ⟨fun _ => ⟨M8.out, M5.out, M6.out⟩, ?_⟩
            (try simp only [sI, sS, sZ])
            refine go_take2 8 3 #[tt,tt,tt,tt,tt,tt,tt,tt,tt] (v := ?uv62) rfl rfl rfl (by kernel_rfl) (Or.inl ⟨by rfl, ?uy62⟩) (⟨M8.out, M5.out, M6.out⟩) ?urest62
            case uy62 => (intro _ _; go_simp; try with_reducible rfl)
            (try simp only [sI, sS, sZ])
            refine wpBut_done (by kernel_rfl) (NoPanic.normal ?_)
            go_wp2_with fail
            have hb := Hcof.out.trans (bes_odd C n0 Hok.out.symm (by rw [← HR3.out]; exact HZ.out))
            exact bodyPost_ret (v := .tuple #[.agg (rp x2 n0 1 tq9), .bool true]) (results_cell_tmp_row (fn := Try.f48) (p := 2) (t2 := 3) (ty := 57) (t := 57) (by rfl) _ _ (w.heap.size + 1) _ _ _ rfl M2.out Try.underlying57 rfl (by rw [rp_size]; kernel_rfl)) rfl ⟨by rw [hb, Htt.out, Hx2.out, HR3.out, Nat.zero_mod], HB.out⟩
    · have hne : ¬ A = n0 := by have := HAl.out; omega
      have heq := fun w => k32_eq A n0 (PP_256 A HAl.out) Hl0.out w
      rw [decide_eq_false hne] at heq
      clear hne
      have hcf := Hno.out hlt
      refine wp_region_noPanic ?_
      refine wp_region_go 99 4 #[false, false, false, false] (by kernel_rfl) rfl rfl ?_
      intro W7 hW7
      rw [← hW7] at M1 M2 M5 HB
      clear hW7
      refine go_take2 0 19 #[true, false, false, false] rfl rfl rfl (by kernel_rfl) (yieldsIf_load_row (by rfl) 40 _ rfl (uw1.heap.size) rfl 40 (r22 A) (fun _ h => M5.out.below h M5.out.lt) Try.underlying40 rfl (by rw [r22_size]; kernel_rfl)) ((below_dr W7)) ?_
      (try simp only [sI, sS, sZ])
      refine go_take2 2 21 #[true, false, true, false] rfl rfl rfl (by kernel_rfl) (yieldsIf_load_row (by rfl) 24 _ rfl (w.heap.size) rfl 24 (k32 n0) (fun _ h => M1.out.below h M1.out.lt) Try.underlying24 rfl (by rw [k32_size]; kernel_rfl)) ((below_dr W7)) ?_
      (try simp only [sI, sS, sZ])
      refine wpBut_r1 (i := 1) (by kernel_rfl) ?_
      refine go_call 1 20 #[true, true, true, false] rfl rfl rfl (by rfl) rfl rfl (by rfl) ent74 (by rfl) (Hrk.out _) ?_
      rintro e wW71 ⟨rfl, hb⟩
      have hkW71 := held_next (below_dr W7) hb
      refine ⟨_, rfl, fun _ => hkW71, ?_⟩
      clear hb
      (try simp only [sI, sS, sZ])
      refine go_take2 3 22 #[true, true, true, true] (v := ?uv32) rfl rfl rfl (by kernel_rfl) (Or.inl ⟨by rfl, ?uy32⟩) (hkW71) ?urest32
      case uy32 => (intro _ _; go_simp; try with_reducible rfl)
      (try simp only [sI, sS, sZ])
      refine wpBut_done (by kernel_rfl) (NoPanic.normal ?_)
      replace M1 := Lib.hid (M1.out.call hkW71)
      replace M2 := Lib.hid (M2.out.call hkW71)
      replace M5 := Lib.hid (M5.out.call hkW71)
      replace HB := Lib.hid (held_next HB.out hkW71)
      clear heq
      repeat ((fail_if_success (with_reducible (show wpList _ _ _ _ _ _))); go_step)
      refine wpList_call (by rfl) rfl rfl (by rfl) ent88 (by rfl) (Horg.out _) 23 rfl ?_
      rintro e uw2 ⟨rfl, hb⟩
      replace M1 := Lib.hid (M1.out.call hb)
      replace M2 := Lib.hid (M2.out.call hb)
      replace M5 := Lib.hid (M5.out.call hb)
      replace HB := Lib.hid (held_next HB.out hb)
      refine ⟨_, rfl, ?_⟩
      clear hb
      (try simp only [Act.put, sI, sS, sZ])
      first | (obtain ⟨Zq, hZ, mZ⟩ := M2.out) | (obtain ⟨Zq, hZ, mZ⟩ := M2.out.toN (rp_size ..))
      refine wpList_store2 (by rfl) 57 _ _ rfl rfl (w.heap.size + 1) (rp 0 1 1 0) rfl rfl 57 Zq mZ (by rw [rp_size]; kernel_rfl) (hZ.trans (rp_size ..).symm) (rp_one _ _ _ _) ?_
      intro yw8 hw2
      replace M1 := Lib.hid (M1.out.setRow_other (w.heap.size + 1) (rp 0 1 1 0) (by omega))
      replace M5 := Lib.hid (M5.out.setRow_other (w.heap.size + 1) (rp 0 1 1 0) (by omega))
      replace M2 := Lib.hid (mZ.setRow (rp 0 1 1 0))
      replace HB := Lib.hid (below_setRow HB.out (w.heap.size + 1) (rp 0 1 1 0) (by omega))
      rw [← hw2] at M1 M5 M2 HB; clear mZ hZ hw2
      (refine wpList_step (fun K hK => ?_); go_simp; (try go_bits); refine hK _ _ ?_; clear hK K)
      refine wpList_nil ?_
      go_wp2_with fail
      exact bodyPost_ret (v := .tuple #[.agg (rp 0 1 1 0), .bool false]) (results_cell_tmp_row (fn := Try.f48) (p := 2) (t2 := 3) (ty := 57) (t := 57) (by rfl) _ _ (w.heap.size + 1) _ _ _ rfl M2.out Try.underlying57 rfl (by rw [rp_size]; kernel_rfl)) rfl ⟨by rw [hcf, Nat.zero_mul, Nat.zero_mod], HB.out⟩
end Go.Proofs.Ytjiagjonlcadiaa
end
section
namespace Go.Proofs.Ytjiagjonlcadiaa
open Go.RowKit Go.Lib

theorem dg0_tm (r b : Nat) (h : r % 2 = b) : (dg 4096 r 0).tmod 2 = (b : Int) := by
  rw [Int.tmod_eq_emod_of_nonneg (dg_nn r 0)]
  have hz0 : dg 4096 r 0 % 2 = ((r % 2 : Nat) : Int) := by unfold dg; rw [Nat.pow_zero, Nat.div_one]; omega
  rw [hz0, h]
theorem add_128 (c : Nat) (h : c < 128) : ((c : Int) + 128) % 256 = (c : Int) + 128 := by omega

set_option maxRecDepth 100000 in
set_option linter.unusedSimpArgs false in
set_option maxHeartbeats 8000000 in
theorem rkeyp_any (X Y Z T : Nat) (hX : X < PP) (hY : Y < PP) (hZ : Z < PP) (w : World) :
    Calls Try.prog 50 #[.agg (rp X Y Z T)] w fun e w' => e = .returned (.agg (k32 (keyn X Y Z))) ∧ Below w.heap.size w w' := by
  have hov1 := fun w => rover_any Y Z hY hZ w
  have hov2 := fun w => rover_any X Z hX hZ w
  obtain ⟨QY, hQY⟩ : ∃ q, q = Y * pwm Z (PP - 2) % PP := ⟨_, rfl⟩
  obtain ⟨QX, hQX⟩ : ∃ q, q = X * pwm Z (PP - 2) % PP := ⟨_, rfl⟩
  rw [← hQY] at hov1
  rw [← hQX] at hov2
  have hQp : QY < PP := by rw [hQY]; exact Nat.mod_lt _ PP_pos
  have hQl : QY < 57896044618658097711785492504343953926634992332820282019728792003956564819968 := Nat.lt_trans hQp PP_255
  have hkey := fun w => rkey_any QY (PP_256 QY hQp) w
  obtain ⟨R, hR⟩ : ∃ r, r = keyn X Y Z := ⟨_, rfl⟩
  have hodd : QX % 2 = 1 → QY + 57896044618658097711785492504343953926634992332820282019728792003956564819968 = R := by intro h; rw [hQY, hR]; rw [hQX] at h; exact keyn_odd X Y Z h
  have heven : QX % 2 = 0 → QY = R := by intro h; rw [hQY, hR]; rw [hQX] at h; exact keyn_even X Y Z h
  rw [← hR]
  clear hR hQY hQX hQp hX hY hZ
  have Hov1 := Lib.hid hov1; clear hov1
  have Hov2 := Lib.hid hov2; clear hov2
  have Hkey := Lib.hid hkey; clear hkey
  have HQl := Lib.hid hQl; clear hQl
  have Hodd := Lib.hid hodd; clear hodd
  have Heven := Lib.hid heven; clear heven
  go_enter Try.func50, Try.ntmps50
  repeat ((fail_if_success (with_reducible (show wpList _ _ _ _ _ _))); go_step)
  iterate 2 (refine wpList_step (fun K hK => ?_); go_simp; (try go_bits); refine hK _ _ ?_; clear hK K)
  refine wpList_nil ?_
  have M1 := Lib.hid ((Has.new w  (rp X Y Z T) 57).alloc (.cells (#[.int .u8 0, .int .u8 0, .int .u8 0, .int .u8 0, .int .u8 0, .int .u8 0, .int .u8 0, .int .u8 0, .int .u8 0, .int .u8 0, .int .u8 0, .int .u8 0, .int .u8 0, .int .u8 0, .int .u8 0, .int .u8 0, .int .u8 0, .int .u8 0, .int .u8 0, .int .u8 0, .int .u8 0, .int .u8 0, .int .u8 0, .int .u8 0, .int .u8 0, .int .u8 0, .int .u8 0, .int .u8 0, .int .u8 0, .int .u8 0, .int .u8 0, .int .u8 0] : Array Value) 24))
  have M2 := Lib.hid (HasN.new1 w (.cells (rp X Y Z T) 57) (#[.int .u8 0, .int .u8 0, .int .u8 0, .int .u8 0, .int .u8 0, .int .u8 0, .int .u8 0, .int .u8 0, .int .u8 0, .int .u8 0, .int .u8 0, .int .u8 0, .int .u8 0, .int .u8 0, .int .u8 0, .int .u8 0, .int .u8 0, .int .u8 0, .int .u8 0, .int .u8 0, .int .u8 0, .int .u8 0, .int .u8 0, .int .u8 0, .int .u8 0, .int .u8 0, .int .u8 0, .int .u8 0, .int .u8 0, .int .u8 0, .int .u8 0, .int .u8 0] : Array Value) 24 32 (by kernel_rfl))
  have HB := Lib.hid (below_2 w (.cells (rp X Y Z T) 57) (.cells (#[.int .u8 0, .int .u8 0, .int .u8 0, .int .u8 0, .int .u8 0, .int .u8 0, .int .u8 0, .int .u8 0, .int .u8 0, .int .u8 0, .int .u8 0, .int .u8 0, .int .u8 0, .int .u8 0, .int .u8 0, .int .u8 0, .int .u8 0, .int .u8 0, .int .u8 0, .int .u8 0, .int .u8 0, .int .u8 0, .int .u8 0, .int .u8 0, .int .u8 0, .int .u8 0, .int .u8 0, .int .u8 0, .int .u8 0, .int .u8 0, .int .u8 0, .int .u8 0] : Array Value) 24))
  obtain ⟨yw1, hwyw1⟩ : ∃ ww, ww = ((w.alloc (.cells (rp X Y Z T) 57)).alloc (.cells (#[.int .u8 0, .int .u8 0, .int .u8 0, .int .u8 0, .int .u8 0, .int .u8 0, .int .u8 0, .int .u8 0, .int .u8 0, .int .u8 0, .int .u8 0, .int .u8 0, .int .u8 0, .int .u8 0, .int .u8 0, .int .u8 0, .int .u8 0, .int .u8 0, .int .u8 0, .int .u8 0, .int .u8 0, .int .u8 0, .int .u8 0, .int .u8 0, .int .u8 0, .int .u8 0, .int .u8 0, .int .u8 0, .int .u8 0, .int .u8 0, .int .u8 0, .int .u8 0] : Array Value) 24)) := ⟨_, rfl⟩
  rw [← hwyw1] at M1 M2 HB ⊢
  clear hwyw1
  repeat ((fail_if_success (with_reducible (show wpList _ _ _ _ _ _))); go_step)
  (refine wpList_step (fun K hK => ?_); go_simp; (try go_bits); refine hK _ _ ?_; clear hK K)
  refine wpList_loadm (by rfl) 40 _ rfl (w.heap.size) 22 rfl (r22l Y) (r22 Y) rfl (rp_y M1.out) _ Try.underlying40 rfl (by rw [r22l_len]; kernel_rfl) 5 rfl ?_
  (try simp only [Act.put, sI, sS, sZ])
  (refine wpList_step (fun K hK => ?_); go_simp; (try go_bits); refine hK _ _ ?_; clear hK K)
  refine wpList_loadm (by rfl) 40 _ rfl (w.heap.size) 44 rfl (r22l Z) (r22 Z) rfl (rp_z M1.out) _ Try.underlying40 rfl (by rw [r22l_len]; kernel_rfl) 7 rfl ?_
  (try simp only [Act.put, sI, sS, sZ])
  refine wpList_call (by rfl) rfl rfl (by rfl) ent43 (by rfl) (Hov1.out _) 8 rfl ?_
  rintro e uw1 ⟨rfl, hb⟩
  replace M1 := Lib.hid (M1.out.call hb)
  replace M2 := Lib.hid (M2.out.call hb)
  replace HB := Lib.hid (held_next HB.out hb)
  refine ⟨_, rfl, ?_⟩
  clear hb
  (try simp only [Act.put, sI, sS, sZ])
  refine wpList_call (by rfl) rfl rfl (by rfl) ent74 (by rfl) (Hkey.out _) 9 rfl ?_
  rintro e uw2 ⟨rfl, hb⟩
  replace M1 := Lib.hid (M1.out.call hb)
  replace M2 := Lib.hid (M2.out.call hb)
  replace HB := Lib.hid (held_next HB.out hb)
  refine ⟨_, rfl, ?_⟩
  clear hb
  (try simp only [Act.put, sI, sS, sZ])
  refine wpList_alloc (by rfl) 24 rfl _ al24 3 rfl ?_
  intro yw2 hw2
  have hlt3 := M1.out.lt
  have hlt4 := M2.out.lt
  have hsz := HB.out.size
  replace M1 := Lib.hid (M1.out.alloc (.cells z24 24))
  replace M2 := Lib.hid (M2.out.alloc (.cells z24 24))
  have M3 := Lib.hid (HasN.new uw2 z24 24 32 (by kernel_rfl))
  replace HB := Lib.hid (HB.out.alloc hsz (.cells z24 24))
  rw [← hw2] at M1 M2 M3 HB; clear hw2
  (try simp only [Act.put, sI, sS, sZ])
  first | (obtain ⟨Zq, hZ, mZ⟩ := M3.out) | (obtain ⟨Zq, hZ, mZ⟩ := M3.out.toN (k32_size ..))
  refine wpList_store2 (by rfl) 24 _ _ rfl rfl (uw2.heap.size) (k32 QY) rfl rfl 24 Zq mZ (by rw [k32_size]; kernel_rfl) (hZ.trans (k32_size ..).symm) (row_one _ _ _) ?_
  intro yw5 hw2
  replace M1 := Lib.hid (M1.out.setRow_other (uw2.heap.size) (k32 QY) (by omega))
  replace M2 := Lib.hid (M2.out.setRow_other (uw2.heap.size) (k32 QY) (by omega))
  replace M3 := Lib.hid (mZ.setRow (k32 QY))
  replace HB := Lib.hid (below_setRow HB.out (uw2.heap.size) (k32 QY) (by omega))
  rw [← hw2] at M1 M2 M3 HB; clear mZ hZ hw2
  refine wpList_nil ?_
  repeat ((fail_if_success (with_reducible (show wpList _ _ _ _ _ _))); go_step)
  have hix := fun w => run_index_row w 40 3 22 .i64 Try.underlying40 Try.underlying3 sz_int (dg 4096 QX) 0 (by omega)
  rw [show row .i64 22 (dg 4096 QX) = r22 QX from rfl, show (((0 : Nat) : Int)) = 0 from rfl] at hix
  rcases Nat.mod_two_eq_zero_or_one QX with hp | hp
  · have hE := Heven.out hp
    have htm := dg0_tm QX 0 hp
    obtain ⟨z, hz⟩ : ∃ z, z = dg 4096 QX 0 := ⟨_, rfl⟩
    rw [← hz] at htm hix
    have htm : z.tmod 2 = 0 := htm
    have HE := Lib.hid hE; clear hE
    have Hp := Lib.hid hp; clear hp
    have Hz := Lib.hid hz; clear hz
    (refine wpList_step (fun K hK => ?_); go_simp; (try go_bits); refine hK _ _ ?_; clear hK K)
    refine wpList_loadm (by rfl) 40 _ rfl (w.heap.size) 0 rfl (r22l X) (r22 X) rfl (rp_x M1.out) _ Try.underlying40 rfl (by rw [r22l_len]; kernel_rfl) 11 rfl ?_
    (try simp only [Act.put, sI, sS, sZ])
    (refine wpList_step (fun K hK => ?_); go_simp; (try go_bits); refine hK _ _ ?_; clear hK K)
    refine wpList_loadm (by rfl) 40 _ rfl (w.heap.size) 44 rfl (r22l Z) (r22 Z) rfl (rp_z M1.out) _ Try.underlying40 rfl (by rw [r22l_len]; kernel_rfl) 13 rfl ?_
    (try simp only [Act.put, sI, sS, sZ])
    refine wpList_call (by rfl) rfl rfl (by rfl) ent43 (by rfl) (Hov2.out _) 14 rfl ?_
    rintro e uw3 ⟨rfl, hb⟩
    replace M1 := Lib.hid (M1.out.call hb)
    replace M2 := Lib.hid (M2.out.call hb)
    replace M3 := Lib.hid (M3.out.call hb)
    replace HB := Lib.hid (held_next HB.out hb)
    refine ⟨_, rfl, ?_⟩
    clear hb
    (try simp only [Act.put, sI, sS, sZ])
    iterate 3 (refine wpList_step (fun K hK => ?_); go_simp; (try go_bits); refine hK _ _ ?_; clear hK K)
    refine wpList_nil ?_
    clear hix htm
    repeat ((fail_if_success (with_reducible (show wpList _ _ _ _ _ _))); go_step)
    refine wpList_load (by rfl) 24 _ rfl (uw2.heap.size) rfl 24 (k32 QY) M3.out Try.underlying24 rfl (by rw [k32_size]; kernel_rfl) 22 rfl ?_
    (try simp only [Act.put, sI, sS, sZ])
    first | (obtain ⟨Zq, hZ, mZ⟩ := M2.out) | (obtain ⟨Zq, hZ, mZ⟩ := M2.out.toN (k32_size ..))
    refine wpList_store2 (by rfl) 24 _ _ rfl rfl (w.heap.size + 1) (k32 QY) rfl rfl 24 Zq mZ (by rw [k32_size]; kernel_rfl) (hZ.trans (k32_size ..).symm) (row_one _ _ _) ?_
    intro yw6 hw2
    replace M1 := Lib.hid (M1.out.setRow_other (w.heap.size + 1) (k32 QY) (by omega))
    replace M3 := Lib.hid (M3.out.setRow_other (w.heap.size + 1) (k32 QY) (by omega))
    replace M2 := Lib.hid (mZ.setRow (k32 QY))
    replace HB := Lib.hid (below_setRow HB.out (w.heap.size + 1) (k32 QY) (by omega))
    rw [← hw2] at M1 M3 M2 HB; clear mZ hZ hw2
    refine wpList_nil ?_
    go_wp2_with fail
    exact bodyPost_ret (v := .agg (k32 QY)) (results_cell_row (t := 24) (by rfl) _ _ (w.heap.size + 1) _ _ _ rfl M2.out Try.underlying24 rfl (by rw [k32_size]; kernel_rfl)) rfl ⟨by rw [HE.out], HB.out⟩
  · have hE := Hodd.out hp
    have htm := dg0_tm QX 1 hp
    obtain ⟨z, hz⟩ : ∃ z, z = dg 4096 QX 0 := ⟨_, rfl⟩
    rw [← hz] at htm hix
    have htm : z.tmod 2 = 1 := htm
    obtain ⟨c, hc, hcl⟩ := dg31_small QY HQl.out
    have hadd := add_128 c hcl
    have hkt := key_top QY HQl.out ((c : Int) + 128) (by rw [hc])
    have HE := Lib.hid hE; clear hE
    have Hp := Lib.hid hp; clear hp
    have Hz := Lib.hid hz; clear hz
    have Hkt := Lib.hid hkt; clear hkt
    have Hc := Lib.hid hc; clear hc
    (refine wpList_step (fun K hK => ?_); go_simp; (try go_bits); refine hK _ _ ?_; clear hK K)
    refine wpList_loadm (by rfl) 40 _ rfl (w.heap.size) 0 rfl (r22l X) (r22 X) rfl (rp_x M1.out) _ Try.underlying40 rfl (by rw [r22l_len]; kernel_rfl) 11 rfl ?_
    (try simp only [Act.put, sI, sS, sZ])
    (refine wpList_step (fun K hK => ?_); go_simp; (try go_bits); refine hK _ _ ?_; clear hK K)
    refine wpList_loadm (by rfl) 40 _ rfl (w.heap.size) 44 rfl (r22l Z) (r22 Z) rfl (rp_z M1.out) _ Try.underlying40 rfl (by rw [r22l_len]; kernel_rfl) 13 rfl ?_
    (try simp only [Act.put, sI, sS, sZ])
    refine wpList_call (by rfl) rfl rfl (by rfl) ent43 (by rfl) (Hov2.out _) 14 rfl ?_
    rintro e uw3 ⟨rfl, hb⟩
    replace M1 := Lib.hid (M1.out.call hb)
    replace M2 := Lib.hid (M2.out.call hb)
    replace M3 := Lib.hid (M3.out.call hb)
    replace HB := Lib.hid (held_next HB.out hb)
    refine ⟨_, rfl, ?_⟩
    clear hb
    (try simp only [Act.put, sI, sS, sZ])
    iterate 3 (refine wpList_step (fun K hK => ?_); go_simp; (try go_bits); refine hK _ _ ?_; clear hK K)
    refine wpList_nil ?_
    clear hix htm
    repeat ((fail_if_success (with_reducible (show wpList _ _ _ _ _ _))); go_step)
    have h1 := M3.out.cell 31 (by omega)
    rw [Hc.out] at h1
    have hfz := M3.out.frozen 31
    iterate 5 (refine wpList_step (fun K hK => ?_); go_simp; (try go_bits); refine hK _ _ ?_; clear hK K)
    refine wpList_nil ?_
    clear h1 hfz
    have kq := M3.out.set 31 ((c : Int) + 128); rw [Hkt.out] at kq; clear M3; have M3 := Lib.hid kq; clear kq
    have kq := M1.out.other ⟨uw2.heap.size, 31, none⟩ (.int .u8 ((c : Int) + 128)) (by simp <;> omega); clear M1; have M1 := Lib.hid kq; clear kq
    have kq := M2.out.other ⟨uw2.heap.size, 31, none⟩ (.int .u8 ((c : Int) + 128)) (by simp <;> omega); clear M2; have M2 := Lib.hid kq; clear kq
    replace HB := Lib.hid (HB.out.setCell (p := ⟨uw2.heap.size, 31, none⟩) (show w.heap.size ≤ uw2.heap.size by omega) (.int .u8 ((c : Int) + 128)))
    obtain ⟨yw6, hwyw6⟩ : ∃ ww, ww = uw3.setCell ⟨uw2.heap.size, 31, none⟩ (.int .u8 ((c : Int) + 128)) := ⟨_, rfl⟩
    rw [← hwyw6] at M1 M2 M3 HB ⊢
    clear hwyw6
    repeat ((fail_if_success (with_reducible (show wpList _ _ _ _ _ _))); go_step)
    refine wpList_load (by rfl) 24 _ rfl (uw2.heap.size) rfl 24 (k32 (QY + 57896044618658097711785492504343953926634992332820282019728792003956564819968)) M3.out Try.underlying24 rfl (by rw [k32_size]; kernel_rfl) 22 rfl ?_
    (try simp only [Act.put, sI, sS, sZ])
    first | (obtain ⟨Zq, hZ, mZ⟩ := M2.out) | (obtain ⟨Zq, hZ, mZ⟩ := M2.out.toN (k32_size ..))
    refine wpList_store2 (by rfl) 24 _ _ rfl rfl (w.heap.size + 1) (k32 (QY + 57896044618658097711785492504343953926634992332820282019728792003956564819968)) rfl rfl 24 Zq mZ (by rw [k32_size]; kernel_rfl) (hZ.trans (k32_size ..).symm) (row_one _ _ _) ?_
    intro yw7 hw2
    replace M1 := Lib.hid (M1.out.setRow_other (w.heap.size + 1) (k32 (QY + 57896044618658097711785492504343953926634992332820282019728792003956564819968)) (by omega))
    replace M3 := Lib.hid (M3.out.setRow_other (w.heap.size + 1) (k32 (QY + 57896044618658097711785492504343953926634992332820282019728792003956564819968)) (by omega))
    replace M2 := Lib.hid (mZ.setRow (k32 (QY + 57896044618658097711785492504343953926634992332820282019728792003956564819968)))
    replace HB := Lib.hid (below_setRow HB.out (w.heap.size + 1) (k32 (QY + 57896044618658097711785492504343953926634992332820282019728792003956564819968)) (by omega))
    rw [← hw2] at M1 M3 M2 HB; clear mZ hZ hw2
    refine wpList_nil ?_
    go_wp2_with fail
    exact bodyPost_ret (v := .agg (k32 (QY + 57896044618658097711785492504343953926634992332820282019728792003956564819968))) (results_cell_row (t := 24) (by rfl) _ _ (w.heap.size + 1) _ _ _ rfl M2.out Try.underlying24 rfl (by rw [k32_size]; kernel_rfl)) rfl ⟨by rw [HE.out], HB.out⟩
end Go.Proofs.Ytjiagjonlcadiaa
end
section
namespace Go.Proofs.Ytjiagjonlcadiaa
open Go.RowKit Go.Lib
end Go.Proofs.Ytjiagjonlcadiaa
end
section
namespace Go.Proofs.Ytjiagjonlcadiaa
open Go.RowKit Go.Lib

theorem rp_there {w : World} {b : Nat} {t : TypeId} {x y z s : Nat} (h : Has w b (rp x y z s) t) (o : Nat) (ho : o + 22 ≤ 88) : w.there b o 22 := fun j hj => by
  rw [h.cellAt, h.frozen]
  have : o + j < (rp x y z s).size := by rw [rp_size]; omega
  simp [this]
theorem rp_setx {w : World} {b : Nat} {t : TypeId} {x y z s : Nat} (h : Has w b (rp x y z s) t) (x2 : Nat) : Has (w.setCells b 0 (r22 x2).toList) b (rp x2 y z s) t := by
  have := Has.setCells (r22l x2) (rp x y z s) 0 h (by rw [r22l_len, rp_size]; omega)
  rw [r22l_len] at this
  have e : (List.take 0 (rp x y z s).toList ++ r22l x2 ++ List.drop (0 + 22) (rp x y z s).toList).toArray = rp x2 y z s := by
    unfold rp
    simp only [List.take_zero, List.nil_append, Nat.zero_add, List.append_assoc]
    rw [show (22 : Nat) = (r22l x).length from (r22l_len x).symm, List.drop_left]
  rw [e] at this
  exact this
theorem rp_sett {w : World} {b : Nat} {t : TypeId} {x y z s : Nat} (h : Has w b (rp x y z s) t) (s2 : Nat) : Has (w.setCells b 66 (r22 s2).toList) b (rp x y z s2) t := by
  have := Has.setCells (r22l s2) (rp x y z s) 66 h (by rw [r22l_len, rp_size]; omega)
  rw [r22l_len] at this
  have e : (List.take 66 (rp x y z s).toList ++ r22l s2 ++ List.drop (66 + 22) (rp x y z s).toList).toArray = rp x y z s2 := by
    unfold rp
    have h66 : (66 : Nat) = (r22l x ++ r22l y ++ r22l z).length := by simp [r22l_len]
    have h88 : List.drop (66 + 22) (r22l x ++ r22l y ++ r22l z ++ r22l s) = [] := by
      apply List.drop_eq_nil_of_le; simp [r22l_len]
    rw [show ((r22l x ++ r22l y ++ r22l z ++ r22l s).toArray).toList = r22l x ++ r22l y ++ r22l z ++ r22l s from rfl, h88, h66, List.take_left, List.append_nil]
  rw [e] at this
  exact this

set_option maxRecDepth 100000 in
set_option linter.unusedSimpArgs false in
set_option maxHeartbeats 8000000 in
theorem turned_any (X Y Z T : Nat) (hX : X < PP) (hT : T < PP) (w : World) :
    Calls Try.prog 54 #[.agg (rp X Y Z T)] w fun e w' => e = .returned (.agg (rp (negP X) Y Z (negP T))) ∧ Below w.heap.size w w' := by
  have h1 := fun w => rminus_any 0 X PP_pos hX w
  have h2 := fun w => rminus_any 0 T PP_pos hT w
  obtain ⟨NX, hNX⟩ : ∃ n, n = negP X := ⟨_, rfl⟩
  obtain ⟨NT, hNT⟩ : ∃ n, n = negP T := ⟨_, rfl⟩
  rw [show (0 + (PP - X)) % PP = NX by rw [hNX]; unfold negP; rw [Nat.zero_mod]] at h1
  rw [show (0 + (PP - T)) % PP = NT by rw [hNT]; unfold negP; rw [Nat.zero_mod]] at h2
  rw [← hNX, ← hNT]
  clear hNX hNT hX hT
  have H1 := Lib.hid h1; clear h1
  have H2 := Lib.hid h2; clear h2
  go_enter Try.func54, Try.ntmps54
  repeat ((fail_if_success (with_reducible (show wpList _ _ _ _ _ _))); go_step)
  iterate 2 (refine wpList_step (fun K hK => ?_); go_simp; (try go_bits); refine hK _ _ ?_; clear hK K)
  refine wpList_nil ?_
  have M1 := Lib.hid ((Has.new w  (rp X Y Z T) 57).alloc (.cells Try.zeroCells57 57))
  have M2 := Lib.hid (HasN.new1 w (.cells (rp X Y Z T) 57) Try.zeroCells57 57 88 (by kernel_rfl))
  have HB := Lib.hid (below_2 w (.cells (rp X Y Z T) 57) (.cells Try.zeroCells57 57))
  obtain ⟨yw1, hwyw1⟩ : ∃ ww, ww = ((w.alloc (.cells (rp X Y Z T) 57)).alloc (.cells Try.zeroCells57 57)) := ⟨_, rfl⟩
  rw [← hwyw1] at M1 M2 HB ⊢
  clear hwyw1
  repeat ((fail_if_success (with_reducible (show wpList _ _ _ _ _ _))); go_step)
  refine wpList_built (by rfl) 40 _ rfl _ (by rfl) (r22 0) (bd40z) 3 rfl ?_
  (try simp only [Act.put, sI, sS, sZ])
  (refine wpList_step (fun K hK => ?_); go_simp; (try go_bits); refine hK _ _ ?_; clear hK K)
  refine wpList_loadm (by rfl) 40 _ rfl (w.heap.size) 0 rfl (r22l X) (r22 X) rfl (rp_x M1.out) _ Try.underlying40 rfl (by rw [r22l_len]; kernel_rfl) 5 rfl ?_
  (try simp only [Act.put, sI, sS, sZ])
  refine wpList_call (by rfl) rfl rfl (by rfl) ent40 (by rfl) (H1.out _) 6 rfl ?_
  rintro e uw1 ⟨rfl, hb⟩
  replace M1 := Lib.hid (M1.out.call hb)
  replace M2 := Lib.hid (M2.out.call hb)
  replace HB := Lib.hid (held_next HB.out hb)
  refine ⟨_, rfl, ?_⟩
  clear hb
  (try simp only [Act.put, sI, sS, sZ])
  (refine wpList_step (fun K hK => ?_); go_simp; (try go_bits); refine hK _ _ ?_; clear hK K)
  
  refine wpList_store_mid rfl 40 _ _ rfl (w.heap.size) 0 (r22 NX) rfl rfl (by rw [r22_size]; exact rp_there M1.out 0 (by omega)) (by rw [r22_size]; kernel_rfl) (row_one _ _ _) ?_
  (try simp only [Act.put, sI, sS, sZ])
  replace M2 := Lib.hid (M2.out.setCells_other (w.heap.size) 0 (r22 NX).toList (by omega))
  replace HB := Lib.hid (below_setCells (w.heap.size) (by omega) (r22 NX).toList _ 0 HB.out)
  replace M1 := Lib.hid (rp_setx M1.out NX)
  obtain ⟨yw2, hwyw2⟩ : ∃ ww, ww = uw1.setCells (w.heap.size) 0 (r22 NX).toList := ⟨_, rfl⟩
  rw [← hwyw2] at M1 M2 HB ⊢
  clear hwyw2
  refine wpList_nil ?_
  repeat ((fail_if_success (with_reducible (show wpList _ _ _ _ _ _))); go_step)
  refine wpList_built (by rfl) 40 _ rfl _ (by rfl) (r22 0) (bd40z) 8 rfl ?_
  (try simp only [Act.put, sI, sS, sZ])
  (refine wpList_step (fun K hK => ?_); go_simp; (try go_bits); refine hK _ _ ?_; clear hK K)
  refine wpList_loadm (by rfl) 40 _ rfl (w.heap.size) 66 rfl (r22l T) (r22 T) rfl (rp_t M1.out) _ Try.underlying40 rfl (by rw [r22l_len]; kernel_rfl) 10 rfl ?_
  (try simp only [Act.put, sI, sS, sZ])
  refine wpList_call (by rfl) rfl rfl (by rfl) ent40 (by rfl) (H2.out _) 11 rfl ?_
  rintro e uw2 ⟨rfl, hb⟩
  replace M1 := Lib.hid (M1.out.call hb)
  replace M2 := Lib.hid (M2.out.call hb)
  replace HB := Lib.hid (held_next HB.out hb)
  refine ⟨_, rfl, ?_⟩
  clear hb
  (try simp only [Act.put, sI, sS, sZ])
  (refine wpList_step (fun K hK => ?_); go_simp; (try go_bits); refine hK _ _ ?_; clear hK K)
  
  refine wpList_store_mid rfl 40 _ _ rfl (w.heap.size) 66 (r22 NT) rfl rfl (by rw [r22_size]; exact rp_there M1.out 66 (by omega)) (by rw [r22_size]; kernel_rfl) (row_one _ _ _) ?_
  (try simp only [Act.put, sI, sS, sZ])
  replace M2 := Lib.hid (M2.out.setCells_other (w.heap.size) 66 (r22 NT).toList (by omega))
  replace HB := Lib.hid (below_setCells (w.heap.size) (by omega) (r22 NT).toList _ 66 HB.out)
  replace M1 := Lib.hid (rp_sett M1.out NT)
  obtain ⟨yw3, hwyw3⟩ : ∃ ww, ww = uw2.setCells (w.heap.size) 66 (r22 NT).toList := ⟨_, rfl⟩
  rw [← hwyw3] at M1 M2 HB ⊢
  clear hwyw3
  refine wpList_nil ?_
  repeat ((fail_if_success (with_reducible (show wpList _ _ _ _ _ _))); go_step)
  refine wpList_load (by rfl) 57 _ rfl (w.heap.size) rfl 57 (rp NX Y Z NT) M1.out Try.underlying57 rfl (by rw [rp_size]; kernel_rfl) 13 rfl ?_
  (try simp only [Act.put, sI, sS, sZ])
  first | (obtain ⟨Zq, hZ, mZ⟩ := M2.out) | (obtain ⟨Zq, hZ, mZ⟩ := M2.out.toN (rp_size ..))
  refine wpList_store2 (by rfl) 57 _ _ rfl rfl (w.heap.size + 1) (rp NX Y Z NT) rfl rfl 57 Zq mZ (by rw [rp_size]; kernel_rfl) (hZ.trans (rp_size ..).symm) (rp_one _ _ _ _) ?_
  intro yw4 hw2
  replace M1 := Lib.hid (M1.out.setRow_other (w.heap.size + 1) (rp NX Y Z NT) (by omega))
  replace M2 := Lib.hid (mZ.setRow (rp NX Y Z NT))
  replace HB := Lib.hid (below_setRow HB.out (w.heap.size + 1) (rp NX Y Z NT) (by omega))
  rw [← hw2] at M1 M2 HB; clear mZ hZ hw2
  refine wpList_nil ?_
  go_wp2_with fail
  exact bodyPost_ret (v := .agg (rp NX Y Z NT)) (results_cell_row (t := 57) (by rfl) _ _ (w.heap.size + 1) _ _ _ rfl M2.out Try.underlying57 rfl (by rw [rp_size]; kernel_rfl)) rfl ⟨rfl, HB.out⟩

end Go.Proofs.Ytjiagjonlcadiaa
end
section
namespace Go.Proofs.Ytjiagjonlcadiaa
open Go.RowKit Go.Lib

/-- a point's opposite -/
def negA (p : Fin PP × Fin PP) : Fin PP × Fin PP := (-p.1, p.2)
/-- a point comes back: this one of the group -/
def PtG (p : Fin PP × Fin PP) (w : World) (e : Ending) (w' : World) : Prop := ∃ x y z b, PtA x y z b p ∧ e = .returned (.agg (pt x y z b)) ∧ Below w.heap.size w w'
/-- the reference's point comes back -/
def RqG (p : Fin PP × Fin PP) (w : World) (e : Ending) (w' : World) : Prop := ∃ X Y Z T : Nat, Rq X Y Z T p ∧ e = .returned (.agg (rp X Y Z T)) ∧ Below w.heap.size w w'
theorem ptp_g {X Y Z : Nat} {p : Fin PP × Fin PP} (h : Rep X Y Z p) {w w' : World} {e : Ending} (hp : PtP X Y Z w e w') : PtG p w e w' :=
  let ⟨x, y, z, b, h1, h2, h3⟩ := hp; ⟨x, y, z, b, ⟨X, Y, Z, h1, h⟩, h2, h3⟩
theorem g_gen (w : World) : Calls Try.prog 58 #[] w (PtG gG w) := (gen_any w).mono fun _ _ h => ptp_g gen_rep h
theorem g_plus (x1 y1 z1 : Nat) (b1 : Bool) (p : Fin PP × Fin PP) (h1 : PtA x1 y1 z1 b1 p) (x2 y2 z2 : Nat) (b2 : Bool) (q : Fin PP × Fin PP) (h2 : PtA x2 y2 z2 b2 q) (w : World) :
    Calls Try.prog 51 #[.agg (pt x1 y1 z1 b1), .agg (pt x2 y2 z2 b2)] w (PtG (padA finv fd p q) w) := by
  obtain ⟨X1, Y1, Z1, i1, r1⟩ := h1
  obtain ⟨X2, Y2, Z2, i2, r2⟩ := h2
  exact (pplus_any x1 y1 z1 b1 X1 Y1 Z1 i1 x2 y2 z2 b2 X2 Y2 Z2 i2 w).mono fun _ _ h => ptp_g (padd_rep _ _ _ _ _ _ p q r1 r2) h
theorem ispt_lt {x y z : Nat} {b : Bool} {X Y Z : Nat} (h : IsPt x y z b X Y Z) : X < PP := by
  obtain ⟨_, ⟨_, hx, _⟩ | ⟨_, hx, _⟩⟩ := h <;> (rw [← hx]; exact Nat.mod_lt _ PP_pos)
theorem g_minus (x1 y1 z1 : Nat) (b1 : Bool) (p : Fin PP × Fin PP) (h1 : PtA x1 y1 z1 b1 p) (x2 y2 z2 : Nat) (b2 : Bool) (q : Fin PP × Fin PP) (h2 : PtA x2 y2 z2 b2 q) (w : World) :
    Calls Try.prog 53 #[.agg (pt x1 y1 z1 b1), .agg (pt x2 y2 z2 b2)] w (PtG (padA finv fd p (negA q)) w) := by
  obtain ⟨X1, Y1, Z1, i1, r1⟩ := h1
  obtain ⟨X2, Y2, Z2, i2, r2⟩ := h2
  exact (pminus_any x1 y1 z1 b1 X1 Y1 Z1 i1 x2 y2 z2 b2 X2 Y2 Z2 i2 w).mono fun _ _ h => ptp_g (padd_rep _ _ _ _ _ _ p (negA q) r1 (neg_rep X2 Y2 Z2 q r2 (ispt_lt i2))) h
theorem g_key (x y z : Nat) (b : Bool) (p : Fin PP × Fin PP) (h : PtA x y z b p) (w : World) :
    Calls Try.prog 49 #[.agg (pt x y z b)] w fun e w' => e = .returned (.agg (k32 (keyP p))) ∧ Below w.heap.size w w' := by
  obtain ⟨X, Y, Z, i, r⟩ := h
  have := pkey_any x y z b X Y Z i w
  rw [keyn_rep X Y Z p r] at this
  exact this
theorem g_is (x1 y1 z1 : Nat) (b1 : Bool) (p : Fin PP × Fin PP) (h1 : PtA x1 y1 z1 b1 p) (x2 y2 z2 : Nat) (b2 : Bool) (q : Fin PP × Fin PP) (h2 : PtA x2 y2 z2 b2 q) (w : World) :
    Calls Try.prog 55 #[.agg (pt x1 y1 z1 b1), .agg (pt x2 y2 z2 b2)] w fun e w' => e = .returned (.bool (decide (p = q))) ∧ Below w.heap.size w w' := by
  obtain ⟨X1, Y1, Z1, i1, r1⟩ := h1
  obtain ⟨X2, Y2, Z2, i2, r2⟩ := h2
  have := pis_any x1 y1 z1 b1 X1 Y1 Z1 i1 x2 y2 z2 b2 X2 Y2 Z2 i2 w
  rw [is_rep X1 Y1 Z1 X2 Y2 Z2 p q r1 r2] at this
  exact this
theorem keyP_lt (p : Fin PP × Fin PP) : keyP p < 115792089237316195423570985008687907853269984665640564039457584007913129639936 := by
  have h1 := p.2.isLt
  have h2 : p.1.val % 2 < 2 := Nat.mod_lt _ (by decide)
  have := PP_255
  unfold keyP; omega
/-- the point of a text, the origin where there is none -/
def cofP (n : Nat) : Fin PP × Fin PP := (fi (cof n).2.1, fi (cof n).2.2)
theorem cofP_on (n : Nat) : OnP fd (cofP n) := (cof_rep n).2.2.2
theorem cofP_key (p : Fin PP × Fin PP) (h : OnP fd p) : cofP (keyP p) = p := by
  unfold cofP; rw [cof_keyP p h]; exact Prod.ext (fi_val _) (fi_val _)
theorem g_of (n : Nat) (hn : n < 115792089237316195423570985008687907853269984665640564039457584007913129639936) (w : World) :
    Calls Try.prog 47 #[.agg (k32 n)] w fun e w' => ∃ x y z b, PtA x y z b (cofP n) ∧ e = .returned (.tuple #[.agg (pt x y z b), .bool (cof n).1]) ∧ Below w.heap.size w w' := by
  refine (pof_any n hn w).mono ?_
  rintro e w' ⟨x, y, z, b, h1, h2, h3⟩
  rw [one_PP] at h1
  exact ⟨x, y, z, b, ⟨_, _, _, h1, cof_rep n⟩, h2, h3⟩
theorem g_ofk (p : Fin PP × Fin PP) (h : OnP fd p) (w : World) :
    Calls Try.prog 47 #[.agg (k32 (keyP p))] w fun e w' => ∃ x y z b, PtA x y z b p ∧ e = .returned (.tuple #[.agg (pt x y z b), .bool true]) ∧ Below w.heap.size w w' := by
  have := g_of (keyP p) (keyP_lt p) w
  rw [cofP_key p h, show (cof (keyP p)).1 = true by rw [cof_keyP p h]] at this
  exact this
theorem g_many (x y z n : Nat) (b : Bool) (p : Fin PP × Fin PP) (hp : PtA x y z b p) (hn : n < 115792089237316195423570985008687907853269984665640564039457584007913129639936) (w : World) :
    Calls Try.prog 56 #[.agg (pt x y z b), .agg (k32 n)] w (PtG (mulA finv fd p n) w) := pmany_any x y z n b p hp hn w
theorem gr_of (n : Nat) (hn : n < 115792089237316195423570985008687907853269984665640564039457584007913129639936) (w : World) :
    Calls Try.prog 48 #[.agg (k32 n)] w fun e w' => ∃ X Y Z T : Nat, Rq X Y Z T (cofP n) ∧ e = .returned (.tuple #[.agg (rp X Y Z T), .bool (cof n).1]) ∧ Below w.heap.size w w' := by
  refine (rofp_any n hn w).mono ?_
  rintro e w' ⟨h1, h2⟩
  obtain ⟨lx, ly⟩ := cof_lt n
  refine ⟨_, _, _, _, ⟨⟨cof_rep n, ?_⟩, lx, ly, by have := PP_val; omega, Nat.mod_lt _ PP_pos⟩, h1, h2⟩
  rw [fi_mod, fi_mul, fi_one]
  show _ = fi (cof n).2.1 * fi (cof n).2.2 * 1
  grind
theorem gr_key (X Y Z T : Nat) (p : Fin PP × Fin PP) (h : Rq X Y Z T p) (w : World) :
    Calls Try.prog 50 #[.agg (rp X Y Z T)] w fun e w' => e = .returned (.agg (k32 (keyP p))) ∧ Below w.heap.size w w' := by
  obtain ⟨⟨r, _⟩, x, y, z, _⟩ := h
  have := rkeyp_any X Y Z T x y z w
  rw [keyn_rep X Y Z p r] at this
  exact this
theorem gr_many (X Y Z T n : Nat) (p : Fin PP × Fin PP) (hp : Rq X Y Z T p) (hn : n < 115792089237316195423570985008687907853269984665640564039457584007913129639936) (w : World) :
    Calls Try.prog 57 #[.agg (rp X Y Z T), .agg (k32 n)] w (RqG (mulA finv fd p n) w) := rmany_any X Y Z T n p hp hn w
theorem gr_plus (X1 Y1 Z1 T1 X2 Y2 Z2 T2 : Nat) (p q : Fin PP × Fin PP) (hp : Rq X1 Y1 Z1 T1 p) (hq : Rq X2 Y2 Z2 T2 q) (w : World) :
    Calls Try.prog 52 #[.agg (rp X1 Y1 Z1 T1), .agg (rp X2 Y2 Z2 T2)] w (RqG (padA finv fd p q) w) := radd_rq X1 Y1 Z1 T1 X2 Y2 Z2 T2 p q hp hq w
theorem gr_turned (X Y Z T : Nat) (p : Fin PP × Fin PP) (h : Rq X Y Z T p) (w : World) :
    Calls Try.prog 54 #[.agg (rp X Y Z T)] w (RqG (negA p) w) := by
  obtain ⟨⟨r, t⟩, x, y, z, lt⟩ := h
  refine (turned_any X Y Z T x lt w).mono ?_
  rintro e w' ⟨h1, h2⟩
  refine ⟨_, _, _, _, ⟨⟨neg_rep X Y Z p r x, ?_⟩, Nat.mod_lt _ PP_pos, y, z, Nat.mod_lt _ PP_pos⟩, h1, h2⟩
  have h := fi_neg T
  rw [Nat.mod_eq_of_lt lt] at h
  rw [Nat.zero_mod, Nat.zero_add, fi_mod, h, t]
  show -(p.1 * p.2 * fi Z) = -p.1 * p.2 * fi Z
  grind
/-- the generator's multiples: only the rest by the order counts -/
theorem gG_on : OnP fd gG := gen_rep.2.2.2
theorem mul_LL : mulA finv fd gG LL = (0, 1) := by
  have h := pmul_rep (GX, GY, 1) gG gen_rep 253 LL (by decide +kernel)
  obtain ⟨hx, hy, hz, _⟩ := h
  obtain ⟨o1, o2⟩ := order_val
  have e1 : fi (pmul (GX, GY, 1) 253 LL).1 = 0 := by rw [← fi_zero]; exact (fi_eq _ _).2 (o1.trans (Nat.zero_mod _).symm)
  have e2 : fi (pmul (GX, GY, 1) 253 LL).2.1 = fi (pmul (GX, GY, 1) 253 LL).2.2 := (fi_eq _ _).2 o2
  rw [e1] at hx
  rw [e2] at hy
  refine Prod.ext ?_ ?_
  · exact (fld.dom _ _ hx.symm).resolve_right hz
  · exact fld.cancel _ _ _ hz (by rw [← hy]; grind)
theorem mul_rest (n : Nat) : mulA finv fd gG (n % LL) = mulA finv fd gG n := by
  have h : mulA finv fd gG n = padA finv fd (mulA finv fd gG (LL * (n / LL))) (mulA finv fd gG (n % LL)) := by
    rw [← fld.mul_add gG gG_on, Nat.div_add_mod]
  rw [h, ← fld.mul_mul gG gG_on, mul_LL]
  have h0 : ∀ k, mulA finv fd ((0, 1) : Fin PP × Fin PP) k = (0, 1) := by
    intro k
    induction k with
    | zero => rfl
    | succ k ih => show padA finv fd (mulA finv fd (0, 1) k) (0, 1) = (0, 1); rw [ih, fld.add_zero _ on_zero]
  rw [h0, fld.zero_add _ (fld.on_mul gG gG_on _)]
end Go.Proofs.Ytjiagjonlcadiaa
end
section
namespace Go.Proofs.Ytjiagjonlcadiaa
open Go.ChangeShapes Go.WideShapes Go.ChangeAt Go.RowKit

theorem own : ownKnob Try.prog.godebug = none := by kernel_rfl
theorem laidOut : laidOutB Try.prog = true := by kernel_rfl
theorem cells24 : Try.prog.cellsOf 24 = 32 := by kernel_rfl
theorem cells5 : Try.prog.cellsOf 5 = 1 := by kernel_rfl

set_option maxRecDepth 100000 in
theorem okWide_arr {w : World} {r : Reach} {b0 : Nat} {t e : TypeId} {n : Nat} {v : Value} (ht : Try.prog.underlying t = some (.array n e)) (h : Value.okWide Try.prog w r b0 t v) : ∃ cs, v = .agg cs ∧ cs.size = Try.prog.cellsOf t := by
  simp only [Value.okWide, ht] at h
  obtain ⟨cs, h1, h2, _⟩ := h
  exact ⟨cs, h1, h2⟩


set_option maxRecDepth 100000 in
theorem fig_number (f : Nat → Int) (hf : ∀ i, i < 32 → 0 ≤ f i ∧ f i < 256) : ∃ n : Nat, n < 115792089237316195423570985008687907853269984665640564039457584007913129639936 ∧ row .u8 32 f = k32 n := by
  have h0 := sumf_nonneg 256 (by omega) f 32 (fun i hi => (hf i hi).1)
  have h1 := sumf_lt 256 (by omega) f 32 (fun i hi => (hf i hi).2)
  obtain ⟨n, hn⟩ := Int.eq_ofNat_of_zero_le h0
  refine ⟨n, ?_, ?_⟩
  · have e : (256 : Int) ^ 32 = 115792089237316195423570985008687907853269984665640564039457584007913129639936 := by decide +kernel
    rw [hn, e] at h1; omega
  · exact row_ext _ _ _ _ (sumf_uniq 256 f n 32 (fun i hi => hf i hi) hn)

set_option maxRecDepth 100000 in
theorem open_key {H : Type} {enc : TypeId × Value → H} {w : World} {base : Nat} {spare : Nat → Bool} {held : Bool} {r : Reach} {b0 : Nat} {v : Value} {d : DataW H} {p : List MemPlace}
    (hv : Value.okWide Try.prog w r b0 24 v) (h : DataW.Trod enc Try.prog w base spare held 24 v d p) : ∃ n : Nat, n < 115792089237316195423570985008687907853269984665640564039457584007913129639936 ∧ v = .agg (k32 n) := by
  obtain ⟨cs, rfl, hsz⟩ := okWide_arr Try.underlying24 hv
  rw [cells24] at hsz
  obtain ⟨fuel, hf⟩ := h
  obtain ⟨xs, m, _, _, _, hl, hel⟩ := DataW.trod_array Try.underlying24 hf
  have hz : ∀ i : Nat, ∃ z : Int, i < 32 → cs[i]? = some (.int .u8 z) ∧ (Lit.int .u8 z).wf = true := by
    intro i
    by_cases hi : i < 32
    · have hE := hel i hi
      rw [cells5, Nat.mul_one, List.getElem?_eq_getElem (by omega)] at hE
      obtain ⟨z, e1, _, e3⟩ := DataW.trod_int Try.underlying5 hE
      refine ⟨z, fun _ => ⟨?_, e3⟩⟩
      have h0 : (((Value.agg cs).cells.toList.drop i).take 1)[0]? = some (.int .u8 z) := by rw [e1]; rfl
      simpa [Value.cells] using h0
    · exact ⟨0, fun h => absurd h hi⟩
  obtain ⟨f, hf2⟩ := Classical.skolem.1 hz
  obtain ⟨n, hn, he⟩ := fig_number f (fun i hi => by
    have := bounds_u8 (hf2 i hi).2
    omega)
  refine ⟨n, hn, ?_⟩
  rw [← he]
  congr 1
  apply Array.ext_getElem?
  intro j
  by_cases hj : j < 32
  · rw [(hf2 j hj).1, row_get _ _ _ _ hj]
  · rw [row_none _ _ _ _ hj]; simp; omega
end Go.Proofs.Ytjiagjonlcadiaa
end
