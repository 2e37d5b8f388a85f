/- For every row of bytes and every number the law AuditNone returns true, and the bytes read as they did; no condition. -/
import Derived.Deep.DeepCutAuto
import Derived.Deep.CutBlock
import Derived.Laws.BytesArg
import Derived.Laws.IdiomStrings
import Derived.Laws.MakeOwn
import Derived.Shelf.Strings.OnBuilder
import Derived.Shelf.LaysM
import Derived.Shelf.Strconv.Itoa3
import Derived.Test.YtbgefoamhdgnaaaGreatDoorProg
import Derived.Test.YtbgefoamhdgnaaaGreatDoorGa5
set_option maxRecDepth 100000
set_option maxHeartbeats 16000000
set_option linter.unusedVariables false
set_option linter.unusedSimpArgs false
namespace Go.Proofs.YtbgefoamhdgnaaaGreatDoor
section
open Go.RowKit Go.Lib
theorem HasN.there2 {w : World} {b n : Nat} {t : TypeId} (h : HasN w b n t) (o k : Nat) (ho : o + k ≤ n) : w.there b o k := fun j hj => by
 obtain ⟨c, hn, h⟩ := h
 exact ⟨by rw [h.cellAt, Array.getElem?_eq_getElem (by omega)]; rfl, h.frozen _⟩
def ptl (x y z : Nat) (b : Bool) : List Value := (pt x y z b).toList
theorem ptl_arr (x y z : Nat) (b : Bool) : pt x y z b = (ptl x y z b).toArray := by simp [ptl]
theorem ZF (x y z : Nat) (b : Bool) : (ptl x y z b).length = 13 := by unfold ptl; rw [Array.length_toList, qn]
structure Rng (w : World) (b o : Nat) (l : List Value) : Prop where
 lt : b < w.heap.size
 at_ : w.rangeAt b o l
theorem Rng.call {w w' : World} {b o : Nat} {l : List Value} (h : Rng w b o l) (hb : Below w.heap.size w w') : Rng w' b o l := ⟨Nat.lt_of_lt_of_le h.lt hb.size, Za h.at_ hb h.lt⟩
theorem Rng.drew {w : World} {b o : Nat} {l : List Value} (h : Rng w b o l) : Rng w.drew b o l := ⟨h.lt, h.at_⟩
theorem Rng.setRow_other {w : World} {b o : Nat} {l : List Value} (h : Rng w b o l) (g : Nat) (c : Array Value) (hg : b ≠ g) : Rng (w.setRow g c) b o l :=
 ⟨by have := (below_setRow (Below.refl 0 w) g c (Nat.zero_le _)).size; exact Nat.lt_of_lt_of_le h.lt this, fun j v hv => (World.cell?_of_block (w := w) (w' := w.setRow g c) (a := ⟨b, o + j, none⟩) (Go.setRow_other w g b c hg)).trans (h.at_ j v hv)⟩
theorem Rng.setCells_other {w : World} {b o : Nat} {l : List Value} (h : Rng w b o l) (g o' : Nat) (vs : List Value) (hg : b ≠ g ∨ o + l.length ≤ o' ∨ o' + vs.length ≤ o) : Rng (w.setCells g o' vs) b o l :=
 ⟨by have := (zH (Nat.zero_le g) vs o' w (Below.refl 0 w)).size; exact Nat.lt_of_lt_of_le h.lt this, World.rangeAt_setCells_apart h.at_ _ _ _ hg⟩
def PtA (x y z : Nat) (b : Bool) (p : Fin PP × Fin PP) : Prop := ∃ X Y Z, ZS x y z b X Y Z ∧ Rep X Y Z p
theorem PtA.on {x y z : Nat} {b : Bool} {p : Fin PP × Fin PP} (h : PtA x y z b p) : OnP fd p := let ⟨_, _, _, _, h⟩ := h; h.2.2.2
theorem zero_pta : PtA 0 0 0 false (0, 1) := ⟨0, 1, 1, ⟨⟨by decide, by decide, by decide⟩, .inr ⟨rfl, by decide +kernel, by decide +kernel, by decide +kernel⟩⟩, qch⟩
structure Tab (w : World) (B i : Nat) (p : Fin PP × Fin PP) : Prop where
 has : HasN w B 208 182
 rng : ∀ j, j < i → ∃ x y z b, PtA x y z b (qV qN fd p j) ∧ w.rangeAt B (j * 13) (ptl x y z b)
section tab
variable {w w' : World} {B i : Nat} {p : Fin PP × Fin PP}
theorem Tab.lt (h : Tab w B i p) : B < w.heap.size := h.has.lt
theorem Tab.call (h : Tab w B i p) (hb : Below w.heap.size w w') : Tab w' B i p := ⟨h.has.call hb, fun j hj => let ⟨x, y, z, b, h1, h2⟩ := h.rng j hj; ⟨x, y, z, b, h1, Za h2 hb h.lt⟩⟩
theorem Tab.drew (h : Tab w B i p) : Tab w.drew B i p := ⟨h.has, h.rng⟩
theorem Tab.alloc (h : Tab w B i p) (o : Obj) : Tab (w.alloc o) B i p := h.call ((Below.refl _ _).alloc (Nat.le_refl _) _)
theorem Tab.setRow_other (h : Tab w B i p) (g : Nat) (c : Array Value) (hg : B ≠ g) : Tab (w.setRow g c) B i p :=
 ⟨h.has.setRow_other g c hg, fun j hj => let ⟨x, y, z, b, h1, h2⟩ := h.rng j hj; ⟨x, y, z, b, h1, ((Rng.mk h.lt h2).setRow_other g c hg).at_⟩⟩
theorem Tab.other (h : Tab w B i p) (a : Addr) (v : Value) (hb : B ≠ a.block) : Tab (w.setCell a v) B i p :=
 ⟨h.has.other a v hb, fun j hj => let ⟨x, y, z, b, h1, h2⟩ := h.rng j hj; ⟨x, y, z, b, h1, fun k u hu => (World.cell?_of_block (w := w) (w' := w.setCell a v) (a := ⟨B, j * 13 + k, none⟩) (heap_setCell_other w a B v hb)).trans (h2 k u hu)⟩⟩
theorem Tab.next (h : Tab w B i p) (hi : i < 16) (x y z : Nat) (b : Bool) (hp : PtA x y z b (qV qN fd p i)) : Tab (w.setCells B (i * 13) (ptl x y z b)) B (i + 1) p := by
 refine ⟨h.has.setCells _ _ _, fun j hj => ?_⟩
 by_cases e : j = i
 · subst e
   exact ⟨x, y, z, b, hp, World.rangeAt_setCells_same w B _ _ (h.has.there2 _ _ (by rw [ZF]; omega))⟩
 · obtain ⟨x1, y1, z1, b1, h1, h2⟩ := h.rng j (by omega)
   exact ⟨x1, y1, z1, b1, h1, World.rangeAt_setCells_apart h2 _ _ _ (.inr (.inl (by rw [ZF]; omega)))⟩
theorem Tab.at_ (h : Tab w B i p) (j : Nat) (hj : j < i) : ∃ x y z b, PtA x y z b (qV qN fd p j) ∧ Rng w B (j * 13) (ptl x y z b) := let ⟨x, y, z, b, h1, h2⟩ := h.rng j hj; ⟨x, y, z, b, h1, h.lt, h2⟩
theorem Tab.but {A W : World} {B0 B i : Nat} {p : Fin PP × Fin PP} (h : Tab A B i p) (hb : But B0 A W) (hn : B ≠ B0) : Tab W B i p :=
 ⟨h.has.but hb hn, fun j hj => let ⟨x, y, z, b, h1, h2⟩ := h.rng j hj; ⟨x, y, z, b, h1, fun k u hu => (World.cell?_of_block (w := A) (w' := W) (a := ⟨B, j * 13 + k, none⟩) (hb.block B h.lt hn)).trans (h2 k u hu)⟩⟩
end tab
theorem bkw_call (a : Option Addr) (len cap : Nat) (w : World) : Calls Tryz.prog 170 #[.slice a len cap] w fun e w' => (e = .returned (.func (.func 223) #[] #[.pointer (some ⟨w.heap.size, 0, none⟩)]) ∧ Has w' w.heap.size #[.slice a len cap] 48) ∧ Below w.heap.size w w' := by
 refine (bkw_any a len cap w).mono ?_
 rintro e w' ⟨rfl, rfl⟩
 exact ⟨⟨rfl, Has.new w _ _⟩, q8 w _⟩
theorem ent223 : ∀ (args : Array Value) (w : World), (callFunc 223 args).run Tryz.prog w = .ok (.enter 223 args) w := Go.Proofs.enters_of Tryz.func223 (by kernel_rfl) rfl
theorem ent170 : _root_.Go.Enters Tryz.prog 170 := ⟨_, Tryz.func170, by kernel_rfl, by kernel_rfl⟩
def DefAt (W : World) (D : Nat) : Prop := W.heap[D]? = some (.deferred (some []))
theorem DefAt.setRow_other {W : World} {D : Nat} (h : DefAt W D) (g : Nat) (c : Array Value) (hg : D ≠ g) : DefAt (W.setRow g c) D := (Go.setRow_other W g D c hg).trans h
theorem Has.putObj {W : World} {b D : Nat} {c : Array Value} {t : TypeId} (h : Has W b c t) (o : Obj) (hn : b ≠ D) : Has (W.putObj D o) b c t := by
 unfold Has at *
 rw [← h]
 show (W.heap.setIfInBounds D o)[b]? = _
 rw [Array.getElem?_setIfInBounds_ne (fun e => hn e.symm)]
def vl (n : Nat) (l : List Nat) : Nat := l.foldl (fun a x => 256 * a + n / 256 ^ x % 256) 0
theorem vl_snoc (n : Nat) (l : List Nat) (x : Nat) : vl n (l ++ [x]) = 256 * vl n l + n / 256 ^ x % 256 := by unfold vl; rw [List.foldl_append]; rfl
theorem vl_upto (n : Nat) (hn : n < 256 ^ 32) : ∀ k, k ≤ 32 → vl n (qaS (bkf 32) k) = n / 256 ^ (32 - k) := by
 intro k
 induction k with
 | zero => intro _; show 0 = n / 256 ^ 32; rw [Nat.div_eq_of_lt hn]
 | succ k ih =>
  intro hk
  rw [qdq, vl_snoc, ih (by omega)]
  unfold bkf
  obtain ⟨j, hj⟩ : ∃ j, j = 32 - (k + 1) := ⟨_, rfl⟩
  rw [show 32 - 1 - k = j by omega, show 32 - k = j + 1 by omega, ← hj, Nat.pow_succ, ← Nat.div_div_eq_div_mul]
  omega
theorem vl_all (n : Nat) (hn : n < 115792089237316195423570985008687907853269984665640564039457584007913129639936) : vl n (qaS (bkf 32) 32) = n := by
 rw [vl_upto n (by rw [show (256 : Nat) ^ 32 = 115792089237316195423570985008687907853269984665640564039457584007913129639936 by decide +kernel]; exact hn) 32 (Nat.le_refl _), Nat.sub_self, Nat.pow_zero, Nat.div_one]
theorem mk16 (w : World) : (Instr.makeSlice 246 (.int .i64 16) (.int .i64 16)).run Tryz.prog w = .ok (.slice (some ⟨w.heap.size, 0, none⟩) 16 16) (w.alloc (.cells (madeCells z53 208) 182)) := by
 obtain ⟨i, hi⟩ : ∃ i, Tryz.prog.info? 182 = some i := Option.isSome_iff_exists.1 (by kernel_rfl)
 have hz : (Tryz.prog.info? 182).map (·.zero) = some (some (.agg z53)) := by kernel_rfl
 have h1 : (Tryz.prog.info? 182).map (·.size) = some 13 := by kernel_rfl
 have h2 : (Tryz.prog.info? 182).map (fun i => decide (i.bytes ≤ 1000)) = some true := by kernel_rfl
 rw [hi] at hz h1 h2
 have hz := Option.some.inj hz
 have h1 := Option.some.inj h1
 have h2 := of_decide_eq_true (Option.some.inj h2)
 dsimp only at hz h1 h2
 have h := run_makeSlice (P := Tryz.prog) w 246 182 i _ Tryz.underlying246 hi hz .i64 .i64 16 16 (by decide) (by decide) (by rw [h1]; decide) (by omega) (by decide)
 rw [h1] at h
 exact h
theorem tab_new (w : World) (p : Fin PP × Fin PP) : Tab (w.alloc (.cells (madeCells z53 208) 182)) w.heap.size 1 p := by
 refine ⟨HasN.new w _ _ 208 (size_madeCells _ _), fun j hj => ?_⟩
 obtain rfl : j = 0 := by omega
 refine ⟨0, 0, 0, false, zero_pta, fun k v hv => ?_⟩
 rw [(Has.new w (madeCells z53 208) 182).cellAt]
 have hk : k < 13 := by have := (List.getElem?_eq_some_iff.1 hv).1; rwa [ZF] at this
 rw [← hv, ptl, Array.getElem?_toList]
 rcases (show k = 0 ∨ k = 1 ∨ k = 2 ∨ k = 3 ∨ k = 4 ∨ k = 5 ∨ k = 6 ∨ k = 7 ∨ k = 8 ∨ k = 9 ∨ k = 10 ∨ k = 11 ∨ k = 12 by omega) with rfl | rfl | rfl | rfl | rfl | rfl | rfl | rfl | rfl | rfl | rfl | rfl | rfl <;> (show (_ : Option Value) = _; kernel_rfl)
theorem inf53 : ∃ i : TypeInfo, Tryz.prog.info? 182 = some i ∧ i.size = 13 := by
 obtain ⟨i, hi⟩ : ∃ i, Tryz.prog.info? 182 = some i := Option.isSome_iff_exists.1 (by kernel_rfl)
 have h1 : (Tryz.prog.info? 182).map (·.size) = some 13 := by kernel_rfl
 rw [hi] at h1
 exact ⟨i, hi, Option.some.inj h1⟩
theorem idx53 {ops : Array Oper} {S : World → Prop} {a : Act} {o : Oper} (hw : Region.wanted o (yielded ops a.tmps) = true) (x y : Operand) (ho : o.op = .indexAddr 246 x y) (b len cap : Nat) (hx : a.eval x = .slice (some ⟨b, 0, none⟩) len cap) (kd : IntKind) (i : Int) (hy : a.eval y = .int kd i) (j : Nat) (hj : i = (j : Int)) (hlt : j < len)
 (off : Nat) (hoff : off = j * 13) : YieldsIf Tryz.prog ops S o (.pointer (some ⟨b, off, none⟩)) a :=
 let ⟨inf, h1, h2⟩ := inf53
 qci hw 246 x y ho b len cap hx kd i hy j hj hlt 182 Tryz.underlying246 inf h1 13 h2 off hoff
theorem al111 (w : World) : (Instr.alloc 243 true (.tuple #[])).run Tryz.prog w = .ok (.pointer (some ⟨w.heap.size, 0, none⟩)) (w.alloc (.cells #[.nilFunc] 243)) := by go_simp
theorem al113 (w : World) : (Instr.alloc 246 true (.tuple #[])).run Tryz.prog w = .ok (.pointer (some ⟨w.heap.size, 0, none⟩)) (w.alloc (.cells #[.slice none 0 0] 246)) := by go_simp
theorem qaU (d : Nat) (hd : d < 115792089237316195423570985008687907853269984665640564039457584007913129639936) (hdD : d % PP = SL) (x1 y1 z1 : Nat) (b1 : Bool) (p : Fin PP × Fin PP) (h1 : PtA x1 y1 z1 b1 p) (x2 y2 z2 : Nat) (b2 : Bool) (q : Fin PP × Fin PP) (h2 : PtA x2 y2 z2 b2 q) (w : World) :
 Calls Tryz.prog 169 (#[.agg (e4 d)] ++ [.agg (pt x1 y1 z1 b1), .agg (pt x2 y2 z2 b2)].toArray) w fun e w' => ∃ x y z b, PtA x y z b (QD qN fd p q) ∧ e = .returned (.agg (pt x y z b)) ∧ Below w.heap.size w w' := by
 obtain ⟨X1, Y1, Z1, i1, r1⟩ := h1
 obtain ⟨X2, Y2, Z2, i2, r2⟩ := h2
 refine (add_of d SL hd hdD x1 y1 z1 b1 X1 Y1 Z1 i1 x2 y2 z2 b2 X2 Y2 Z2 i2 w).mono ?_
 rintro e w' ⟨x, y, z, b, hpt, he, hb⟩
 exact ⟨x, y, z, b, ⟨_, _, _, hpt, qa0 _ _ _ _ _ _ p q r1 r2⟩, he, hb⟩
theorem pmany_any (x y z n : Nat) (b : Bool) (p : Fin PP × Fin PP) (hp : PtA x y z b p) (hn : n < 115792089237316195423570985008687907853269984665640564039457584007913129639936) (w : World) :
 Calls Tryz.prog 124 #[.agg (pt x y z b), .agg (k32 n)] w fun e w' => ∃ x2 y2 z2 b2, PtA x2 y2 z2 b2 (qV qN fd p n) ∧ e = .returned (.agg (pt x2 y2 z2 b2)) ∧ Below w.heap.size w w' := by
 have hop : OnP fd p := hp.on
 have Hp := Lib.hid hp; clear hp
 have Hop := Lib.hid hop; clear hop
 have Hn := Lib.hid hn; clear hn
 refine (callsIn_wide (n := 3)).1 (callsIn_of_wp_marks Tryz.func124 rfl trivial (wpIn_wide.2 ?_) rfl)
 simp only [Tryz.ntmps124, List.size_toArray, List.length_cons, List.length_nil, Nat.reduceAdd, Nat.reduceSub, Array.replicate_succ, Array.replicate_zero, List.push_toArray, List.append_toArray, List.nil_append, List.cons_append]
 repeat ((fail_if_success (with_reducible (show wpList _ _ _ _ _ _))); go_step)
 iterate 3 (refine wpList_step (fun K hK => ?_); go_simp; (try go_bits); refine hK _ _ ?_; clear hK K)
 refine wpList_nil ?_
 have M2 := Lib.hid (((Has.new w  (pt x y z b) 182).alloc (.cells (k32 n) 36)).alloc (.cells (#[.int .u64 0, .int .u64 0, .int .u64 0, .int .u64 0, .int .u64 0, .int .u64 0, .int .u64 0, .int .u64 0, .int .u64 0, .int .u64 0, .int .u64 0, .int .u64 0, .bool false] : Array Value) 182))
 have M3 := Lib.hid ((Has.new1 w (.cells (pt x y z b) 182) (k32 n) 36).alloc (.cells (#[.int .u64 0, .int .u64 0, .int .u64 0, .int .u64 0, .int .u64 0, .int .u64 0, .int .u64 0, .int .u64 0, .int .u64 0, .int .u64 0, .int .u64 0, .int .u64 0, .bool false] : Array Value) 182))
 have M4 := Lib.hid (HasN.new2 w (.cells (pt x y z b) 182) (.cells (k32 n) 36) (#[.int .u64 0, .int .u64 0, .int .u64 0, .int .u64 0, .int .u64 0, .int .u64 0, .int .u64 0, .int .u64 0, .int .u64 0, .int .u64 0, .int .u64 0, .int .u64 0, .bool false] : Array Value) 182 13 (by kernel_rfl))
 have HB := Lib.hid (Qz w (.cells (pt x y z b) 182) (.cells (k32 n) 36) (.cells (#[.int .u64 0, .int .u64 0, .int .u64 0, .int .u64 0, .int .u64 0, .int .u64 0, .int .u64 0, .int .u64 0, .int .u64 0, .int .u64 0, .int .u64 0, .int .u64 0, .bool false] : Array Value) 182))
 obtain ⟨yw1, hwyw1⟩ : ∃ ww, ww = (((w.alloc (.cells (pt x y z b) 182)).alloc (.cells (k32 n) 36)).alloc (.cells (#[.int .u64 0, .int .u64 0, .int .u64 0, .int .u64 0, .int .u64 0, .int .u64 0, .int .u64 0, .int .u64 0, .int .u64 0, .int .u64 0, .int .u64 0, .int .u64 0, .bool false] : Array Value) 182)) := ⟨_, rfl⟩
 rw [← hwyw1] at M2 M3 M4 HB ⊢
 clear hwyw1
 repeat ((fail_if_success (with_reducible (show wpList _ _ _ _ _ _))); go_step)
 refine qm (by rfl) rfl rfl (by rfl) ent168 (by rfl) (qbu _) 13 rfl ?_
 rintro e uw1 ⟨d, hd, hdr, rfl, hb⟩
 replace M2 := Lib.hid (M2.out.call hb)
 replace M3 := Lib.hid (M3.out.call hb)
 replace M4 := Lib.hid (M4.out.call hb)
 replace HB := Lib.hid (qf HB.out hb)
 refine ⟨_, rfl, ?_⟩
 clear hb
 (try simp only [Act.put, sI, sS, sZ])
 (refine wpList_step (fun K hK => ?_); go_simp; (try go_bits); refine hK _ _ ?_; clear hK K)
 refine qE (by rfl) 243 rfl _ al111 5 rfl ?_
 intro yw2 hw2
 have hlt3 := M2.out.lt
 have hlt4 := M3.out.lt
 have hlt5 := M4.out.lt
 have hsz := HB.out.size
 replace M2 := Lib.hid (M2.out.alloc (.cells #[.nilFunc] 243))
 replace M3 := Lib.hid (M3.out.alloc (.cells #[.nilFunc] 243))
 replace M4 := Lib.hid (M4.out.alloc (.cells #[.nilFunc] 243))
 have M5 := Lib.hid (Has.new uw1 #[.nilFunc] 243)
 replace HB := Lib.hid (HB.out.alloc hsz (.cells #[.nilFunc] 243))
 rw [← hw2] at M2 M3 M4 M5 HB; clear hw2
 (try simp only [Act.put, sI, sS, sZ])
 refine zu (by rfl) 243 _ _ rfl rfl (uw1.heap.size) (.func (.func 169) #[.agg (e4 d)] #[]) rfl rfl _ _ M5.out (by kernel_rfl) rfl rfl ?_
 intro yw6 hw2
 replace M2 := Lib.hid (M2.out.other ⟨uw1.heap.size, 0, none⟩ (.func (.func 169) #[.agg (e4 d)] #[]) (show _ ≠ uw1.heap.size by omega))
 replace M3 := Lib.hid (M3.out.other ⟨uw1.heap.size, 0, none⟩ (.func (.func 169) #[.agg (e4 d)] #[]) (show _ ≠ uw1.heap.size by omega))
 replace M4 := Lib.hid (M4.out.other ⟨uw1.heap.size, 0, none⟩ (.func (.func 169) #[.agg (e4 d)] #[]) (show _ ≠ uw1.heap.size by omega))
 replace M5 := Lib.hid (M5.out.setAt 0 (.func (.func 169) #[.agg (e4 d)] #[]))
 replace HB := Lib.hid (HB.out.setCell (p := ⟨uw1.heap.size, 0, none⟩) (show w.heap.size ≤ uw1.heap.size by omega) (.func (.func 169) #[.agg (e4 d)] #[]))
 rw [← hw2] at M2 M3 M4 M5 HB; clear hw2
 replace M5 : RowKit.Hid (Has yw6 (uw1.heap.size) #[.func (.func 169) #[.agg (e4 d)] #[]] 243) := M5
 refine wpList_nil ?_
 obtain ⟨B5, hB5⟩ : ∃ B, B = uw1.heap.size := ⟨_, rfl⟩
 rw [← hB5] at M5 ⊢
 have gB5 : w.heap.size + 1 + 1 < B5 := by omega
 clear hB5
 repeat ((fail_if_success (with_reducible (show wpList _ _ _ _ _ _))); go_step)
 have gT := M5.out.lt
 refine qbN (by rfl) 246 _ _ rfl _ _ rfl rfl _ _ (mk16 _) 15 rfl ?_
 have hb := q8 yw6 (.cells (madeCells z53 208) 182)
 have nwT := tab_new yw6 p
 obtain ⟨yw7, hwyw7⟩ : ∃ ww, ww = yw6.alloc (.cells (madeCells z53 208) 182) := ⟨_, rfl⟩
 rw [← hwyw7] at hb nwT ⊢
 clear hwyw7
 replace M2 := Lib.hid (M2.out.call hb)
 replace M3 := Lib.hid (M3.out.call hb)
 replace M4 := Lib.hid (M4.out.call hb)
 replace M5 := Lib.hid (M5.out.call hb)
 replace HB := Lib.hid (qf HB.out hb)
 clear hb
 have T := Lib.hid nwT; clear nwT
 (try simp only [Act.put, sI, sS, sZ])
 refine qE (by rfl) 246 rfl _ al113 6 rfl ?_
 intro yw8 hw2
 have hlt9 := M2.out.lt
 have hlt10 := M3.out.lt
 have hlt11 := M4.out.lt
 have hlt12 := M5.out.lt
 have hlt13 := T.out.lt
 have hsz := HB.out.size
 replace M2 := Lib.hid (M2.out.alloc (.cells #[.slice none 0 0] 246))
 replace M3 := Lib.hid (M3.out.alloc (.cells #[.slice none 0 0] 246))
 replace M4 := Lib.hid (M4.out.alloc (.cells #[.slice none 0 0] 246))
 replace M5 := Lib.hid (M5.out.alloc (.cells #[.slice none 0 0] 246))
 replace T := Lib.hid (T.out.alloc (.cells #[.slice none 0 0] 246))
 have M6 := Lib.hid (Has.new yw7 #[.slice none 0 0] 246)
 replace HB := Lib.hid (HB.out.alloc hsz (.cells #[.slice none 0 0] 246))
 rw [← hw2] at M2 M3 M4 M5 T M6 HB; clear hw2
 (try simp only [Act.put, sI, sS, sZ])
 refine zu (by rfl) 246 _ _ rfl rfl (yw7.heap.size) (.slice (some ⟨yw6.heap.size, 0, none⟩) 16 16) rfl rfl _ _ M6.out (by kernel_rfl) rfl rfl ?_
 intro yw14 hw2
 replace M2 := Lib.hid (M2.out.other ⟨yw7.heap.size, 0, none⟩ (.slice (some ⟨yw6.heap.size, 0, none⟩) 16 16) (show _ ≠ yw7.heap.size by omega))
 replace M3 := Lib.hid (M3.out.other ⟨yw7.heap.size, 0, none⟩ (.slice (some ⟨yw6.heap.size, 0, none⟩) 16 16) (show _ ≠ yw7.heap.size by omega))
 replace M4 := Lib.hid (M4.out.other ⟨yw7.heap.size, 0, none⟩ (.slice (some ⟨yw6.heap.size, 0, none⟩) 16 16) (show _ ≠ yw7.heap.size by omega))
 replace M5 := Lib.hid (M5.out.other ⟨yw7.heap.size, 0, none⟩ (.slice (some ⟨yw6.heap.size, 0, none⟩) 16 16) (show _ ≠ yw7.heap.size by omega))
 replace T := Lib.hid (T.out.other ⟨yw7.heap.size, 0, none⟩ (.slice (some ⟨yw6.heap.size, 0, none⟩) 16 16) (show _ ≠ yw7.heap.size by omega))
 replace M6 := Lib.hid (M6.out.setAt 0 (.slice (some ⟨yw6.heap.size, 0, none⟩) 16 16))
 replace HB := Lib.hid (HB.out.setCell (p := ⟨yw7.heap.size, 0, none⟩) (show w.heap.size ≤ yw7.heap.size by omega) (.slice (some ⟨yw6.heap.size, 0, none⟩) 16 16))
 rw [← hw2] at M2 M3 M4 M5 T M6 HB; clear hw2
 replace M6 : RowKit.Hid (Has yw14 (yw7.heap.size) #[.slice (some ⟨yw6.heap.size, 0, none⟩) 16 16] 246) := M6
 refine wpList_nil ?_
 obtain ⟨TB, hTB⟩ : ∃ B, B = yw6.heap.size := ⟨_, rfl⟩
 rw [← hTB] at T M6 ⊢
 obtain ⟨B6, hB6⟩ : ∃ B, B = yw7.heap.size := ⟨_, rfl⟩
 rw [← hB6] at M6 ⊢
 have gTB : B5 < TB := by omega
 have gB6 : TB < B6 := by omega
 clear hTB hB6
 repeat ((fail_if_success (with_reducible (show wpList _ _ _ _ _ _))); go_step)
 (refine wpList_step (fun K hK => ?_); go_simp; (try go_bits); refine hK _ _ ?_; clear hK K)
 refine wpList_nil ?_
 repeat ((fail_if_success (with_reducible (show wpList _ _ _ _ _ _))); go_step)
 go_loopw [7] (fun i wr => ∃ k : Nat, 1 ≤ k ∧ k ≤ 16 ∧ i = .int .i64 (k : Int) ∧ Has wr w.heap.size (pt x y z b) 182 ∧ Has wr (w.heap.size + 1) (k32 n) 36 ∧ HasN wr (w.heap.size + 1 + 1) 13 182 ∧ Has wr B5 #[.func (.func 169) #[.agg (e4 d)] #[]] 243 ∧ Tab wr TB k p ∧ Has wr B6 #[.slice (some ⟨TB, 0, none⟩) 16 16] 246 ∧ Below w.heap.size w wr) (fun i _ => (16 - RowKit.intOf i).toNat)
 case atStart => exact ⟨1, by omega, by omega, rfl, M2.out, M3.out, M4.out, M5.out, T.out, M6.out, HB.out⟩
 case round =>
  clear M2 M3 M4 M5 T M6 HB
  obtain ⟨k, hk1, hk2, rfl, m2, m3, m4, m5, t, m6, hB⟩ := hrel
  have M2 := Lib.hid m2; clear m2
  have M3 := Lib.hid m3; clear m3
  have M4 := Lib.hid m4; clear m4
  have M5 := Lib.hid m5; clear m5
  have T := Lib.hid t; clear t
  have M6 := Lib.hid m6; clear m6
  have HB := Lib.hid hB; clear hB
  rcases Nat.lt_or_ge k 16 with hk | hk
  · have kq : (k : Int) < 16 := by omega
    repeat ((fail_if_success (with_reducible (show wpList _ _ _ _ _ _))); go_step)
    (refine wpList_step (fun K hK => ?_); go_simp; (try go_bits); refine hK _ _ ?_; clear hK K)
    refine Qv (by rfl) 246 _ rfl (B6) rfl (.slice (some ⟨TB, 0, none⟩) 16 16) _ M6.out.one Tryz.underlying246 rfl 17 rfl ?_
    (try simp only [Act.put, sI, sS, sZ])
    iterate 2 (refine wpList_step (fun K hK => ?_); go_simp; (try go_bits); refine hK _ _ ?_; clear hK K)
    refine wpList_nil ?_
    repeat ((fail_if_success (with_reducible (show wpList _ _ _ _ _ _))); go_step)
    obtain ⟨j, rfl⟩ : ∃ j, k = j + 1 := ⟨k - 1, by omega⟩
    have hj : j < 16 := by omega
    have kq0 : ((j + 1 : Nat) : Int) = (j : Int) + 1 := by omega
    obtain ⟨x1, y1, z1, b1, hq1, hrg⟩ := T.out.at_ j (by omega)
    have Hq1 := Lib.hid hq1; clear hq1
    have Hrg := Lib.hid hrg; clear hrg
    have Kq0 := Lib.hid kq0; clear kq0
    have hl1 := ZF x1 y1 z1 b1
    refine wp_region_noPanic ?_
    refine Qn (fun w' => Has w' (w.heap.size) (pt x y z b) 182 ∧ Has w' (B5) (#[.func (.func 169) #[.agg (e4 d)] #[]]) 243 ∧ Has w' (B6) (#[.slice (some ⟨TB, 0, none⟩) 16 16]) 246 ∧ Rng w' (TB) (j * 13) (ptl x1 y1 z1 b1)) 99 12 #[ff,ff,ff,ff,ff,ff,ff,ff,ff,ff,ff,ff] (by kernel_rfl) rfl rfl ?_
    replace M2 := Lib.hid (M2.out.drew)
    replace M3 := Lib.hid (M3.out.drew)
    replace M4 := Lib.hid (M4.out.drew)
    replace M5 := Lib.hid (M5.out.drew)
    replace T := Lib.hid (T.out.drew)
    replace M6 := Lib.hid (M6.out.drew)
    replace Hrg := Lib.hid (Hrg.out.drew)
    replace HB := Lib.hid (qT HB.out 1)
    obtain ⟨yw101, hwyw101⟩ : ∃ ww, ww = wr.drew := ⟨_, rfl⟩
    rw [← hwyw101] at M2 M3 M4 M5 T M6 Hrg ⊢
    have kq : Below w.heap.size w yw101 := by rw [hwyw101]; exact HB.out
    clear HB; have HB := Lib.hid kq; clear kq hwyw101
    refine qi 0 22 #[tt,ff,ff,ff,ff,ff,ff,ff,ff,ff,ff,ff] rfl rfl rfl (by kernel_rfl) (qY (by rfl) 246 _ rfl (B6) rfl (.slice (some ⟨TB, 0, none⟩) 16 16) _ (fun _ h => Has.one (h.2.2.1)) Tryz.underlying246 rfl) (⟨M2.out, M5.out, M6.out, Hrg.out⟩) ?_
    (try simp only [sI, sS, sZ])
    refine qi 1 23 #[tt,tt,ff,ff,ff,ff,ff,ff,ff,ff,ff,ff] (v := ?uv1) rfl rfl rfl (by kernel_rfl) (Or.inl ⟨by rfl, ?uy1⟩) (⟨M2.out, M5.out, M6.out, Hrg.out⟩) ?urest1
    case uy1 => (intro _ _; go_simp; try with_reducible rfl)
    (try simp only [sI, sS, sZ])
    refine qi 2 24 #[tt,tt,tt,ff,ff,ff,ff,ff,ff,ff,ff,ff] rfl rfl rfl (by kernel_rfl) (qY (by rfl) 243 _ rfl (B5) rfl (.func (.func 169) #[.agg (e4 d)] #[]) _ (fun _ h => Has.one (h.2.1)) Tryz.underlying243 rfl) (⟨M2.out, M5.out, M6.out, Hrg.out⟩) ?_
    (try simp only [sI, sS, sZ])
    refine qi 3 25 #[tt,tt,tt,tt,ff,ff,ff,ff,ff,ff,ff,ff] rfl rfl rfl (by kernel_rfl) (qY (by rfl) 246 _ rfl (B6) rfl (.slice (some ⟨TB, 0, none⟩) 16 16) _ (fun _ h => Has.one (h.2.2.1)) Tryz.underlying246 rfl) (⟨M2.out, M5.out, M6.out, Hrg.out⟩) ?_
    (try simp only [sI, sS, sZ])
    refine qi 4 26 #[tt,tt,tt,tt,tt,ff,ff,ff,ff,ff,ff,ff] (v := ?uv2) rfl rfl rfl (by kernel_rfl) (Or.inl ⟨by rfl, ?uy2⟩) (⟨M2.out, M5.out, M6.out, Hrg.out⟩) ?urest2
    case uy2 => (intro _ _; go_simp; try with_reducible rfl)
    (try simp only [sI, sS, sZ])
    refine qi 5 27 #[tt,tt,tt,tt,tt,tt,ff,ff,ff,ff,ff,ff] (v := ?uv3) rfl rfl rfl (by kernel_rfl) (Or.inl ⟨by rfl, ?uy3⟩) (⟨M2.out, M5.out, M6.out, Hrg.out⟩) ?urest3
    case uy3 => (intro _ _; go_simp; try with_reducible rfl)
    (try simp only [sI, sS, sZ])
    refine qi 6 28 #[tt,tt,tt,tt,tt,tt,tt,ff,ff,ff,ff,ff] rfl rfl rfl (by kernel_rfl) (idx53 (by rfl) _ _ rfl (TB) _ _ rfl _ _ (by rfl) (j) (by rw [IntKind.wrap_i64]; omega) (by omega) (j * 13) (rfl)) (⟨M2.out, M5.out, M6.out, Hrg.out⟩) ?_
    (try simp only [sI, sS, sZ])
    refine qi 7 29 #[tt,tt,tt,tt,tt,tt,tt,tt,ff,ff,ff,ff] rfl rfl rfl (by kernel_rfl) (Qq (by rfl) 182 _ rfl (TB) (j * 13) rfl (ptl x1 y1 z1 b1) (pt x1 y1 z1 b1) (ptl_arr ..) (fun _ h => Rng.at_ (h.2.2.2)) _ Tryz.underlying182 rfl (by rw [ZF]; kernel_rfl)) (⟨M2.out, M5.out, M6.out, Hrg.out⟩) ?_
    (try simp only [sI, sS, sZ])
    refine qi 8 30 #[tt,tt,tt,tt,tt,tt,tt,tt,tt,ff,ff,ff] rfl rfl rfl (by kernel_rfl) (qj (by rfl) 182 _ rfl (w.heap.size) rfl 182 (pt x y z b) (fun _ h => h.1) Tryz.underlying182 rfl (by rw [qn]; kernel_rfl)) (⟨M2.out, M5.out, M6.out, Hrg.out⟩) ?_
    (try simp only [sI, sS, sZ])
    refine qq (i := 9) (by kernel_rfl) ?_
    refine qcU 9 31 #[tt,tt,tt,tt,tt,tt,tt,tt,tt,tt,ff,ff] rfl rfl rfl (by rfl) rfl rfl (by rfl) qbI (by rfl) (qaU d hd hdr x1 y1 z1 b1 _ Hq1.out x y z b _ Hp.out _) ?_
    rintro e uw101 ⟨x3, y3, z3, b3, hq3, rfl, hb⟩
    replace M2 := Lib.hid (M2.out.call hb)
    replace M3 := Lib.hid (M3.out.call hb)
    replace M4 := Lib.hid (M4.out.call hb)
    replace M5 := Lib.hid (M5.out.call hb)
    replace T := Lib.hid (T.out.call hb)
    replace M6 := Lib.hid (M6.out.call hb)
    replace Hrg := Lib.hid (Hrg.out.call hb)
    replace HB := Lib.hid (qf HB.out hb)
    have Hq3 := Lib.hid hq3; clear hq3
    refine ⟨_, rfl, fun _ => ⟨M2.out, M5.out, M6.out, Hrg.out⟩, ?_⟩
    clear hb
    (try simp only [sI, sS, sZ])
    refine qi 10 32 #[tt,tt,tt,tt,tt,tt,tt,tt,tt,tt,tt,ff] rfl rfl rfl (by kernel_rfl) (idx53 (by rfl) _ _ rfl (TB) _ _ rfl _ _ (by rfl) (j + 1) (rfl) (by omega) ((j + 1) * 13) (rfl)) (⟨M2.out, M5.out, M6.out, Hrg.out⟩) ?_
    (try simp only [sI, sS, sZ])
    refine qq (i := 11) (by kernel_rfl) ?_
    refine go_storem 11 #[tt,tt,tt,tt,tt,tt,tt,tt,tt,tt,tt,tt] rfl rfl rfl (by rfl) 182 _ _ rfl (TB) ((j + 1) * 13) (pt x3 y3 z3 b3) rfl rfl (T.out.has.there2 _ _ (by rw [qn]; omega)) (by rw [qn]; kernel_rfl) (Qx _ _ _ _) ?_
    intro yw102 hw2
    replace M2 := Lib.hid (M2.out.setCells_other (TB) ((j + 1) * 13) ((pt x3 y3 z3 b3).toList) (by omega))
    replace M3 := Lib.hid (M3.out.setCells_other (TB) ((j + 1) * 13) ((pt x3 y3 z3 b3).toList) (by omega))
    replace M4 := Lib.hid (M4.out.setCells_other (TB) ((j + 1) * 13) ((pt x3 y3 z3 b3).toList) (by omega))
    replace M5 := Lib.hid (M5.out.setCells_other (TB) ((j + 1) * 13) ((pt x3 y3 z3 b3).toList) (by omega))
    replace M6 := Lib.hid (M6.out.setCells_other (TB) ((j + 1) * 13) ((pt x3 y3 z3 b3).toList) (by omega))
    replace Hrg := Lib.hid (Hrg.out.setCells_other (TB) ((j + 1) * 13) ((pt x3 y3 z3 b3).toList) (by omega))
    replace T := Lib.hid ((show Tab (uw101.setCells TB ((j + 1) * 13) (pt x3 y3 z3 b3).toList) TB (j + 1 + 1) p from T.out.next hk x3 y3 z3 b3 Hq3.out))
    replace HB := Lib.hid (zH (show w.heap.size ≤ TB by omega) ((pt x3 y3 z3 b3).toList) ((j + 1) * 13) _ HB.out)
    rw [← hw2] at M2 M3 M4 M5 M6 Hrg T HB; clear hw2
    refine ⟨fun _ => ⟨M2.out, M5.out, M6.out, Hrg.out⟩, ?_⟩
    (try simp only [sI, sS, sZ])
    refine qD (by kernel_rfl) (NoPanic.normal ?_)
    clear Hrg
    repeat ((fail_if_success (with_reducible (show wpList _ _ _ _ _ _))); go_step)
    iterate 3 (refine wpList_step (fun K hK => ?_); go_simp; (try go_bits); refine hK _ _ ?_; clear hK K)
    refine wpList_nil ?_
    go_roundw
    case measure => simp [RowKit.intOf]; omega
    case rel => exact ⟨_, _, _, _, _, _, _, _, _, _, _, _, _, _, _, _, _, _, ⟨j + 1 + 1, by omega, by omega, rfl, M2.out, M3.out, M4.out, M5.out, T.out, M6.out, HB.out⟩, rfl⟩
  · have hk16 : k = 16 := by omega
    subst hk16
    clear hk hk1 hk2
    repeat ((fail_if_success (with_reducible (show wpList _ _ _ _ _ _))); go_step)
    (refine wpList_step (fun K hK => ?_); go_simp; (try go_bits); refine hK _ _ ?_; clear hK K)
    refine Qv (by rfl) 246 _ rfl (B6) rfl (.slice (some ⟨TB, 0, none⟩) 16 16) _ M6.out.one Tryz.underlying246 rfl 17 rfl ?_
    (try simp only [Act.put, sI, sS, sZ])
    iterate 2 (refine wpList_step (fun K hK => ?_); go_simp; (try go_bits); refine hK _ _ ?_; clear hK K)
    refine wpList_nil ?_
    repeat ((fail_if_success (with_reducible (show wpList _ _ _ _ _ _))); go_step)
    refine qE (by rfl) 182 rfl _ al53 8 rfl ?_
    intro yw101 hw2
    have hlt102 := M2.out.lt
    have hlt103 := M3.out.lt
    have hlt104 := M4.out.lt
    have hlt105 := M5.out.lt
    have hlt106 := T.out.lt
    have hlt107 := M6.out.lt
    have hsz := HB.out.size
    replace M2 := Lib.hid (M2.out.alloc (.cells z53 182))
    replace M3 := Lib.hid (M3.out.alloc (.cells z53 182))
    replace M4 := Lib.hid (M4.out.alloc (.cells z53 182))
    replace M5 := Lib.hid (M5.out.alloc (.cells z53 182))
    replace T := Lib.hid (T.out.alloc (.cells z53 182))
    replace M6 := Lib.hid (M6.out.alloc (.cells z53 182))
    have M8 := Lib.hid (Has.new wr z53 182)
    replace HB := Lib.hid (HB.out.alloc hsz (.cells z53 182))
    rw [← hw2] at M2 M3 M4 M5 T M6 M8 HB; clear hw2
    (try simp only [Act.put, sI, sS, sZ])
    refine wpList_nil ?_
    obtain ⟨B8, hB8⟩ : ∃ B, B = wr.heap.size := ⟨_, rfl⟩
    have gB8 : B6 < B8 := by omega
    rw [← hB8] at M8 ⊢
    clear hB8
    repeat ((fail_if_success (with_reducible (show wpList _ _ _ _ _ _))); go_step)
    have hl8b := M8.out.lt
    (refine wpList_step (fun K hK => ?_); go_simp; (try go_bits); refine hK _ _ ?_; clear hK K)
    refine qm (by rfl) rfl rfl (by rfl) ent170 (by rfl) (bkw_call _ _ _ _) 34 rfl ?_
    rintro e uw101 ⟨⟨rfl, hbs⟩, hb⟩
    replace M2 := Lib.hid (M2.out.call hb)
    replace M3 := Lib.hid (M3.out.call hb)
    replace M4 := Lib.hid (M4.out.call hb)
    replace M5 := Lib.hid (M5.out.call hb)
    replace T := Lib.hid (T.out.call hb)
    replace M6 := Lib.hid (M6.out.call hb)
    replace M8 := Lib.hid (M8.out.call hb)
    replace HB := Lib.hid (qf HB.out hb)
    have MS := Lib.hid hbs; clear hbs
    refine ⟨_, rfl, ?_⟩
    clear hb
    (try simp only [Act.put, sI, sS, sZ])
    refine wpList_nil ?_
    obtain ⟨BS, hBS⟩ : ∃ B, B = yw101.heap.size := ⟨_, rfl⟩
    rw [← hBS] at MS ⊢
    have gBS : B8 < BS := by omega
    clear hBS
    repeat ((fail_if_success (with_reducible (show wpList _ _ _ _ _ _))); go_step)
    have hlS := MS.out.lt
    have hl3 := M3.out.lt
    have hl8 := M8.out.lt
    have hI := ownI_from (β := List Nat) (A := uw101) (B := B8) (t := 182) (C := fun pre c => ∃ x y z b, c = pt x y z b ∧ PtA x y z b (qV qN fd p (vl n pre))) (by omega)
    have hst := bkw_stops 2 (by decide) BS (w.heap.size + 1) 32 32 (dg 256 n) (by decide) uw101 hlS hl3 MS.out.one (fun j hj => M3.out.cell j hj)
    have hz : OwnI uw101 B8 182 (fun (pre : List Nat) c => ∃ x y z b, c = pt x y z b ∧ PtA x y z b (qV qN fd p (vl n pre))) [] uw101 :=
     ⟨z53, ⟨0, 0, 0, false, by kernel_rfl, zero_pta⟩, M8.out, But.refl _ _⟩
    have hf : ∀ (x : Nat) (t : Array Value), ((#[35, 36] : Array Tmp).zip #[Value.int .i64 (x : Int), Value.int .u8 (dg 256 n x)]).foldl (fun t (p, v) => t.setIfInBounds p v) t = (t.setIfInBounds 35 (.int .i64 x)).setIfInBounds 36 (.int .u8 (dg 256 n x)) := fun x t => by simp
    refine range_wide (α := Nat) (n := 3) (by decide) (gf := 223) (lb := #[.pointer (some ⟨BS, 0, none⟩)]) rfl ent223 hst (fun h k => keep2_t h k) (keep2_b hlS hl3) (Below.refl _ _) (fun _ => rfl) _ hI hz
     (fun x t => t.setIfInBounds 10 (.int .u8 (dg 256 n x))) ?assign ?body ?done
    case assign =>
     intro l x W K hK
     simp only [hf, sI, sS, sZ] at hK ⊢
     gi_wp2
     exact hK
    case body =>
     rintro l pre x0 W ⟨c, ⟨x5, y5, z5, b5, rfl, hq5⟩, m8, hb8⟩ _
     have m5 := M5.out.but hb8 (by omega)
     have t1 := T.out.but hb8 (by omega)
     have m6 := M6.out.but hb8 (by omega)
     have hB := qbK HB.out hb8 (by omega) HB.out.size
     have kO := But.refl B8 W
     obtain ⟨q, hqv⟩ : ∃ q : Nat, q = n / 256 ^ x0 % 256 := ⟨_, rfl⟩
     have hq256 : q < 256 := by rw [hqv]; exact Nat.mod_lt _ (by decide)
     have hqd : dg 256 n x0 = (q : Int) := by rw [hqv]; rfl
     have hsn := vl_snoc n pre x0
     rw [← hqv] at hsn
     obtain ⟨V, hV⟩ : ∃ V, V = vl n pre := ⟨_, rfl⟩
     rw [← hV] at hsn hq5
     have hlW := Nat.lt_of_lt_of_le hlS hb8.size
     have hW8 := m8
     simp only [hf, hqd, sI, sS, sZ]
     clear hf hz hI hst hlS hl3 hl8 hl8b M2 M3 M4 M5 T M6 M8 MS HB
     have M5 := Lib.hid m5; clear m5
     have T1 := Lib.hid t1; clear t1
     have M6 := Lib.hid m6; clear m6
     have HB := Lib.hid hB; clear hB
     have KO := Lib.hid kO; clear kO
     have M8 := Lib.hid m8; clear m8
     have Hb8 := Lib.hid hb8; clear hb8
     have Hq5 := Lib.hid hq5; clear hq5
     have Hqd := Lib.hid hqd; clear hqd
     have Hqv := Lib.hid hqv; clear hqv
     have HV := Lib.hid hV; clear hV
     have Hsn := Lib.hid hsn; clear hsn
     have HW8 := Lib.hid hW8; clear hW8
     repeat ((fail_if_success (with_reducible (show wpListIn _ _ _ _ _ _ _ _))); gi_step)
     refine qZ (by kernel_rfl) ?_
     iterate 6 (refine wpList_step (fun K hK => ?_); go_simp; (try go_bits); refine hK _ _ ?_; clear hK K)
     refine wpList_nil ?_
     obtain ⟨r1, r2, hr1, hr2, hrq⟩ : ∃ r1 r2 : Nat, r1 < 16 ∧ r2 < 16 ∧ q = 16 * r1 + r2 := ⟨q / 16, q % 16, by omega, by omega, by omega⟩
     have e1 : (q : Int) / 16 = (r1 : Int) := by omega
     have e2 : (q : Int) % 16 = (r2 : Int) := by omega
     rw [e1, e2]
     clear e1 e2
     have Hrq := Lib.hid hrq; clear hrq
     repeat ((fail_if_success (with_reducible (show wpListIn _ _ _ _ _ _ _ _))); gi_step)
     gi_loopw [42] (fun i wr => ∃ m x6 y6 z6 : Nat, ∃ b6, m ≤ 2 ∧ i = .int .i64 (m : Int) ∧ PtA x6 y6 z6 b6 (qV qN fd p (if m = 0 then V else if m = 1 then 16 * V + r1 else 16 * (16 * V + r1) + r2)) ∧ Has wr B8 (pt x6 y6 z6 b6) 182 ∧ Has wr B5 #[.func (.func 169) #[.agg (e4 d)] #[]] 243 ∧ Tab wr TB 16 p ∧ Has wr B6 #[.slice (some ⟨TB, 0, none⟩) 16 16] 246 ∧ But B8 W wr ∧ Below w.heap.size w wr) (fun i _ => (2 - RowKit.intOf i).toNat)
     case atStart => exact ⟨0, x5, y5, z5, b5, by omega, rfl, Hq5.out, M8.out, M5.out, T1.out, M6.out, KO.out, HB.out⟩
     case round =>
      clear M5 T1 M6 M8 KO HB
      obtain ⟨m, x6, y6, z6, b6, hm, rfl, hq6, m8, m5, t1, m6, kO, hB⟩ := hrel
      have M5 := Lib.hid m5; clear m5
      have T1 := Lib.hid t1; clear t1
      have M6 := Lib.hid m6; clear m6
      have HB := Lib.hid hB; clear hB
      have KO := Lib.hid kO; clear kO
      have M8 := Lib.hid m8; clear m8
      rcases (show m = 0 ∨ m = 1 ∨ m = 2 by omega) with rfl | rfl | rfl
      · have Hq6 := Lib.hid hq6; clear hq6
        obtain ⟨a, ha⟩ : ∃ a, a = if (0 : Nat) = 0 then V else if (0 : Nat) = 1 then 16 * V + r1 else 16 * (16 * V + r1) + r2 := ⟨_, rfl⟩
        rw [← ha] at Hq6
        have Ha := Lib.hid ha; clear ha
        repeat ((fail_if_success (with_reducible (show wpListIn _ _ _ _ _ _ _ _))); gi_step)
        refine qZ (by kernel_rfl) ?_
        (refine wpList_step (fun K hK => ?_); go_simp; (try go_bits); refine hK _ _ ?_; clear hK K)
        refine wpList_nil ?_
        repeat ((fail_if_success (with_reducible (show wpListIn _ _ _ _ _ _ _ _))); gi_step)
        refine qZ (by kernel_rfl) ?_
        iterate 2 (refine wpList_step (fun K hK => ?_); go_simp; (try go_bits); refine hK _ _ ?_; clear hK K)
        refine wpList_nil ?_
        repeat ((fail_if_success (with_reducible (show wpListIn _ _ _ _ _ _ _ _))); gi_step)
        refine qZ (by kernel_rfl) ?_
        (refine wpList_step (fun K hK => ?_); go_simp; (try go_bits); refine hK _ _ ?_; clear hK K)
        refine wpList_nil ?_
        repeat ((fail_if_success (with_reducible (show wpListIn _ _ _ _ _ _ _ _))); gi_step)
        gi_loopw [45] (fun i wr => ∃ s x7 y7 z7 : Nat, ∃ b7, s ≤ 4 ∧ i = .int .i64 (s : Int) ∧ PtA x7 y7 z7 b7 (qV qN fd p (2 ^ s * a)) ∧ Has wr B8 (pt x7 y7 z7 b7) 182 ∧ Has wr B5 #[.func (.func 169) #[.agg (e4 d)] #[]] 243 ∧ Tab wr TB 16 p ∧ Has wr B6 #[.slice (some ⟨TB, 0, none⟩) 16 16] 246 ∧ But B8 W wr ∧ Below w.heap.size w wr) (fun i _ => (4 - RowKit.intOf i).toNat)
        case atStart => exact ⟨0, x6, y6, z6, b6, by omega, rfl, by rw [Nat.pow_zero, Nat.one_mul]; exact Hq6.out, M8.out, M5.out, T1.out, M6.out, KO.out, HB.out⟩
        case round =>
         clear M5 T1 M6 M8 KO HB Hq6
         rename_i wr2
         obtain ⟨s, x7, y7, z7, b7, hs, rfl, hq7, m8, m5, t1, m6, kO, hB⟩ := hrel
         have M5 := Lib.hid m5; clear m5
         have T1 := Lib.hid t1; clear t1
         have M6 := Lib.hid m6; clear m6
         have HB := Lib.hid hB; clear hB
         have KO := Lib.hid kO; clear kO
         have M8 := Lib.hid m8; clear m8
         have Hq7 := Lib.hid hq7; clear hq7
         rcases Nat.lt_or_ge s 4 with hs4 | hs4
         · have sq : (s : Int) < 4 := by omega
           repeat ((fail_if_success (with_reducible (show wpListIn _ _ _ _ _ _ _ _))); gi_step)
           refine qZ (by kernel_rfl) ?_
           (refine wpList_step (fun K hK => ?_); go_simp; (try go_bits); refine hK _ _ ?_; clear hK K)
           refine wpList_nil ?_
           repeat ((fail_if_success (with_reducible (show wpListIn _ _ _ _ _ _ _ _))); gi_step)
           refine qZ (by kernel_rfl) ?_
           refine Qv (by rfl) 243 _ rfl (B5) rfl (.func (.func 169) #[.agg (e4 d)] #[]) _ M5.out.one Tryz.underlying243 rfl 47 rfl ?_
           (try simp only [Act.put, sI, sS, sZ])
           refine qv (by rfl) 182 _ rfl (B8) rfl 182 (pt x7 y7 z7 b7) M8.out Tryz.underlying182 rfl (by rw [qn]; kernel_rfl) 48 rfl ?_
           (try simp only [Act.put, sI, sS, sZ])
           refine qv (by rfl) 182 _ rfl (B8) rfl 182 (pt x7 y7 z7 b7) M8.out Tryz.underlying182 rfl (by rw [qn]; kernel_rfl) 49 rfl ?_
           (try simp only [Act.put, sI, sS, sZ])
           refine qaO (by rfl) rfl rfl (by rfl) qbI (by rfl) (qaU d hd hdr x7 y7 z7 b7 _ Hq7.out x7 y7 z7 b7 _ Hq7.out _) 50 rfl ?_
           rintro e uw301 ⟨x8, y8, z8, b8, hq8, rfl, hb⟩
           replace M5 := Lib.hid (M5.out.call hb)
           replace T1 := Lib.hid (T1.out.call hb)
           replace M6 := Lib.hid (M6.out.call hb)
           replace M8 := Lib.hid (M8.out.call hb)
           replace KO := Lib.hid (KO.out.call hb)
           replace HB := Lib.hid (qf HB.out hb)
           rw [← fld.mul_add p Hop.out] at hq8
           have Hq8 := Lib.hid hq8; clear hq8
           refine ⟨_, rfl, ?_⟩
           clear hb
           (try simp only [Act.put, sI, sS, sZ])
           first | (obtain ⟨Zq, hZ, mZ⟩ := M8.out) | (obtain ⟨Zq, hZ, mZ⟩ := M8.out.toN (qn ..))
           refine ql (by rfl) 182 _ _ rfl rfl (B8) (pt x8 y8 z8 b8) rfl rfl 182 Zq mZ (by rw [qn]; kernel_rfl) (hZ.trans (qn ..).symm) (Qx _ _ _ _) ?_
           intro yw301 hw2
           replace M5 := Lib.hid (M5.out.setRow_other (B8) (pt x8 y8 z8 b8) (by omega))
           replace T1 := Lib.hid (T1.out.setRow_other (B8) (pt x8 y8 z8 b8) (by omega))
           replace M6 := Lib.hid (M6.out.setRow_other (B8) (pt x8 y8 z8 b8) (by omega))
           replace KO := Lib.hid (KO.out.setRow_other (B8) (pt x8 y8 z8 b8) (by omega))
           replace M8 := Lib.hid (mZ.setRow (pt x8 y8 z8 b8))
           replace HB := Lib.hid (below_setRow HB.out (B8) (pt x8 y8 z8 b8) (by omega))
           rw [← hw2] at M5 T1 M6 KO M8 HB; clear mZ hZ hw2
           refine wpList_nil ?_
           repeat ((fail_if_success (with_reducible (show wpListIn _ _ _ _ _ _ _ _))); gi_step)
           refine qZ (by kernel_rfl) ?_
           iterate 2 (refine wpList_step (fun K hK => ?_); go_simp; (try go_bits); refine hK _ _ ?_; clear hK K)
           refine wpList_nil ?_
           go_roundw
           case measure => simp [RowKit.intOf]; omega
           case rel => exact ⟨_, _, _, _, _, _, _, ⟨s + 1, x8, y8, z8, b8, by omega, rfl, by rw [show 2 ^ (s + 1) * a = 2 ^ s * a + 2 ^ s * a by rw [Nat.pow_succ, Nat.mul_assoc, Nat.mul_comm 2 a, ← Nat.mul_assoc, Nat.mul_two]]; exact Hq8.out, M8.out, M5.out, T1.out, M6.out, KO.out, HB.out⟩, rfl⟩
         · have hs4' : s = 4 := by omega
           subst hs4'
           clear hs hs4
           repeat ((fail_if_success (with_reducible (show wpListIn _ _ _ _ _ _ _ _))); gi_step)
           refine qZ (by kernel_rfl) ?_
           (refine wpList_step (fun K hK => ?_); go_simp; (try go_bits); refine hK _ _ ?_; clear hK K)
           refine wpList_nil ?_
           repeat ((fail_if_success (with_reducible (show wpListIn _ _ _ _ _ _ _ _))); gi_step)
           obtain ⟨x1, y1, z1, b1, hq1, hrg⟩ := T1.out.at_ r1 hr1
           have Hq1 := Lib.hid hq1; clear hq1
           have Hrg := Lib.hid hrg; clear hrg
           refine ZX ?_
           refine wpr_goS (fun w' => Has w' (B5) (#[.func (.func 169) #[.agg (e4 d)] #[]]) 243 ∧ Has w' (B8) (pt x7 y7 z7 b7) 182 ∧ Has w' (B6) (#[.slice (some ⟨TB, 0, none⟩) 16 16]) 246 ∧ Rng w' (TB) (r1 * 13) (ptl x1 y1 z1 b1)) 7 8 #[ff,ff,ff,ff,ff,ff,ff,ff] (by kernel_rfl) rfl rfl ?_
           replace M5 := Lib.hid (M5.out.drew)
           replace T1 := Lib.hid (T1.out.drew)
           replace M6 := Lib.hid (M6.out.drew)
           replace M8 := Lib.hid (M8.out.drew)
           replace KO := Lib.hid (KO.out.drew)
           replace Hrg := Lib.hid (Hrg.out.drew)
           replace HB := Lib.hid (qT HB.out 1)
           obtain ⟨yw301, hwyw301⟩ : ∃ ww, ww = wr.drew := ⟨_, rfl⟩
           rw [← hwyw301] at M5 T1 M6 M8 KO Hrg ⊢
           have kq : Below w.heap.size w yw301 := by rw [hwyw301]; exact HB.out
           clear HB; have HB := Lib.hid kq; clear kq hwyw301
           refine qi 0 52 #[tt,ff,ff,ff,ff,ff,ff,ff] rfl rfl rfl (by kernel_rfl) (qY (by rfl) 243 _ rfl (B5) rfl (.func (.func 169) #[.agg (e4 d)] #[]) _ (fun _ h => Has.one (h.1)) Tryz.underlying243 rfl) (⟨M5.out, M8.out, M6.out, Hrg.out⟩) ?_
           (try simp only [sI, sS, sZ])
           refine qi 1 53 #[tt,tt,ff,ff,ff,ff,ff,ff] rfl rfl rfl (by kernel_rfl) (qj (by rfl) 182 _ rfl (B8) rfl 182 (pt x7 y7 z7 b7) (fun _ h => h.2.1) Tryz.underlying182 rfl (by rw [qn]; kernel_rfl)) (⟨M5.out, M8.out, M6.out, Hrg.out⟩) ?_
           (try simp only [sI, sS, sZ])
           refine qi 2 54 #[tt,tt,tt,ff,ff,ff,ff,ff] rfl rfl rfl (by kernel_rfl) (qY (by rfl) 246 _ rfl (B6) rfl (.slice (some ⟨TB, 0, none⟩) 16 16) _ (fun _ h => Has.one (h.2.2.1)) Tryz.underlying246 rfl) (⟨M5.out, M8.out, M6.out, Hrg.out⟩) ?_
           (try simp only [sI, sS, sZ])
           refine qi 3 55 #[tt,tt,tt,tt,ff,ff,ff,ff] (v := ?uv4) rfl rfl rfl (by kernel_rfl) (Or.inl ⟨by rfl, ?uy4⟩) (⟨M5.out, M8.out, M6.out, Hrg.out⟩) ?urest4
           case uy4 => (intro _ _; go_simp; try with_reducible rfl)
           (try simp only [sI, sS, sZ])
           refine qi 4 56 #[tt,tt,tt,tt,tt,ff,ff,ff] rfl rfl rfl (by kernel_rfl) (idx53 (by rfl) _ _ rfl (TB) _ _ rfl _ _ (by rfl) (r1) (rfl) (by omega) (r1 * 13) (rfl)) (⟨M5.out, M8.out, M6.out, Hrg.out⟩) ?_
           (try simp only [sI, sS, sZ])
           refine qi 5 57 #[tt,tt,tt,tt,tt,tt,ff,ff] rfl rfl rfl (by kernel_rfl) (Qq (by rfl) 182 _ rfl (TB) (r1 * 13) rfl (ptl x1 y1 z1 b1) (pt x1 y1 z1 b1) (ptl_arr ..) (fun _ h => Rng.at_ (h.2.2.2)) _ Tryz.underlying182 rfl (by rw [ZF]; kernel_rfl)) (⟨M5.out, M8.out, M6.out, Hrg.out⟩) ?_
           (try simp only [sI, sS, sZ])
           refine qq (i := 6) (by kernel_rfl) ?_
           refine qcU 6 58 #[tt,tt,tt,tt,tt,tt,tt,ff] rfl rfl rfl (by rfl) rfl rfl (by rfl) qbI (by rfl) (qaU d hd hdr x7 y7 z7 b7 _ Hq7.out x1 y1 z1 b1 _ Hq1.out _) ?_
           rintro e uw301 ⟨x8, y8, z8, b8, hq8, rfl, hb⟩
           replace M5 := Lib.hid (M5.out.call hb)
           replace T1 := Lib.hid (T1.out.call hb)
           replace M6 := Lib.hid (M6.out.call hb)
           replace M8 := Lib.hid (M8.out.call hb)
           replace KO := Lib.hid (KO.out.call hb)
           replace Hrg := Lib.hid (Hrg.out.call hb)
           replace HB := Lib.hid (qf HB.out hb)
           rw [← fld.mul_add p Hop.out] at hq8
           have Hq8 := Lib.hid hq8; clear hq8
           refine ⟨_, rfl, fun _ => ⟨M5.out, M8.out, M6.out, Hrg.out⟩, ?_⟩
           clear hb
           (try simp only [sI, sS, sZ])
           refine qq (i := 7) (by kernel_rfl) ?_
           first | (obtain ⟨Zq, hZ, mZ⟩ := M8.out) | (obtain ⟨Zq, hZ, mZ⟩ := M8.out.toN (qn ..))
           refine Ql 7 #[tt,tt,tt,tt,tt,tt,tt,tt] rfl rfl rfl (by rfl) 182 _ _ rfl (B8) (pt x8 y8 z8 b8) rfl rfl 182 Zq mZ (by rw [qn]; kernel_rfl) (hZ.trans (qn ..).symm) (Qx _ _ _ _) ?_
           intro yw302 hw2
           replace M5 := Lib.hid (M5.out.setRow_other (B8) (pt x8 y8 z8 b8) (by omega))
           replace T1 := Lib.hid (T1.out.setRow_other (B8) (pt x8 y8 z8 b8) (by omega))
           replace M6 := Lib.hid (M6.out.setRow_other (B8) (pt x8 y8 z8 b8) (by omega))
           replace KO := Lib.hid (KO.out.setRow_other (B8) (pt x8 y8 z8 b8) (by omega))
           replace Hrg := Lib.hid (Hrg.out.setRow_other (B8) (pt x8 y8 z8 b8) (by omega))
           replace M8 := Lib.hid (mZ.setRow (pt x8 y8 z8 b8))
           replace HB := Lib.hid (below_setRow HB.out (B8) (pt x8 y8 z8 b8) (by omega))
           rw [← hw2] at M5 T1 M6 KO Hrg M8 HB; clear mZ hZ hw2
           refine ⟨fun h => (h rfl).elim, ?_⟩
           (try simp only [sI, sS, sZ])
           refine qD (by kernel_rfl) (NoPanic.normal ?_)
           clear Hrg
           repeat ((fail_if_success (with_reducible (show wpListIn _ _ _ _ _ _ _ _))); gi_step)
           refine qZ (by kernel_rfl) ?_
           iterate 2 (refine wpList_step (fun K hK => ?_); go_simp; (try go_bits); refine hK _ _ ?_; clear hK K)
           refine wpList_nil ?_
           go_roundw
           case measure => simp [RowKit.intOf]
           case rel => exact ⟨_, _, _, _, _, _, _, _, _, _, _, _, _, _, _, _, _, _, _, ⟨1, x8, y8, z8, b8, by omega, rfl, by have h := Hq8.out; rw [Ha.out] at h; exact h, M8.out, M5.out, T1.out, M6.out, KO.out, HB.out⟩, rfl⟩
      · have Hq6 := Lib.hid hq6; clear hq6
        obtain ⟨a, ha⟩ : ∃ a, a = if (1 : Nat) = 0 then V else if (1 : Nat) = 1 then 16 * V + r1 else 16 * (16 * V + r1) + r2 := ⟨_, rfl⟩
        rw [← ha] at Hq6
        have Ha := Lib.hid ha; clear ha
        repeat ((fail_if_success (with_reducible (show wpListIn _ _ _ _ _ _ _ _))); gi_step)
        refine qZ (by kernel_rfl) ?_
        (refine wpList_step (fun K hK => ?_); go_simp; (try go_bits); refine hK _ _ ?_; clear hK K)
        refine wpList_nil ?_
        repeat ((fail_if_success (with_reducible (show wpListIn _ _ _ _ _ _ _ _))); gi_step)
        refine qZ (by kernel_rfl) ?_
        iterate 2 (refine wpList_step (fun K hK => ?_); go_simp; (try go_bits); refine hK _ _ ?_; clear hK K)
        refine wpList_nil ?_
        repeat ((fail_if_success (with_reducible (show wpListIn _ _ _ _ _ _ _ _))); gi_step)
        refine qZ (by kernel_rfl) ?_
        (refine wpList_step (fun K hK => ?_); go_simp; (try go_bits); refine hK _ _ ?_; clear hK K)
        refine wpList_nil ?_
        repeat ((fail_if_success (with_reducible (show wpListIn _ _ _ _ _ _ _ _))); gi_step)
        gi_loopw [45] (fun i wr => ∃ s x7 y7 z7 : Nat, ∃ b7, s ≤ 4 ∧ i = .int .i64 (s : Int) ∧ PtA x7 y7 z7 b7 (qV qN fd p (2 ^ s * a)) ∧ Has wr B8 (pt x7 y7 z7 b7) 182 ∧ Has wr B5 #[.func (.func 169) #[.agg (e4 d)] #[]] 243 ∧ Tab wr TB 16 p ∧ Has wr B6 #[.slice (some ⟨TB, 0, none⟩) 16 16] 246 ∧ But B8 W wr ∧ Below w.heap.size w wr) (fun i _ => (4 - RowKit.intOf i).toNat)
        case atStart => exact ⟨0, x6, y6, z6, b6, by omega, rfl, by rw [Nat.pow_zero, Nat.one_mul]; exact Hq6.out, M8.out, M5.out, T1.out, M6.out, KO.out, HB.out⟩
        case round =>
         clear M5 T1 M6 M8 KO HB Hq6
         rename_i wr2
         obtain ⟨s, x7, y7, z7, b7, hs, rfl, hq7, m8, m5, t1, m6, kO, hB⟩ := hrel
         have M5 := Lib.hid m5; clear m5
         have T1 := Lib.hid t1; clear t1
         have M6 := Lib.hid m6; clear m6
         have HB := Lib.hid hB; clear hB
         have KO := Lib.hid kO; clear kO
         have M8 := Lib.hid m8; clear m8
         have Hq7 := Lib.hid hq7; clear hq7
         rcases Nat.lt_or_ge s 4 with hs4 | hs4
         · have sq : (s : Int) < 4 := by omega
           repeat ((fail_if_success (with_reducible (show wpListIn _ _ _ _ _ _ _ _))); gi_step)
           refine qZ (by kernel_rfl) ?_
           (refine wpList_step (fun K hK => ?_); go_simp; (try go_bits); refine hK _ _ ?_; clear hK K)
           refine wpList_nil ?_
           repeat ((fail_if_success (with_reducible (show wpListIn _ _ _ _ _ _ _ _))); gi_step)
           refine qZ (by kernel_rfl) ?_
           refine Qv (by rfl) 243 _ rfl (B5) rfl (.func (.func 169) #[.agg (e4 d)] #[]) _ M5.out.one Tryz.underlying243 rfl 47 rfl ?_
           (try simp only [Act.put, sI, sS, sZ])
           refine qv (by rfl) 182 _ rfl (B8) rfl 182 (pt x7 y7 z7 b7) M8.out Tryz.underlying182 rfl (by rw [qn]; kernel_rfl) 48 rfl ?_
           (try simp only [Act.put, sI, sS, sZ])
           refine qv (by rfl) 182 _ rfl (B8) rfl 182 (pt x7 y7 z7 b7) M8.out Tryz.underlying182 rfl (by rw [qn]; kernel_rfl) 49 rfl ?_
           (try simp only [Act.put, sI, sS, sZ])
           refine qaO (by rfl) rfl rfl (by rfl) qbI (by rfl) (qaU d hd hdr x7 y7 z7 b7 _ Hq7.out x7 y7 z7 b7 _ Hq7.out _) 50 rfl ?_
           rintro e uw301 ⟨x8, y8, z8, b8, hq8, rfl, hb⟩
           replace M5 := Lib.hid (M5.out.call hb)
           replace T1 := Lib.hid (T1.out.call hb)
           replace M6 := Lib.hid (M6.out.call hb)
           replace M8 := Lib.hid (M8.out.call hb)
           replace KO := Lib.hid (KO.out.call hb)
           replace HB := Lib.hid (qf HB.out hb)
           rw [← fld.mul_add p Hop.out] at hq8
           have Hq8 := Lib.hid hq8; clear hq8
           refine ⟨_, rfl, ?_⟩
           clear hb
           (try simp only [Act.put, sI, sS, sZ])
           first | (obtain ⟨Zq, hZ, mZ⟩ := M8.out) | (obtain ⟨Zq, hZ, mZ⟩ := M8.out.toN (qn ..))
           refine ql (by rfl) 182 _ _ rfl rfl (B8) (pt x8 y8 z8 b8) rfl rfl 182 Zq mZ (by rw [qn]; kernel_rfl) (hZ.trans (qn ..).symm) (Qx _ _ _ _) ?_
           intro yw301 hw2
           replace M5 := Lib.hid (M5.out.setRow_other (B8) (pt x8 y8 z8 b8) (by omega))
           replace T1 := Lib.hid (T1.out.setRow_other (B8) (pt x8 y8 z8 b8) (by omega))
           replace M6 := Lib.hid (M6.out.setRow_other (B8) (pt x8 y8 z8 b8) (by omega))
           replace KO := Lib.hid (KO.out.setRow_other (B8) (pt x8 y8 z8 b8) (by omega))
           replace M8 := Lib.hid (mZ.setRow (pt x8 y8 z8 b8))
           replace HB := Lib.hid (below_setRow HB.out (B8) (pt x8 y8 z8 b8) (by omega))
           rw [← hw2] at M5 T1 M6 KO M8 HB; clear mZ hZ hw2
           refine wpList_nil ?_
           repeat ((fail_if_success (with_reducible (show wpListIn _ _ _ _ _ _ _ _))); gi_step)
           refine qZ (by kernel_rfl) ?_
           iterate 2 (refine wpList_step (fun K hK => ?_); go_simp; (try go_bits); refine hK _ _ ?_; clear hK K)
           refine wpList_nil ?_
           go_roundw
           case measure => simp [RowKit.intOf]; omega
           case rel => exact ⟨_, _, _, _, _, _, _, ⟨s + 1, x8, y8, z8, b8, by omega, rfl, by rw [show 2 ^ (s + 1) * a = 2 ^ s * a + 2 ^ s * a by rw [Nat.pow_succ, Nat.mul_assoc, Nat.mul_comm 2 a, ← Nat.mul_assoc, Nat.mul_two]]; exact Hq8.out, M8.out, M5.out, T1.out, M6.out, KO.out, HB.out⟩, rfl⟩
         · have hs4' : s = 4 := by omega
           subst hs4'
           clear hs hs4
           repeat ((fail_if_success (with_reducible (show wpListIn _ _ _ _ _ _ _ _))); gi_step)
           refine qZ (by kernel_rfl) ?_
           (refine wpList_step (fun K hK => ?_); go_simp; (try go_bits); refine hK _ _ ?_; clear hK K)
           refine wpList_nil ?_
           repeat ((fail_if_success (with_reducible (show wpListIn _ _ _ _ _ _ _ _))); gi_step)
           obtain ⟨x1, y1, z1, b1, hq1, hrg⟩ := T1.out.at_ r2 hr2
           have Hq1 := Lib.hid hq1; clear hq1
           have Hrg := Lib.hid hrg; clear hrg
           refine ZX ?_
           refine wpr_goS (fun w' => Has w' (B5) (#[.func (.func 169) #[.agg (e4 d)] #[]]) 243 ∧ Has w' (B8) (pt x7 y7 z7 b7) 182 ∧ Has w' (B6) (#[.slice (some ⟨TB, 0, none⟩) 16 16]) 246 ∧ Rng w' (TB) (r2 * 13) (ptl x1 y1 z1 b1)) 7 8 #[ff,ff,ff,ff,ff,ff,ff,ff] (by kernel_rfl) rfl rfl ?_
           replace M5 := Lib.hid (M5.out.drew)
           replace T1 := Lib.hid (T1.out.drew)
           replace M6 := Lib.hid (M6.out.drew)
           replace M8 := Lib.hid (M8.out.drew)
           replace KO := Lib.hid (KO.out.drew)
           replace Hrg := Lib.hid (Hrg.out.drew)
           replace HB := Lib.hid (qT HB.out 1)
           obtain ⟨yw301, hwyw301⟩ : ∃ ww, ww = wr.drew := ⟨_, rfl⟩
           rw [← hwyw301] at M5 T1 M6 M8 KO Hrg ⊢
           have kq : Below w.heap.size w yw301 := by rw [hwyw301]; exact HB.out
           clear HB; have HB := Lib.hid kq; clear kq hwyw301
           refine qi 0 52 #[tt,ff,ff,ff,ff,ff,ff,ff] rfl rfl rfl (by kernel_rfl) (qY (by rfl) 243 _ rfl (B5) rfl (.func (.func 169) #[.agg (e4 d)] #[]) _ (fun _ h => Has.one (h.1)) Tryz.underlying243 rfl) (⟨M5.out, M8.out, M6.out, Hrg.out⟩) ?_
           (try simp only [sI, sS, sZ])
           refine qi 1 53 #[tt,tt,ff,ff,ff,ff,ff,ff] rfl rfl rfl (by kernel_rfl) (qj (by rfl) 182 _ rfl (B8) rfl 182 (pt x7 y7 z7 b7) (fun _ h => h.2.1) Tryz.underlying182 rfl (by rw [qn]; kernel_rfl)) (⟨M5.out, M8.out, M6.out, Hrg.out⟩) ?_
           (try simp only [sI, sS, sZ])
           refine qi 2 54 #[tt,tt,tt,ff,ff,ff,ff,ff] rfl rfl rfl (by kernel_rfl) (qY (by rfl) 246 _ rfl (B6) rfl (.slice (some ⟨TB, 0, none⟩) 16 16) _ (fun _ h => Has.one (h.2.2.1)) Tryz.underlying246 rfl) (⟨M5.out, M8.out, M6.out, Hrg.out⟩) ?_
           (try simp only [sI, sS, sZ])
           refine qi 3 55 #[tt,tt,tt,tt,ff,ff,ff,ff] (v := ?uv5) rfl rfl rfl (by kernel_rfl) (Or.inl ⟨by rfl, ?uy5⟩) (⟨M5.out, M8.out, M6.out, Hrg.out⟩) ?urest5
           case uy5 => (intro _ _; go_simp; try with_reducible rfl)
           (try simp only [sI, sS, sZ])
           refine qi 4 56 #[tt,tt,tt,tt,tt,ff,ff,ff] rfl rfl rfl (by kernel_rfl) (idx53 (by rfl) _ _ rfl (TB) _ _ rfl _ _ (by rfl) (r2) (rfl) (by omega) (r2 * 13) (rfl)) (⟨M5.out, M8.out, M6.out, Hrg.out⟩) ?_
           (try simp only [sI, sS, sZ])
           refine qi 5 57 #[tt,tt,tt,tt,tt,tt,ff,ff] rfl rfl rfl (by kernel_rfl) (Qq (by rfl) 182 _ rfl (TB) (r2 * 13) rfl (ptl x1 y1 z1 b1) (pt x1 y1 z1 b1) (ptl_arr ..) (fun _ h => Rng.at_ (h.2.2.2)) _ Tryz.underlying182 rfl (by rw [ZF]; kernel_rfl)) (⟨M5.out, M8.out, M6.out, Hrg.out⟩) ?_
           (try simp only [sI, sS, sZ])
           refine qq (i := 6) (by kernel_rfl) ?_
           refine qcU 6 58 #[tt,tt,tt,tt,tt,tt,tt,ff] rfl rfl rfl (by rfl) rfl rfl (by rfl) qbI (by rfl) (qaU d hd hdr x7 y7 z7 b7 _ Hq7.out x1 y1 z1 b1 _ Hq1.out _) ?_
           rintro e uw301 ⟨x8, y8, z8, b8, hq8, rfl, hb⟩
           replace M5 := Lib.hid (M5.out.call hb)
           replace T1 := Lib.hid (T1.out.call hb)
           replace M6 := Lib.hid (M6.out.call hb)
           replace M8 := Lib.hid (M8.out.call hb)
           replace KO := Lib.hid (KO.out.call hb)
           replace Hrg := Lib.hid (Hrg.out.call hb)
           replace HB := Lib.hid (qf HB.out hb)
           rw [← fld.mul_add p Hop.out] at hq8
           have Hq8 := Lib.hid hq8; clear hq8
           refine ⟨_, rfl, fun _ => ⟨M5.out, M8.out, M6.out, Hrg.out⟩, ?_⟩
           clear hb
           (try simp only [sI, sS, sZ])
           refine qq (i := 7) (by kernel_rfl) ?_
           first | (obtain ⟨Zq, hZ, mZ⟩ := M8.out) | (obtain ⟨Zq, hZ, mZ⟩ := M8.out.toN (qn ..))
           refine Ql 7 #[tt,tt,tt,tt,tt,tt,tt,tt] rfl rfl rfl (by rfl) 182 _ _ rfl (B8) (pt x8 y8 z8 b8) rfl rfl 182 Zq mZ (by rw [qn]; kernel_rfl) (hZ.trans (qn ..).symm) (Qx _ _ _ _) ?_
           intro yw302 hw2
           replace M5 := Lib.hid (M5.out.setRow_other (B8) (pt x8 y8 z8 b8) (by omega))
           replace T1 := Lib.hid (T1.out.setRow_other (B8) (pt x8 y8 z8 b8) (by omega))
           replace M6 := Lib.hid (M6.out.setRow_other (B8) (pt x8 y8 z8 b8) (by omega))
           replace KO := Lib.hid (KO.out.setRow_other (B8) (pt x8 y8 z8 b8) (by omega))
           replace Hrg := Lib.hid (Hrg.out.setRow_other (B8) (pt x8 y8 z8 b8) (by omega))
           replace M8 := Lib.hid (mZ.setRow (pt x8 y8 z8 b8))
           replace HB := Lib.hid (below_setRow HB.out (B8) (pt x8 y8 z8 b8) (by omega))
           rw [← hw2] at M5 T1 M6 KO Hrg M8 HB; clear mZ hZ hw2
           refine ⟨fun h => (h rfl).elim, ?_⟩
           (try simp only [sI, sS, sZ])
           refine qD (by kernel_rfl) (NoPanic.normal ?_)
           clear Hrg
           repeat ((fail_if_success (with_reducible (show wpListIn _ _ _ _ _ _ _ _))); gi_step)
           refine qZ (by kernel_rfl) ?_
           iterate 2 (refine wpList_step (fun K hK => ?_); go_simp; (try go_bits); refine hK _ _ ?_; clear hK K)
           refine wpList_nil ?_
           go_roundw
           case measure => simp [RowKit.intOf]
           case rel => exact ⟨_, _, _, _, _, _, _, _, _, _, _, _, _, _, _, _, _, _, _, ⟨2, x8, y8, z8, b8, by omega, rfl, by have h := Hq8.out; rw [Ha.out] at h; exact h, M8.out, M5.out, T1.out, M6.out, KO.out, HB.out⟩, rfl⟩
      · repeat ((fail_if_success (with_reducible (show wpListIn _ _ _ _ _ _ _ _))); gi_step)
        refine qZ (by kernel_rfl) ?_
        (refine wpList_step (fun K hK => ?_); go_simp; (try go_bits); refine hK _ _ ?_; clear hK K)
        refine wpList_nil ?_
        repeat ((fail_if_success (with_reducible (show wpListIn _ _ _ _ _ _ _ _))); gi_step)
        refine ⟨KO.out.others HW8.out, KO.out.keep2 (by omega) (by omega) hlW (by omega), _, ⟨x6, y6, z6, b6, rfl, ?_⟩, M8.out, But.trans Hb8.out KO.out⟩
        have h := hq6
        rw [Hsn.out, show 256 * V + q = 16 * (16 * V + r1) + r2 by rw [Hrq.out]; omega]
        exact h
    case done =>
     rintro D xs W hD rfl ⟨c, ⟨x2, y2, z2, b2, rfl, hq2⟩, m8, hb8⟩ hK
     rw [vl_all n Hn.out] at hq2
     have m4 := M4.out.but hb8 (by omega)
     have hB := qbK HB.out hb8 (by omega) HB.out.size
     have gD : B8 < D := by omega
     have hD2 : DefAt W D := hK
     clear hf hz hI hst hlS hl3 hl8 hl8b M2 M3 M4 M5 T M6 M8 MS HB hK hb8
     have M4 := Lib.hid m4; clear m4
     have HB := Lib.hid hB; clear hB
     have M8 := Lib.hid m8; clear m8
     have HD2 := Lib.hid hD2; clear hD2
     have Hq2 := Lib.hid hq2; clear hq2
     repeat ((fail_if_success (with_reducible (show wpList _ _ _ _ _ _))); go_step)
     refine qv (by rfl) 182 _ rfl (B8) rfl 182 (pt x2 y2 z2 b2) M8.out Tryz.underlying182 rfl (by rw [qn]; kernel_rfl) 60 rfl ?_
     (try simp only [Act.put, sI, sS, sZ])
     first | (obtain ⟨Zq, hZ, mZ⟩ := M4.out) | (obtain ⟨Zq, hZ, mZ⟩ := M4.out.toN (qn ..))
     refine ql (by rfl) 182 _ _ rfl rfl (w.heap.size + 1 + 1) (pt x2 y2 z2 b2) rfl rfl 182 Zq mZ (by rw [qn]; kernel_rfl) (hZ.trans (qn ..).symm) (Qx _ _ _ _) ?_
     intro yw201 hw2
     replace M8 := Lib.hid (M8.out.setRow_other (w.heap.size + 1 + 1) (pt x2 y2 z2 b2) (by omega))
     replace HD2 := Lib.hid (HD2.out.setRow_other (w.heap.size + 1 + 1) (pt x2 y2 z2 b2) (by omega))
     replace M4 := Lib.hid (mZ.setRow (pt x2 y2 z2 b2))
     replace HB := Lib.hid (below_setRow HB.out (w.heap.size + 1 + 1) (pt x2 y2 z2 b2) (by omega))
     rw [← hw2] at M8 HD2 M4 HB; clear mZ hZ hw2
     refine wpList_nil ?_
     repeat ((fail_if_success (with_reducible (show wpList _ _ _ _ _ _))); go_step)
     refine ⟨by simp, .inl ⟨_, _, rfl, run_takeDeferred HD2.out, ?_⟩⟩
     have m4' := M4.out.putObj (D := D) (.deferred none) (by omega)
     have hBD : Below w.heap.size w (World.putObj yw201 D (.deferred none)) := HB.out.trans (belowK_b (w := w) (Nat.le_refl _) _ D _ _ (by omega) HD2.out rfl rfl)
     refine ⟨.agg (pt x2 y2 z2 b2), results_cell_row (t := 182) (by rfl) _ _ (w.heap.size + 1 + 1) _ _ _ rfl m4' Tryz.underlying182 rfl (by rw [qn]; kernel_rfl), x2, y2, z2, b2, Hq2.out, rfl, hBD⟩
end
section
open Go.RowKit Go.Lib
theorem dg0_tm (r b : Nat) (h : r % 2 = b) : (dg 4096 r 0).tmod 2 = (b : Int) := by
 rw [Int.tmod_eq_emod_of_nonneg (qaE r 0)]
 have hz0 : dg 4096 r 0 % 2 = ((r % 2 : Nat) : Int) := by unfold dg; rw [Nat.pow_zero, Nat.div_one]; omega
 rw [hz0, h]
theorem add_128 (c : Nat) (h : c < 128) : ((c : Int) + 128) % 256 = (c : Int) + 128 := by omega
theorem rkeyp_any (X Y Z T : Nat) (hX : X < PP) (hY : Y < PP) (hZ : Z < PP) (w : World) :
 Calls Tryz.prog 44 #[.agg (rp X Y Z T)] w fun e w' => e = .returned (.agg (k32 (qdk X Y Z))) ∧ Below w.heap.size w w' := by
 have hov1 := fun w => qdv Y Z hY hZ w
 have hov2 := fun w => qdv X Z hX hZ w
 obtain ⟨QY, hQY⟩ : ∃ q, q = Y * pwm Z (PP - 2) % PP := ⟨_, rfl⟩
 obtain ⟨QX, hQX⟩ : ∃ q, q = X * pwm Z (PP - 2) % PP := ⟨_, rfl⟩
 rw [← hQY] at hov1
 rw [← hQX] at hov2
 have hQp : QY < PP := by rw [hQY]; exact Nat.mod_lt _ qG
 have hQl : QY < 57896044618658097711785492504343953926634992332820282019728792003956564819968 := Nat.lt_trans hQp PP_255
 have hkey := fun w => rkey_any QY (PP_256 QY hQp) w
 obtain ⟨R, hR⟩ : ∃ r, r = qdk X Y Z := ⟨_, rfl⟩
 have hodd : QX % 2 = 1 → QY + 57896044618658097711785492504343953926634992332820282019728792003956564819968 = R := by intro h; rw [hQY, hR]; rw [hQX] at h; exact keyn_odd X Y Z h
 have heven : QX % 2 = 0 → QY = R := by intro h; rw [hQY, hR]; rw [hQX] at h; exact qdD X Y Z h
 rw [← hR]
 clear hR hQY hQX hQp hX hY hZ
 have Hov1 := Lib.hid hov1; clear hov1
 have Hov2 := Lib.hid hov2; clear hov2
 have Hkey := Lib.hid hkey; clear hkey
 have HQl := Lib.hid hQl; clear hQl
 have Hodd := Lib.hid hodd; clear hodd
 have Heven := Lib.hid heven; clear heven
 go_enter Tryz.func44, Tryz.ntmps44
 repeat ((fail_if_success (with_reducible (show wpList _ _ _ _ _ _))); go_step)
 iterate 2 (refine wpList_step (fun K hK => ?_); go_simp; (try go_bits); refine hK _ _ ?_; clear hK K)
 refine wpList_nil ?_
 have M1 := Lib.hid ((Has.new w  (rp X Y Z T) 103).alloc (.cells (#[.int .u8 0, .int .u8 0, .int .u8 0, .int .u8 0, .int .u8 0, .int .u8 0, .int .u8 0, .int .u8 0, .int .u8 0, .int .u8 0, .int .u8 0, .int .u8 0, .int .u8 0, .int .u8 0, .int .u8 0, .int .u8 0, .int .u8 0, .int .u8 0, .int .u8 0, .int .u8 0, .int .u8 0, .int .u8 0, .int .u8 0, .int .u8 0, .int .u8 0, .int .u8 0, .int .u8 0, .int .u8 0, .int .u8 0, .int .u8 0, .int .u8 0, .int .u8 0] : Array Value) 36))
 have M2 := Lib.hid (HasN.new1 w (.cells (rp X Y Z T) 103) (#[.int .u8 0, .int .u8 0, .int .u8 0, .int .u8 0, .int .u8 0, .int .u8 0, .int .u8 0, .int .u8 0, .int .u8 0, .int .u8 0, .int .u8 0, .int .u8 0, .int .u8 0, .int .u8 0, .int .u8 0, .int .u8 0, .int .u8 0, .int .u8 0, .int .u8 0, .int .u8 0, .int .u8 0, .int .u8 0, .int .u8 0, .int .u8 0, .int .u8 0, .int .u8 0, .int .u8 0, .int .u8 0, .int .u8 0, .int .u8 0, .int .u8 0, .int .u8 0] : Array Value) 36 32 (by kernel_rfl))
 have HB := Lib.hid (Qp w (.cells (rp X Y Z T) 103) (.cells (#[.int .u8 0, .int .u8 0, .int .u8 0, .int .u8 0, .int .u8 0, .int .u8 0, .int .u8 0, .int .u8 0, .int .u8 0, .int .u8 0, .int .u8 0, .int .u8 0, .int .u8 0, .int .u8 0, .int .u8 0, .int .u8 0, .int .u8 0, .int .u8 0, .int .u8 0, .int .u8 0, .int .u8 0, .int .u8 0, .int .u8 0, .int .u8 0, .int .u8 0, .int .u8 0, .int .u8 0, .int .u8 0, .int .u8 0, .int .u8 0, .int .u8 0, .int .u8 0] : Array Value) 36))
 obtain ⟨yw1, hwyw1⟩ : ∃ ww, ww = ((w.alloc (.cells (rp X Y Z T) 103)).alloc (.cells (#[.int .u8 0, .int .u8 0, .int .u8 0, .int .u8 0, .int .u8 0, .int .u8 0, .int .u8 0, .int .u8 0, .int .u8 0, .int .u8 0, .int .u8 0, .int .u8 0, .int .u8 0, .int .u8 0, .int .u8 0, .int .u8 0, .int .u8 0, .int .u8 0, .int .u8 0, .int .u8 0, .int .u8 0, .int .u8 0, .int .u8 0, .int .u8 0, .int .u8 0, .int .u8 0, .int .u8 0, .int .u8 0, .int .u8 0, .int .u8 0, .int .u8 0, .int .u8 0] : Array Value) 36)) := ⟨_, rfl⟩
 rw [← hwyw1] at M1 M2 HB ⊢
 clear hwyw1
 repeat ((fail_if_success (with_reducible (show wpList _ _ _ _ _ _))); go_step)
 (refine wpList_step (fun K hK => ?_); go_simp; (try go_bits); refine hK _ _ ?_; clear hK K)
 refine QO (by rfl) 101 _ rfl (w.heap.size) 22 rfl (zk Y) (r22 Y) rfl (rp_y M1.out) _ Tryz.underlying101 rfl (by rw [q9]; kernel_rfl) 5 rfl ?_
 (try simp only [Act.put, sI, sS, sZ])
 (refine wpList_step (fun K hK => ?_); go_simp; (try go_bits); refine hK _ _ ?_; clear hK K)
 refine QO (by rfl) 101 _ rfl (w.heap.size) 44 rfl (zk Z) (r22 Z) rfl (rp_z M1.out) _ Tryz.underlying101 rfl (by rw [q9]; kernel_rfl) 7 rfl ?_
 (try simp only [Act.put, sI, sS, sZ])
 refine qm (by rfl) rfl rfl (by rfl) ent77 (by rfl) (Hov1.out _) 8 rfl ?_
 rintro e uw1 ⟨rfl, hb⟩
 replace M1 := Lib.hid (M1.out.call hb)
 replace M2 := Lib.hid (M2.out.call hb)
 replace HB := Lib.hid (qf HB.out hb)
 refine ⟨_, rfl, ?_⟩
 clear hb
 (try simp only [Act.put, sI, sS, sZ])
 refine qm (by rfl) rfl rfl (by rfl) ent76 (by rfl) (Hkey.out _) 9 rfl ?_
 rintro e uw2 ⟨rfl, hb⟩
 replace M1 := Lib.hid (M1.out.call hb)
 replace M2 := Lib.hid (M2.out.call hb)
 replace HB := Lib.hid (qf HB.out hb)
 refine ⟨_, rfl, ?_⟩
 clear hb
 (try simp only [Act.put, sI, sS, sZ])
 refine qE (by rfl) 36 rfl _ al24 3 rfl ?_
 intro yw2 hw2
 have hlt3 := M1.out.lt
 have hlt4 := M2.out.lt
 have hsz := HB.out.size
 replace M1 := Lib.hid (M1.out.alloc (.cells z24 36))
 replace M2 := Lib.hid (M2.out.alloc (.cells z24 36))
 have M3 := Lib.hid (HasN.new uw2 z24 36 32 (by kernel_rfl))
 replace HB := Lib.hid (HB.out.alloc hsz (.cells z24 36))
 rw [← hw2] at M1 M2 M3 HB; clear hw2
 (try simp only [Act.put, sI, sS, sZ])
 first | (obtain ⟨Zq, hZ, mZ⟩ := M3.out) | (obtain ⟨Zq, hZ, mZ⟩ := M3.out.toN (qg ..))
 refine ql (by rfl) 36 _ _ rfl rfl (uw2.heap.size) (k32 QY) rfl rfl 36 Zq mZ (by rw [qg]; kernel_rfl) (hZ.trans (qg ..).symm) (qo _ _ _) ?_
 intro yw5 hw2
 replace M1 := Lib.hid (M1.out.setRow_other (uw2.heap.size) (k32 QY) (by omega))
 replace M2 := Lib.hid (M2.out.setRow_other (uw2.heap.size) (k32 QY) (by omega))
 replace M3 := Lib.hid (mZ.setRow (k32 QY))
 replace HB := Lib.hid (below_setRow HB.out (uw2.heap.size) (k32 QY) (by omega))
 rw [← hw2] at M1 M2 M3 HB; clear mZ hZ hw2
 refine wpList_nil ?_
 repeat ((fail_if_success (with_reducible (show wpList _ _ _ _ _ _))); go_step)
 have hix := fun w => QU w 101 3 22 .i64 Tryz.underlying101 Tryz.underlying3 sz_int (dg 4096 QX) 0 (by omega)
 rw [show row .i64 22 (dg 4096 QX) = r22 QX from rfl, show (((0 : Nat) : Int)) = 0 from rfl] at hix
 rcases Nat.mod_two_eq_zero_or_one QX with hp | hp
 · have hE := Heven.out hp
   have htm := dg0_tm QX 0 hp
   obtain ⟨z, hz⟩ : ∃ z, z = dg 4096 QX 0 := ⟨_, rfl⟩
   rw [← hz] at htm hix
   have htm : z.tmod 2 = 0 := htm
   have HE := Lib.hid hE; clear hE
   have Hp := Lib.hid hp; clear hp
   have Hz := Lib.hid hz; clear hz
   (refine wpList_step (fun K hK => ?_); go_simp; (try go_bits); refine hK _ _ ?_; clear hK K)
   refine QO (by rfl) 101 _ rfl (w.heap.size) 0 rfl (zk X) (r22 X) rfl (rp_x M1.out) _ Tryz.underlying101 rfl (by rw [q9]; kernel_rfl) 11 rfl ?_
   (try simp only [Act.put, sI, sS, sZ])
   (refine wpList_step (fun K hK => ?_); go_simp; (try go_bits); refine hK _ _ ?_; clear hK K)
   refine QO (by rfl) 101 _ rfl (w.heap.size) 44 rfl (zk Z) (r22 Z) rfl (rp_z M1.out) _ Tryz.underlying101 rfl (by rw [q9]; kernel_rfl) 13 rfl ?_
   (try simp only [Act.put, sI, sS, sZ])
   refine qm (by rfl) rfl rfl (by rfl) ent77 (by rfl) (Hov2.out _) 14 rfl ?_
   rintro e uw3 ⟨rfl, hb⟩
   replace M1 := Lib.hid (M1.out.call hb)
   replace M2 := Lib.hid (M2.out.call hb)
   replace M3 := Lib.hid (M3.out.call hb)
   replace HB := Lib.hid (qf HB.out hb)
   refine ⟨_, rfl, ?_⟩
   clear hb
   (try simp only [Act.put, sI, sS, sZ])
   iterate 3 (refine wpList_step (fun K hK => ?_); go_simp; (try go_bits); refine hK _ _ ?_; clear hK K)
   refine wpList_nil ?_
   clear hix htm
   repeat ((fail_if_success (with_reducible (show wpList _ _ _ _ _ _))); go_step)
   refine qv (by rfl) 36 _ rfl (uw2.heap.size) rfl 36 (k32 QY) M3.out Tryz.underlying36 rfl (by rw [qg]; kernel_rfl) 22 rfl ?_
   (try simp only [Act.put, sI, sS, sZ])
   first | (obtain ⟨Zq, hZ, mZ⟩ := M2.out) | (obtain ⟨Zq, hZ, mZ⟩ := M2.out.toN (qg ..))
   refine ql (by rfl) 36 _ _ rfl rfl (w.heap.size + 1) (k32 QY) rfl rfl 36 Zq mZ (by rw [qg]; kernel_rfl) (hZ.trans (qg ..).symm) (qo _ _ _) ?_
   intro yw6 hw2
   replace M1 := Lib.hid (M1.out.setRow_other (w.heap.size + 1) (k32 QY) (by omega))
   replace M3 := Lib.hid (M3.out.setRow_other (w.heap.size + 1) (k32 QY) (by omega))
   replace M2 := Lib.hid (mZ.setRow (k32 QY))
   replace HB := Lib.hid (below_setRow HB.out (w.heap.size + 1) (k32 QY) (by omega))
   rw [← hw2] at M1 M3 M2 HB; clear mZ hZ hw2
   refine wpList_nil ?_
   go_wp2_with fail
   exact bodyPost_ret (v := .agg (k32 QY)) (results_cell_row (t := 36) (by rfl) _ _ (w.heap.size + 1) _ _ _ rfl M2.out Tryz.underlying36 rfl (by rw [qg]; kernel_rfl)) rfl ⟨by rw [HE.out], HB.out⟩
 · have hE := Hodd.out hp
   have htm := dg0_tm QX 1 hp
   obtain ⟨z, hz⟩ : ∃ z, z = dg 4096 QX 0 := ⟨_, rfl⟩
   rw [← hz] at htm hix
   have htm : z.tmod 2 = 1 := htm
   obtain ⟨c, hc, hcl⟩ := qc1 QY HQl.out
   have hadd := add_128 c hcl
   have hkt := key_top QY HQl.out ((c : Int) + 128) (by rw [hc])
   have HE := Lib.hid hE; clear hE
   have Hp := Lib.hid hp; clear hp
   have Hz := Lib.hid hz; clear hz
   have Hkt := Lib.hid hkt; clear hkt
   have Hc := Lib.hid hc; clear hc
   (refine wpList_step (fun K hK => ?_); go_simp; (try go_bits); refine hK _ _ ?_; clear hK K)
   refine QO (by rfl) 101 _ rfl (w.heap.size) 0 rfl (zk X) (r22 X) rfl (rp_x M1.out) _ Tryz.underlying101 rfl (by rw [q9]; kernel_rfl) 11 rfl ?_
   (try simp only [Act.put, sI, sS, sZ])
   (refine wpList_step (fun K hK => ?_); go_simp; (try go_bits); refine hK _ _ ?_; clear hK K)
   refine QO (by rfl) 101 _ rfl (w.heap.size) 44 rfl (zk Z) (r22 Z) rfl (rp_z M1.out) _ Tryz.underlying101 rfl (by rw [q9]; kernel_rfl) 13 rfl ?_
   (try simp only [Act.put, sI, sS, sZ])
   refine qm (by rfl) rfl rfl (by rfl) ent77 (by rfl) (Hov2.out _) 14 rfl ?_
   rintro e uw3 ⟨rfl, hb⟩
   replace M1 := Lib.hid (M1.out.call hb)
   replace M2 := Lib.hid (M2.out.call hb)
   replace M3 := Lib.hid (M3.out.call hb)
   replace HB := Lib.hid (qf HB.out hb)
   refine ⟨_, rfl, ?_⟩
   clear hb
   (try simp only [Act.put, sI, sS, sZ])
   iterate 3 (refine wpList_step (fun K hK => ?_); go_simp; (try go_bits); refine hK _ _ ?_; clear hK K)
   refine wpList_nil ?_
   clear hix htm
   repeat ((fail_if_success (with_reducible (show wpList _ _ _ _ _ _))); go_step)
   have h1 := M3.out.cell 31 (by omega)
   rw [Hc.out] at h1
   have hfz := M3.out.frozen 31
   iterate 5 (refine wpList_step (fun K hK => ?_); go_simp; (try go_bits); refine hK _ _ ?_; clear hK K)
   refine wpList_nil ?_
   clear h1 hfz
   have kq := M3.out.set (31) ((c : Int) + 128); rw [Hkt.out] at kq; clear M3; have M3 := Lib.hid kq; clear kq
   have kq := M1.out.other ⟨uw2.heap.size, 31, none⟩ (.int .u8 ((c : Int) + 128)) (by simp <;> omega); clear M1; have M1 := Lib.hid kq; clear kq
   have kq := M2.out.other ⟨uw2.heap.size, 31, none⟩ (.int .u8 ((c : Int) + 128)) (by simp <;> omega); clear M2; have M2 := Lib.hid kq; clear kq
   replace HB := Lib.hid (HB.out.setCell (p := ⟨uw2.heap.size, 31, none⟩) (show w.heap.size ≤ uw2.heap.size by omega) (.int .u8 ((c : Int) + 128)))
   obtain ⟨yw6, hwyw6⟩ : ∃ ww, ww = uw3.setCell ⟨uw2.heap.size, 31, none⟩ (.int .u8 ((c : Int) + 128)) := ⟨_, rfl⟩
   rw [← hwyw6] at M1 M2 M3 HB ⊢
   clear hwyw6
   repeat ((fail_if_success (with_reducible (show wpList _ _ _ _ _ _))); go_step)
   refine qv (by rfl) 36 _ rfl (uw2.heap.size) rfl 36 (k32 (QY + 57896044618658097711785492504343953926634992332820282019728792003956564819968)) M3.out Tryz.underlying36 rfl (by rw [qg]; kernel_rfl) 22 rfl ?_
   (try simp only [Act.put, sI, sS, sZ])
   first | (obtain ⟨Zq, hZ, mZ⟩ := M2.out) | (obtain ⟨Zq, hZ, mZ⟩ := M2.out.toN (qg ..))
   refine ql (by rfl) 36 _ _ rfl rfl (w.heap.size + 1) (k32 (QY + 57896044618658097711785492504343953926634992332820282019728792003956564819968)) rfl rfl 36 Zq mZ (by rw [qg]; kernel_rfl) (hZ.trans (qg ..).symm) (qo _ _ _) ?_
   intro yw7 hw2
   replace M1 := Lib.hid (M1.out.setRow_other (w.heap.size + 1) (k32 (QY + 57896044618658097711785492504343953926634992332820282019728792003956564819968)) (by omega))
   replace M3 := Lib.hid (M3.out.setRow_other (w.heap.size + 1) (k32 (QY + 57896044618658097711785492504343953926634992332820282019728792003956564819968)) (by omega))
   replace M2 := Lib.hid (mZ.setRow (k32 (QY + 57896044618658097711785492504343953926634992332820282019728792003956564819968)))
   replace HB := Lib.hid (below_setRow HB.out (w.heap.size + 1) (k32 (QY + 57896044618658097711785492504343953926634992332820282019728792003956564819968)) (by omega))
   rw [← hw2] at M1 M3 M2 HB; clear mZ hZ hw2
   refine wpList_nil ?_
   go_wp2_with fail
   exact bodyPost_ret (v := .agg (k32 (QY + 57896044618658097711785492504343953926634992332820282019728792003956564819968))) (results_cell_row (t := 36) (by rfl) _ _ (w.heap.size + 1) _ _ _ rfl M2.out Tryz.underlying36 rfl (by rw [qg]; kernel_rfl)) rfl ⟨by rw [HE.out], HB.out⟩
end
section
open Go.RowKit Go.Lib
def negA (p : Fin PP × Fin PP) : Fin PP × Fin PP := (-p.1, p.2)
def PtG (p : Fin PP × Fin PP) (w : World) (e : Ending) (w' : World) : Prop := ∃ x y z b, PtA x y z b p ∧ e = .returned (.agg (pt x y z b)) ∧ Below w.heap.size w w'
def RqG (p : Fin PP × Fin PP) (w : World) (e : Ending) (w' : World) : Prop := ∃ X Y Z T : Nat, Rq X Y Z T p ∧ e = .returned (.agg (rp X Y Z T)) ∧ Below w.heap.size w w'
theorem ptp_g {X Y Z : Nat} {p : Fin PP × Fin PP} (h : Rep X Y Z p) {w w' : World} {e : Ending} (hp : PtP X Y Z w e w') : PtG p w e w' :=
 let ⟨x, y, z, b, h1, h2, h3⟩ := hp; ⟨x, y, z, b, ⟨X, Y, Z, h1, h⟩, h2, h3⟩
theorem g_gen (w : World) : Calls Tryz.prog 123 #[] w (PtG gG w) := (gen_any w).mono fun _ _ h => ptp_g qce h
theorem ispt_lt {x y z : Nat} {b : Bool} {X Y Z : Nat} (h : ZS x y z b X Y Z) : X < PP := by
 obtain ⟨_, ⟨_, hx, _⟩ | ⟨_, hx, _⟩⟩ := h <;> (rw [← hx]; exact Nat.mod_lt _ qG)
theorem g_minus (x1 y1 z1 : Nat) (b1 : Bool) (p : Fin PP × Fin PP) (h1 : PtA x1 y1 z1 b1 p) (x2 y2 z2 : Nat) (b2 : Bool) (q : Fin PP × Fin PP) (h2 : PtA x2 y2 z2 b2 q) (w : World) :
 Calls Tryz.prog 125 #[.agg (pt x1 y1 z1 b1), .agg (pt x2 y2 z2 b2)] w (PtG (QD qN fd p (negA q)) w) := by
 obtain ⟨X1, Y1, Z1, i1, r1⟩ := h1
 obtain ⟨X2, Y2, Z2, i2, r2⟩ := h2
 exact (pminus_any x1 y1 z1 b1 X1 Y1 Z1 i1 x2 y2 z2 b2 X2 Y2 Z2 i2 w).mono fun _ _ h => ptp_g (qa0 _ _ _ _ _ _ p (negA q) r1 (neg_rep X2 Y2 Z2 q r2 (ispt_lt i2))) h
theorem g_key (x y z : Nat) (b : Bool) (p : Fin PP × Fin PP) (h : PtA x y z b p) (w : World) :
 Calls Tryz.prog 126 #[.agg (pt x y z b)] w fun e w' => e = .returned (.agg (k32 (qab p))) ∧ Below w.heap.size w w' := by
 obtain ⟨X, Y, Z, i, r⟩ := h
 have := pkey_any x y z b X Y Z i w
 rw [keyn_rep X Y Z p r] at this
 exact this
theorem keyP_lt (p : Fin PP × Fin PP) : qab p < 115792089237316195423570985008687907853269984665640564039457584007913129639936 := by
 have h1 := p.2.isLt
 have h2 : p.1.val % 2 < 2 := Nat.mod_lt _ (by decide)
 have := PP_255
 unfold qab; omega
def qdn (n : Nat) : Fin PP × Fin PP := (fi (cof n).2.1, fi (cof n).2.2)
theorem cofP_key (p : Fin PP × Fin PP) (h : OnP fd p) : qdn (qab p) = p := by
 unfold qdn; rw [cof_keyP p h]; exact Prod.ext (QM _) (QM _)
theorem g_of (n : Nat) (hn : n < 115792089237316195423570985008687907853269984665640564039457584007913129639936) (w : World) :
 Calls Tryz.prog 119 #[.agg (k32 n)] w fun e w' => ∃ x y z b, PtA x y z b (qdn n) ∧ e = .returned (.tuple #[.agg (pt x y z b), .bool (cof n).1]) ∧ Below w.heap.size w w' := by
 refine (pof_any n hn w).mono ?_
 rintro e w' ⟨x, y, z, b, h1, h2, h3⟩
 rw [ZH] at h1
 exact ⟨x, y, z, b, ⟨_, _, _, h1, cof_rep n⟩, h2, h3⟩
theorem g_many (x y z n : Nat) (b : Bool) (p : Fin PP × Fin PP) (hp : PtA x y z b p) (hn : n < 115792089237316195423570985008687907853269984665640564039457584007913129639936) (w : World) :
 Calls Tryz.prog 124 #[.agg (pt x y z b), .agg (k32 n)] w (PtG (qV qN fd p n) w) := pmany_any x y z n b p hp hn w
theorem gr_key (X Y Z T : Nat) (p : Fin PP × Fin PP) (h : Rq X Y Z T p) (w : World) :
 Calls Tryz.prog 44 #[.agg (rp X Y Z T)] w fun e w' => e = .returned (.agg (k32 (qab p))) ∧ Below w.heap.size w w' := by
 obtain ⟨⟨r, _⟩, x, y, z, _⟩ := h
 have := rkeyp_any X Y Z T x y z w
 rw [keyn_rep X Y Z p r] at this
 exact this
theorem gr_many (X Y Z T n : Nat) (p : Fin PP × Fin PP) (hp : Rq X Y Z T p) (hn : n < 115792089237316195423570985008687907853269984665640564039457584007913129639936) (w : World) :
 Calls Tryz.prog 45 #[.agg (rp X Y Z T), .agg (k32 n)] w (RqG (qV qN fd p n) w) := rmany_any X Y Z T n p hp hn w
theorem qcV : OnP fd gG := qce.2.2.2
theorem mul_LL : qV qN fd gG LL = (0, 1) := by
 have h := pmul_rep (GX, GY, 1) gG qce 253 LL (by decide +kernel)
 obtain ⟨hx, hy, hz, _⟩ := h
 obtain ⟨o1, o2⟩ := order_val
 have e1 : fi (qcE (GX, GY, 1) 253 LL).1 = 0 := by rw [← zL]; exact (Zb _ _).2 (o1.trans (Nat.zero_mod _).symm)
 have e2 : fi (qcE (GX, GY, 1) 253 LL).2.1 = fi (qcE (GX, GY, 1) 253 LL).2.2 := (Zb _ _).2 o2
 rw [e1] at hx
 rw [e2] at hy
 refine Prod.ext ?_ ?_
 · exact (fld.dom _ _ hx.symm).resolve_right hz
 · exact fld.cancel _ _ _ hz (by rw [← hy]; grind)
theorem mul_rest (n : Nat) : qV qN fd gG (n % LL) = qV qN fd gG n := by
 have h : qV qN fd gG n = QD qN fd (qV qN fd gG (LL * (n / LL))) (qV qN fd gG (n % LL)) := by
  rw [← fld.mul_add gG qcV, Nat.div_add_mod]
 rw [h, ← fld.mul_mul gG qcV, mul_LL]
 have h0 : ∀ k, qV qN fd ((0, 1) : Fin PP × Fin PP) k = (0, 1) := by
  intro k
  induction k with
  | zero => rfl
  | succ k ih => show QD qN fd (qV qN fd (0, 1) k) (0, 1) = (0, 1); rw [ih, fld.add_zero _ qa3]
 rw [h0, fld.zero_add _ (fld.on_mul gG qcV _)]
end
section
open Go.RowKit Go.Sx
theorem pg {g : FuncId} {vs : Array Value} {w : World} {p : Fin PP × Fin PP} (h : Calls Tryz.prog g vs w (PtG p w)) : Calls Tryz.prog g vs w fun e w' => ∃ x : Nat × Nat × Nat × Bool, PtA x.1 x.2.1 x.2.2.1 x.2.2.2 p ∧ e = .returned (.agg (pt x.1 x.2.1 x.2.2.1 x.2.2.2)) ∧ Below w.heap.size w w' :=
 h.mono fun e w' ⟨x, y, z, b, h1, h2, h3⟩ => ⟨(x, y, z, b), h1, h2, h3⟩
theorem qH (n : Nat) : (k32 n).toList.all (·.oneCell') = true := by rw [qaN]; exact ZR _
def resN (bs : List UInt8) : Nat := leN (zE bs) % L0
theorem sresidue_any (w : World) (v : Value) (bs : List UInt8) (h : Parts w v bs) (hn : bs.length ≤ 1000000) : Calls Tryz.prog 164 ([v] : List Value).toArray w fun e w' => e = .returned (.agg (k32 (resN bs))) ∧ Below w.heap.size w w' := by
 have hlen := Zj bs
 refine qA qe Tryz.func164 rfl Tryz.ntmps164 rfl (St.start w) ?_
 intro b2
 refine cvs (fun w' hs => long_p (h.below hs.below) hn) ?_
 unfold resN
 generalize zE bs = D at *
 have hl : (Lib.byteCells D).length = 64 := by rw [Lib.byteCells_length, hlen]
 intro b3
 refine sN 1 rfl (by simp [hl]) (ZR D) ?_ (by kernel_rfl)
 refine ⟨.mk 0 64 64 rfl rfl rfl (by decide) (by decide) (by decide) (by simp) (.on (by decide) ?_)⟩
 refine cvs (v := .tuple #[.agg (k32 (leN D % L0)), .bool true]) (fun w' hs => ?_) ?_
 · have hrd : Rd w' (.slice (some ⟨b3, 0, none⟩) 64 64) (Lib.byteCells D) := Rd.ent hs 1 rfl hl.symm (by rw [List.drop_zero, List.take_of_length_le (by simpa using Nat.le_of_eq hl)])
   obtain ⟨a, c, hv, hb⟩ := byts_of hrd
   rw [hlen] at hv hb
   injection hv with h1 h2 h3
   subst h1 h3
   exact residue_any _ 64 64 (leN D) (by decide) (by rw [← hlen]; exact qbB D) w' hb
 intro b4
 refine sN 2 rfl (by rw [qg]; rfl) (qH _) ?_ (by kernel_rfl)
 refine ldN 2 rfl (qg _) ?_
 refine sN 0 rfl (by rw [qg]; rfl) (qH _) ?_ (by kernel_rfl)
 refine ldN 0 rfl (qg _) ?_
 exact rt rfl
theorem und123 : Tryz.prog.underlying 56 = some (.slice 48) := by kernel_rfl
theorem info_sl : (Tryz.prog.info? 48).map (fun i => (i.zero, i.size, i.bytes)) = some (some (.slice none 0 0), 1, 24) := by kernel_rfl
theorem bss1 (a : Option Addr) (l c : Nat) (w : World) : (Instr.buildSlice 56 1 #[(0, .slice a l c)]).run Tryz.prog w = .ok (.slice (some ⟨w.heap.size, 0, none⟩) 1 1) (w.alloc (.cells #[.slice a l c] 48)) := by
 obtain ⟨i, hi, hz, hs, hb⟩ := QE info_sl
 exact run_buildSlice w _ _ 1 _ #[.slice a l c] i (.slice none 0 0) und123 hi hz (by rw [hs]; decide) (by rw [hs]; decide) (by rw [hs]; kernel_rfl)
theorem bss3 (a a2 a3 : Option Addr) (l c l2 c2 l3 c3 : Nat) (w : World) : (Instr.buildSlice 56 3 #[(0, .slice a l c), (1, .slice a2 l2 c2), (2, .slice a3 l3 c3)]).run Tryz.prog w = .ok (.slice (some ⟨w.heap.size, 0, none⟩) 3 3) (w.alloc (.cells #[.slice a l c, .slice a2 l2 c2, .slice a3 l3 c3] 48)) := by
 obtain ⟨i, hi, hz, hs, hb⟩ := QE info_sl
 exact run_buildSlice w _ _ 3 _ #[.slice a l c, .slice a2 l2 c2, .slice a3 l3 c3] i (.slice none 0 0) und123 hi hz (by rw [hs]; decide) (by rw [hs]; decide) (by rw [hs]; kernel_rfl)
theorem zR {M : Bks} {B w : World} {L : List Ent} (hs : St M B w L) (k : Nat) {b n : Nat} {t : TypeId} {fz : Nat × Nat} {ro : Bool} (hk : L[k]? = some ⟨b, some (.cells (k32 n) t fz), ro, none⟩) : Rd w (.slice (some ⟨b, 0, none⟩) 32 32) (Lib.byteCells (qU n)) := by
 have hl : (Lib.byteCells (qU n)).length = 32 := by rw [Lib.byteCells_length, qC]
 rw [qaN] at hk
 exact Rd.ent hs k hk hl.symm (by rw [List.drop_zero, List.take_of_length_le (by simpa using Nat.le_of_eq hl)])
def Zv (a p : Nat) (bs : List UInt8) : Nat := resN (qU a ++ qU p ++ bs)
theorem chal_any (w : World) (a p : Nat) (v : Value) (bs : List UInt8) (hrd : Rd w v (Lib.byteCells bs)) (hn : bs.length ≤ 100000) : Calls Tryz.prog 121 ([.agg (k32 a), .agg (k32 p), v] : List Value).toArray w fun e w' => e = .returned (.agg (k32 (Zv a p bs))) ∧ Below w.heap.size w w' := by
 have hrd0 := hrd
 obtain ⟨va, vc, hv, _⟩ := hrd0
 rw [Lib.byteCells_length] at hv
 refine qA qe Tryz.func121 rfl Tryz.ntmps121 rfl (St.start w) ?_
 intro b3 b4 b6
 refine drs [] [5] (.t 0 (.t 1 (.t 2 (.n 3 (.n 4 (.n 5 .nil)))))) qe qk (by kernel_rfl) .nil ?_
 refine ⟨.mk 0 32 32 rfl rfl rfl (by decide) (by decide) (by decide) (by simp) (.on (by decide) ?_)⟩
 refine ⟨.mk 0 32 32 rfl rfl rfl (by decide) (by decide) (by decide) (by simp) (.on (by decide) ?_)⟩
 rw [hv]
 refine .mk #[.slice (some ⟨b3, 0, none⟩) 32 32, .slice (some ⟨b4, 0, none⟩) 32 32, .slice va bs.length vc] 48 (fun w => bss3 _ _ _ _ _ _ _ _ _ w) (fun bn => ?_)
 refine ⟨.nil, ?_⟩
 refine cvs (v := .agg (k32 (Zv a p bs))) (fun w' hs => sresidue_any w' _ (qU a ++ qU p ++ bs) (Parts.made hs 3 [Lib.byteCells (qU a), Lib.byteCells (qU p), Lib.byteCells bs] 3 rfl rfl rfl (by simp [Lib.byteCells_append]) (fun i u xs hu hx => ?_) (by simp)) (by simp [qC]; omega)) ?_
 · match i, hu, hx with
   | 0, hu, hx => simp at hu hx; subst hu hx; exact zR hs 0 rfl
   | 1, hu, hx => simp at hu hx; subst hu hx; exact zR hs 1 rfl
   | 2, hu, hx => simp at hu hx; subst hu hx; rw [← hv]; exact hrd.below hs.below
 refine ⟨.nil, ?_⟩
 refine sN 2 rfl (by rw [qg]; rfl) (qH _) ?_ (by kernel_rfl)
 refine ldN 2 rfl (qg _) ?_
 exact rt rfl
end
section
open Go.RowKit Go.Sx
def qaf (l : List UInt8) : List UInt8 := (l.set 0 (UInt8.ofNat ((l.getD 0 0).toNat - (l.getD 0 0).toNat % 8))).set 31 (UInt8.ofNat ((l.getD 31 0).toNat % 64 + 64))
theorem qc6 (l : List UInt8) : (qaf l).length = l.length := by simp [qaf]
def secB (n : Nat) : List UInt8 := qaf ((zE (qU n)).take 32)
def qct (n : Nat) : Nat := leN (secB n)
def qcu (n : Nat) : List UInt8 := (zE (qU n)).drop 32
theorem secB_len (n : Nat) : (secB n).length = 32 := by unfold secB; rw [qc6, List.length_take, Zj]; rfl
theorem qbv (n : Nat) : (qcu n).length = 32 := by unfold qcu; rw [List.length_drop, Zj]
theorem secN_lt (n : Nat) : qct n < 115792089237316195423570985008687907853269984665640564039457584007913129639936 := by
 have := qbB (secB n)
 rw [secB_len] at this
 exact this
def pubP (n : Nat) : Fin PP × Fin PP := qV qN fd gG (qct n)
def zo (n : Nat) : Nat := qab (pubP n)
theorem bytes_set (l : List UInt8) (i : Nat) (b : UInt8) : (Lib.byteCells l).set i (.int .u8 b.toNat) = Lib.byteCells (l.set i b) := by unfold Lib.byteCells; rw [List.map_set]
end
section
open Go.RowKit Go.Sx
def rndN (n : Nat) (bs : List UInt8) : Nat := resN (qcu n ++ bs)
def firP (n : Nat) (bs : List UInt8) : Fin PP × Fin PP := qV qN fd gG (rndN n bs)
def qb4 (n : Nat) (bs : List UInt8) : Nat := qab (firP n bs)
def sndN (n : Nat) (bs : List UInt8) : Nat := (Zv (qb4 n bs) (zo n) bs * qct n + rndN n bs) % L0
def qde (n : Nat) (bs : List UInt8) : List UInt8 := qU (qb4 n bs) ++ qU (sndN n bs)
theorem L0_lt : L0 < 115792089237316195423570985008687907853269984665640564039457584007913129639936 := by decide +kernel
theorem resN_lt (bs : List UInt8) : resN bs < 115792089237316195423570985008687907853269984665640564039457584007913129639936 := Nat.lt_trans (Nat.mod_lt _ (by decide +kernel)) L0_lt
end
section
open Go.RowKit Go.Sx
def ZV (D : List UInt8) : Nat := leN (D.take 32)
def Z4 (D : List UInt8) : Nat := leN (D.drop 32)
def qaK (p : Nat) (D : List UInt8) (bs : List UInt8) : Fin PP × Fin PP := QD qN fd (qV qN fd gG (Z4 D)) (negA (qV qN fd (qdn p) (Zv (ZV D) p bs)))
def qbx (p : Nat) (D : List UInt8) (bs : List UInt8) : Bool := (cof p).1 && decide (Z4 D < L0) && decide (qab (qaK p D bs) = ZV D)
theorem half0 (D : List UInt8) (h : D.length = 64) : (Lib.byteCells D).toArray.extract 0 (0 + 32) = k32 (ZV D) := by
 unfold ZV
 rw [← Zw _ (by rw [List.length_take, h]; rfl)]
 simp [Lib.byteCells, List.map_take]
theorem half1 (D : List UInt8) (h : D.length = 64) : (Lib.byteCells D).toArray.extract 32 (32 + 32) = k32 (Z4 D) := by
 unfold Z4
 rw [← Zw _ (by rw [List.length_drop, h])]
 apply Array.ext'
 simp only [List.extract_toArray, List.extract_eq_take_drop, Lib.byteCells, List.map_drop]
 exact List.take_of_length_le (by simp [h])
theorem sigF_lt (D : List UInt8) (h : D.length = 64) : ZV D < 115792089237316195423570985008687907853269984665640564039457584007913129639936 := by
 have := qbB (D.take 32)
 rw [List.length_take, h] at this; exact this
theorem sigS_lt (D : List UInt8) (h : D.length = 64) : Z4 D < 115792089237316195423570985008687907853269984665640564039457584007913129639936 := by
 have := qbB (D.drop 32)
 rw [List.length_drop, h] at this; exact this
theorem leN_go (k : Nat) : ∀ n, leN ((List.range k).map fun i => UInt8.ofNat (n / 256 ^ i % 256)) = n % 256 ^ k := by
 induction k with
 | zero => intro n; rw [Nat.pow_zero, Nat.mod_one]; rfl
 | succ k ih =>
  intro n
  rw [List.range_succ_eq_map, List.map_cons, List.map_map, leN]
  have e : ((fun i => UInt8.ofNat (n / 256 ^ i % 256)) ∘ Nat.succ) = fun i => UInt8.ofNat (n / 256 / 256 ^ i % 256) := by
   funext i
   show UInt8.ofNat (n / 256 ^ (i + 1) % 256) = _
   rw [Nat.pow_succ, Nat.mul_comm, ← Nat.div_div_eq_div_mul]
  rw [e, ih (n / 256), Nat.pow_succ, Nat.mul_comm (256 ^ k), Nat.mod_mul, UInt8.toNat_ofNat']
  simp
theorem qbd (n : Nat) (h : n < 115792089237316195423570985008687907853269984665640564039457584007913129639936) : leN (qU n) = n := by
 unfold qU
 rw [leN_go]; exact Nat.mod_eq_of_lt h
theorem le32_inj (a b : Nat) (ha : a < 115792089237316195423570985008687907853269984665640564039457584007913129639936) (hb : b < 115792089237316195423570985008687907853269984665640564039457584007913129639936) : qU a = qU b ↔ a = b := by
 have key := qbd
 constructor
 · intro h; rw [← key a ha, ← key b hb, h]
 · rintro rfl; rfl
theorem eq_k32 {C : Cx} {L : List Ent} {m n : Nat} {a b : Operand} {next : Value → List Ent → Prop} (hP : C.P = Tryz.prog) (hm : m < 115792089237316195423570985008687907853269984665640564039457584007913129639936) (hn : n < 115792089237316195423570985008687907853269984665640564039457584007913129639936) (go : next (.bool (decide (m = n))) L) :
 zY C (do eqGuard .eql 36 a b (.agg (k32 m)) (.agg (k32 n)); binOp .eql 36 (.agg (k32 m)) (.agg (k32 n))) L next := by
 rw [qaN, qaN]
 refine eqB (e := 5) (n := 32) (by rw [hP]; kernel_rfl) (by rw [hP]; kernel_rfl) (by rw [hP]; kernel_rfl) (by rw [hP]; kernel_rfl) (qC m) (qC n) ?_
 rw [show decide (qU m = qU n) = decide (m = n) from decide_eq_decide.2 (le32_inj m n hm hn)]
 exact go
theorem one_bool (b : Bool) : oneOf [.bool b] = .bool b := rfl
theorem right_any (p : Nat) (hp : p < 115792089237316195423570985008687907853269984665640564039457584007913129639936) (D : List UInt8) (hD : D.length = 64) (v : Value) (bs : List UInt8) (w : World) (h : Parts w v bs) (hn : bs.length ≤ 10000) :
 Calls Tryz.prog 84 ([.agg (k32 p), qcn D, v] : List Value).toArray w fun e w' => e = .returned (.bool (qbx p D bs)) ∧ Below w.heap.size w w' := by
 have hof := fun w => (g_of p hp w).mono (fun e w' ⟨x, y, z, b, h1, h2, h3⟩ => (⟨(x, y, z, b), h1, h2, h3⟩ : ∃ x : Nat × Nat × Nat × Bool, PtA x.1 x.2.1 x.2.2.1 x.2.2.2 (qdn p) ∧ e = Ending.returned (.tuple #[.agg (pt x.1 x.2.1 x.2.2.1 x.2.2.2), .bool (cof p).1]) ∧ Below w.heap.size w w'))
 have hF := sigF_lt D hD
 have hS := sigS_lt D hD
 have hls := fun w => kleast_any (Z4 D) hS w
 have hf0 := half0 D hD
 have hf1 := half1 D hD
 have hrb : qbx p D bs = ((cof p).1 && decide (Z4 D < L0) && decide (qab (qaK p D bs) = ZV D)) := rfl
 have hm1 := fun x y z b h w => pg (g_many x y z (Z4 D) b gG h hS w)
 have hm2 := fun x y z b h w => pg (g_many x y z (Zv (ZV D) p bs) b (qdn p) h (resN_lt _) w)
 have hmi := fun x1 y1 z1 b1 h1 x2 y2 z2 b2 h2 w => pg (g_minus x1 y1 z1 b1 (qV qN fd gG (Z4 D)) h1 x2 y2 z2 b2 (qV qN fd (qdn p) (Zv (ZV D) p bs)) h2 w)
 have hky := fun x y z b h w => g_key x y z b (qaK p D bs) h w
 have hkl := keyP_lt (qaK p D bs)
 rw [hrb]
 have hch : ∀ w' v', Rd w' v' (Lib.byteCells bs) → Calls Tryz.prog 121 ([.agg (k32 (ZV D)), .agg (k32 p), v'] : List Value).toArray w' fun e w'' => e = .returned (.agg (k32 (Zv (ZV D) p bs))) ∧ Below w'.heap.size w' w'' := fun w' v' hr => chal_any w' (ZV D) p v' bs hr (by omega)
 unfold qaK at hky hkl ⊢
 generalize ZV D = F at *
 generalize Z4 D = S at *
 generalize Zv F p bs = H at *
 generalize hA : qV qN fd gG S = A at *
 generalize hB : qV qN fd (qdn p) H = B at *
 generalize QD qN fd A (negA B) = Q at *
 generalize qdn p = P at *
 generalize (cof p).1 = ok at *
 refine qA qe Tryz.func84 rfl Tryz.ntmps84 rfl (St.start w) ?_
 intro b3 b4
 refine cutp (α := Nat × Nat) (fun _ => True) (fun x => ⟨[(2, v), (3, ptr b3), (4, ptr b4), (7, ptr x.1), (8, ptr x.2)], [cl b3 (k32 p) 36, cl x.1 (k32 F) 36, cl x.2 (k32 S) 36], []⟩) ?_ ?_
 · refine drs [dead, cl b4 (Lib.byteCells D).toArray 41] [9] (.t 0 (.t 1 (.t 2 (.t 3 (.t 4 (.t 5 (.b 6 7 (.n 7 (.n 8 (.n 9 .nil))) (.n 6 (.n 8 (.n 9 .nil)))))))))) qe qk (by kernel_rfl) (.dead (.cons .nil)) ?_
   refine ⟨.mk 0 32 64 rfl rfl rfl (by decide) (by decide) (by decide) (by simp) (.on (by decide) ?_)⟩
   refine ⟨by decide, ?_⟩
   refine ldP 1 rfl (d := k32 F) (qg _) hf0 ?_
   refine ⟨.mk 32 64 64 rfl rfl rfl (by decide) (by decide) (by decide) (by simp) (.on (by decide) ?_)⟩
   refine ⟨by decide, ?_⟩
   refine ldP 1 rfl (d := k32 S) (qg _) hf1 ?_
   refine ⟨?_, ?_⟩
   · intro b7
     refine ⟨.dead (.cons .nil), ?_⟩
     intro b8
     refine ⟨.dead (.cons .nil), ?_⟩
     refine sN 2 rfl (by rw [qg]; rfl) (qH _) ?_ (by kernel_rfl)
     refine ⟨.dead (.cons .nil), ?_⟩
     refine sN 3 rfl (by rw [qg]; rfl) (qH _) ?_ (by kernel_rfl)
     exact ⟨(b7, b8), trivial, ⟨rfl, rfl, rfl, rfl, rfl, trivial⟩, ⟨_, .refl _, .cons (.drop (.cons (.cons .nil)))⟩, rfl⟩
   · intro b8
     refine ⟨.dead (.cons .nil), ?_⟩
     intro b7
     refine ⟨.dead (.cons .nil), ?_⟩
     refine sN 3 rfl (by rw [qg]; rfl) (qH _) ?_ (by kernel_rfl)
     refine ⟨.dead (.cons .nil), ?_⟩
     refine sN 2 rfl (by rw [qg]; rfl) (qH _) ?_ (by kernel_rfl)
     exact ⟨(b7, b8), trivial, ⟨rfl, rfl, rfl, rfl, rfl, trivial⟩, ⟨[cl b3 (k32 p) 36, cl b8 (k32 S) 36, cl b7 (k32 F) 36], .cons _ (.swap _ _ _), .cons (.drop (.cons (.cons .nil)))⟩, rfl⟩
 · rintro ⟨b7, b8⟩ _
   refine ldN 0 rfl (qg _) ?_
   refine ce (fun w _ => hof w) (fun g hg => ?_)
   intro b9
   refine sN 3 rfl (by rw [qn]; rfl) (by rw [Array.all_toList]; exact Qx _ _ _ _) ?_ (by kernel_rfl)
   cases ok with
   | false =>
    refine cf rfl ?_
    refine cf rfl ?_
    refine cf rfl ?_
    refine ct rfl ?_
    refine ct rfl ?_
    exact rt rfl
   | true =>
    refine ct rfl ?_
    refine ldN 2 rfl (qg _) ?_
    refine ct rfl ?_
    refine cv (fun w => hls w) ?_
    refine ct rfl ?_
    refine cf rfl ?_
    cases hSL : decide (S < L0) with
    | false =>
     refine ct rfl ?_
     exact rt rfl
    | true =>
     refine cf rfl ?_
     refine cut (α := Nat) (fun _ => True) (fun b11 => ⟨[(2, v), (3, ptr b3), (7, ptr b7), (8, ptr b8), (9, ptr b9), (11, ptr b11)], [dead, cl b7 (k32 F) 36, cl b8 (k32 S) 36, cl b9 (pt g.1 g.2.1 g.2.2.1 g.2.2.2) 182, cl b11 (k32 H) 36], []⟩) ?_ ?_
     · refine drs [cl b3 (k32 p) 36, cl b7 (k32 F) 36] [6] (.t 0 (.t 1 (.t 2 (.b 3 5 (.b 4 5 (.n 5 (.n 6 .nil)) (.n 4 (.n 6 .nil))) (.n 3 (.n 4 (.n 6 .nil))))))) qe qk (by kernel_rfl) (.cons (.cons .nil)) ?_
       refine ldN 1 rfl (qg _) ?_
       refine ldN 0 rfl (qg _) ?_
       refine ⟨?_, ?_⟩
       · refine co (fun w' hs => concat_p (h.below hs.below) (by omega)) (fun r hr => ?_)
         refine ⟨.cons (.cons .nil), ?_⟩
         refine ⟨?_, ?_⟩
         · refine cvs (fun w' hs => hch w' _ (Rd.own hs 4 rfl hr)) ?_
           refine ⟨.cons (.cons .nil), ?_⟩
           intro b11
           refine ⟨.cons (.cons .nil), ?_⟩
           refine sN 5 rfl (by rw [qg]; rfl) (qH _) ?_ (by kernel_rfl)
           exact ⟨b11, trivial, ⟨rfl, rfl, rfl, rfl, rfl, rfl, trivial⟩, .dead (.cons (.cons (.cons (.drop (.cons .nil))))), rfl⟩
         · intro b11
           refine ⟨.cons (.cons .nil), ?_⟩
           refine cvs (fun w' hs => hch w' _ (Rd.own hs 4 rfl hr)) ?_
           refine ⟨.cons (.cons .nil), ?_⟩
           refine sN 5 rfl (by rw [qg]; rfl) (qH _) ?_ (by kernel_rfl)
           exact ⟨b11, trivial, ⟨rfl, rfl, rfl, rfl, rfl, rfl, trivial⟩, .dead (.cons (.cons (.cons (.drop (.cons .nil))))), rfl⟩
       · intro b11
         refine ⟨.cons (.cons .nil), ?_⟩
         refine co (fun w' hs => concat_p (h.below hs.below) (by omega)) (fun r hr => ?_)
         refine ⟨.cons (.cons .nil), ?_⟩
         refine cvs (fun w' hs => hch w' _ (Rd.own hs 5 rfl hr)) ?_
         refine ⟨.cons (.cons .nil), ?_⟩
         refine sN 4 rfl (by rw [qg]; rfl) (qH _) ?_ (by kernel_rfl)
         exact ⟨b11, trivial, ⟨rfl, rfl, rfl, rfl, rfl, rfl, trivial⟩, .dead (.cons (.cons (.cons (.cons .nil)))), rfl⟩
     · intro b11 _
       refine drs [dead, cl b7 (k32 F) 36, cl b8 (k32 S) 36, cl b9 (pt g.1 g.2.1 g.2.2.1 g.2.2.2) 182, cl b11 (k32 H) 36] [] (.t 1 (.t 3 (.t 4 (.t 8 (.n 0 (.n 2 (.n 5 (.n 6 (.n 7 (.n 9 (.n 10 .nil))))))))))) qe qk (by kernel_rfl) (.dead (.cons (.cons (.cons (.cons .nil))))) ?_
       have hK : ∀ L' : List Ent, Sub [dead, cl b7 (k32 F) 36, cl b8 (k32 S) 36, cl b9 (pt g.1 g.2.1 g.2.2.1 g.2.2.2) 182, cl b11 (k32 H) 36] ([dead, cl b7 (k32 F) 36, cl b8 (k32 S) 36, cl b9 (pt g.1 g.2.1 g.2.2.1 g.2.2.2) 182, cl b11 (k32 H) 36] ++ L') := fun L' => qc _
       refine ldN 2 rfl (qg _) ?_
       refine ldN 3 rfl (qn _ _ _ _) ?_
       refine ldN 4 rfl (qg _) ?_
       refine ldN 1 rfl (qg _) ?_
       refine ce (fun w _ => pg (g_gen w)) (fun q hq => ?_)
       refine ⟨hK [], ?_⟩
       refine ce (fun w _ => hm1 _ _ _ _ hq w) (fun q1 hq1 => ?_)
       refine ⟨hK [], ?_⟩
       refine ce (fun w _ => hm2 _ _ _ _ hg w) (fun q2 hq2 => ?_)
       refine ⟨hK [], ?_⟩
       refine ce (fun w _ => hmi _ _ _ _ hq1 _ _ _ _ hq2 w) (fun q3 hq3 => ?_)
       refine ⟨hK [], ?_⟩
       refine cv (fun w => hky _ _ _ _ hq3 w) ?_
       refine ⟨hK [], ?_⟩
       generalize qab Q = kq at *
       refine eq_k32 (m := kq) (n := F) rfl hkl hF ?_
       refine ⟨hK [], ?_⟩
       refine ⟨hK [], ?_⟩
       refine rt ?_
       rw [Bool.and_self, Bool.true_and]
       exact one_bool _
end
section
open Go.RowKit Go.Lib
theorem bd24L2 : Tryz.prog.built 36 [(0, .int .u8 237), (1, .int .u8 211), (2, .int .u8 245), (3, .int .u8 92), (4, .int .u8 26), (5, .int .u8 99), (6, .int .u8 18), (7, .int .u8 88), (8, .int .u8 214), (9, .int .u8 156), (10, .int .u8 247), (11, .int .u8 162), (12, .int .u8 222), (13, .int .u8 249), (14, .int .u8 222), (15, .int .u8 20), (16, .int .u8 0), (17, .int .u8 0), (18, .int .u8 0), (19, .int .u8 0), (20, .int .u8 0), (21, .int .u8 0), (22, .int .u8 0), (23, .int .u8 0), (24, .int .u8 0), (25, .int .u8 0), (26, .int .u8 0), (27, .int .u8 0), (28, .int .u8 0), (29, .int .u8 0), (30, .int .u8 0), (31, .int .u8 16)] = some (k32 L0) := by kernel_rfl
theorem rorder_any (w : World) : Calls Tryz.prog 188 #[] w fun e w' => e = .returned (.agg (k32 L0)) ∧ Below w.heap.size w w' := by
 go_enter Tryz.func188, Tryz.ntmps188
 repeat ((fail_if_success (with_reducible (show wpList _ _ _ _ _ _))); go_step)
 (refine wpList_step (fun K hK => ?_); go_simp; (try go_bits); refine hK _ _ ?_; clear hK K)
 refine wpList_nil ?_
 have M0 := Lib.hid (HasN.new w  (#[.int .u8 0, .int .u8 0, .int .u8 0, .int .u8 0, .int .u8 0, .int .u8 0, .int .u8 0, .int .u8 0, .int .u8 0, .int .u8 0, .int .u8 0, .int .u8 0, .int .u8 0, .int .u8 0, .int .u8 0, .int .u8 0, .int .u8 0, .int .u8 0, .int .u8 0, .int .u8 0, .int .u8 0, .int .u8 0, .int .u8 0, .int .u8 0, .int .u8 0, .int .u8 0, .int .u8 0, .int .u8 0, .int .u8 0, .int .u8 0, .int .u8 0, .int .u8 0] : Array Value) 36 32 (by kernel_rfl))
 have HB := Lib.hid (q8 w (.cells (#[.int .u8 0, .int .u8 0, .int .u8 0, .int .u8 0, .int .u8 0, .int .u8 0, .int .u8 0, .int .u8 0, .int .u8 0, .int .u8 0, .int .u8 0, .int .u8 0, .int .u8 0, .int .u8 0, .int .u8 0, .int .u8 0, .int .u8 0, .int .u8 0, .int .u8 0, .int .u8 0, .int .u8 0, .int .u8 0, .int .u8 0, .int .u8 0, .int .u8 0, .int .u8 0, .int .u8 0, .int .u8 0, .int .u8 0, .int .u8 0, .int .u8 0, .int .u8 0] : Array Value) 36))
 obtain ⟨yw1, hwyw1⟩ : ∃ ww, ww = (w.alloc (.cells (#[.int .u8 0, .int .u8 0, .int .u8 0, .int .u8 0, .int .u8 0, .int .u8 0, .int .u8 0, .int .u8 0, .int .u8 0, .int .u8 0, .int .u8 0, .int .u8 0, .int .u8 0, .int .u8 0, .int .u8 0, .int .u8 0, .int .u8 0, .int .u8 0, .int .u8 0, .int .u8 0, .int .u8 0, .int .u8 0, .int .u8 0, .int .u8 0, .int .u8 0, .int .u8 0, .int .u8 0, .int .u8 0, .int .u8 0, .int .u8 0, .int .u8 0, .int .u8 0] : Array Value) 36)) := ⟨_, rfl⟩
 rw [← hwyw1] at M0 HB ⊢
 clear hwyw1
 repeat ((fail_if_success (with_reducible (show wpList _ _ _ _ _ _))); go_step)
 refine Qw (by rfl) 36 _ rfl _ (by rfl) (k32 L0) (bd24L2) 1 rfl ?_
 (try simp only [Act.put, sI, sS, sZ])
 first | (obtain ⟨Zq, hZ, mZ⟩ := M0.out) | (obtain ⟨Zq, hZ, mZ⟩ := M0.out.toN (qg ..))
 refine ql (by rfl) 36 _ _ rfl rfl (w.heap.size) (k32 L0) rfl rfl 36 Zq mZ (by rw [qg]; kernel_rfl) (hZ.trans (qg ..).symm) (qo _ _ _) ?_
 intro yw2 hw2
 replace M0 := Lib.hid (mZ.setRow (k32 L0))
 replace HB := Lib.hid (below_setRow HB.out (w.heap.size) (k32 L0) (by omega))
 rw [← hw2] at M0 HB; clear mZ hZ hw2
 refine wpList_nil ?_
 go_wp2_with fail
 exact bodyPost_ret (v := .agg (k32 L0)) (results_cell_row (t := 36) (by rfl) _ _ (w.heap.size) _ _ _ rfl M0.out Tryz.underlying36 rfl (by rw [qg]; kernel_rfl)) rfl ⟨rfl, HB.out⟩
def Ints (w : World) (b len : Nat) (g : Nat → Int) : Prop := b < w.heap.size ∧ ∀ j, j < len → w.cell? ⟨b, j, none⟩ = some (.int .i64 (g j))
section ints
variable {w w' : World} {b len : Nat} {g : Nat → Int}
end ints
def i34 (n : Nat) : Array Value := row .i64 34 (dg 256 n)
def z131 : Array Value := (#[.int .i64 0, .int .i64 0, .int .i64 0, .int .i64 0, .int .i64 0, .int .i64 0, .int .i64 0, .int .i64 0, .int .i64 0, .int .i64 0, .int .i64 0, .int .i64 0, .int .i64 0, .int .i64 0, .int .i64 0, .int .i64 0, .int .i64 0, .int .i64 0, .int .i64 0, .int .i64 0, .int .i64 0, .int .i64 0, .int .i64 0, .int .i64 0, .int .i64 0, .int .i64 0, .int .i64 0, .int .i64 0, .int .i64 0, .int .i64 0, .int .i64 0, .int .i64 0, .int .i64 0, .int .i64 0] : Array Value)
theorem z131i : z131 = i34 0 := by kernel_rfl
def upf (v k : Nat) : Nat → Int := fun j => if k < j then dg 256 v (j - 1) else dg 256 v j
theorem upf_33 (v : Nat) : row .i64 34 (upf v 33) = i34 v := q7 _ _ _ _ fun j hj => by unfold upf; rw [if_neg (by omega)]
theorem upf_upd (v k : Nat) (x : Int) (h : x = dg 256 v k) : upd (upf v (k + 1)) (k + 1) x = upf v k := by
 funext j
 unfold upd upf
 by_cases e : j = k + 1
 · rw [if_pos e, if_pos (by omega), h, e]; rfl
 · rw [if_neg e]
   by_cases e2 : k + 1 < j
   · rw [if_pos e2, if_pos (by omega)]
   · rw [if_neg e2, if_neg (by omega)]
theorem upf_at (v k : Nat) : upf v (k + 1) k = dg 256 v k := by unfold upf; rw [if_neg (by omega)]
theorem upf_0 (v c : Nat) (hc : c < 256) : row .i64 34 (upd (upf v 0) 0 (c : Int)) = i34 (256 * v + c) := by
 refine q7 _ _ _ _ fun j hj => ?_
 unfold upd upf
 by_cases e : j = 0
 · subst e; rw [if_pos rfl]; unfold dg; rw [Nat.pow_zero, Nat.div_one]; omega
 · rw [if_neg e, if_pos (by omega)]
   obtain ⟨i, rfl⟩ : ∃ i, j = i + 1 := ⟨j - 1, by omega⟩
   unfold dg
   rw [Nat.add_sub_cancel, Nat.pow_succ, Nat.mul_comm (256 ^ i) 256, ← Nat.div_div_eq_div_mul, show (256 * v + c) / 256 = v by omega]
def qa8 (m n k : Nat) : Nat → Int := fun j => if j < k then dg 256 m j else dg 256 n j
theorem mixi_at (m n k : Nat) : qa8 m n k k = dg 256 n k := by unfold qa8; rw [if_neg (by omega)]
theorem qa7 (m n k : Nat) (x : Int) (h : x = dg 256 m k) : upd (qa8 m n k) k x = qa8 m n (k + 1) := by
 funext j
 unfold upd qa8
 by_cases e : j = k
 · rw [if_pos e, if_pos (by omega), h, e]
 · rw [if_neg e]
   by_cases e2 : j < k
   · rw [if_pos e2, if_pos (by omega)]
   · rw [if_neg e2, if_neg (by omega)]
theorem mixi_0 (m n : Nat) : row .i64 34 (qa8 m n 0) = i34 n := q7 _ _ _ _ (fun j hj => by unfold qa8; rw [if_neg (by omega)])
theorem mixi_34 (m n : Nat) : row .i64 34 (qa8 m n 34) = i34 m := q7 _ _ _ _ (fun j hj => by unfold qa8; rw [if_pos hj])
theorem sub8 (d n l k c x y : Nat) (h : n / 256 ^ k = d / 256 ^ k + l / 256 ^ k + c) (hc : c < 2) (hx : n / 256 ^ k % 256 = x) (hy : l / 256 ^ k % 256 = y) :
 (x < y + c → d / 256 ^ k % 256 = x + 256 - y - c ∧ n / 256 ^ (k + 1) = d / 256 ^ (k + 1) + l / 256 ^ (k + 1) + 1) ∧ (y + c ≤ x → d / 256 ^ k % 256 = x - y - c ∧ n / 256 ^ (k + 1) = d / 256 ^ (k + 1) + l / 256 ^ (k + 1) + 0) := by
 rw [Nat.pow_succ, ← Nat.div_div_eq_div_mul, ← Nat.div_div_eq_div_mul, ← Nat.div_div_eq_div_mul]
 generalize n / 256 ^ k = N at *
 generalize d / 256 ^ k = D at *
 generalize l / 256 ^ k = L at *
 omega
theorem top_lt (n l k : Nat) (h : ∀ j, k < j → j < 34 → dg 256 n j = dg 256 l j) (hk : k < 34) (hn : n < 256 ^ 34) (hl : l < 256 ^ 34) (hne : dg 256 n k ≠ dg 256 l k) : decide (dg 256 n k < dg 256 l k) = decide (n < l) := by
 have key : ∀ i, i ≤ 33 - k → n / 256 ^ (34 - i) = l / 256 ^ (34 - i) := by
  intro i
  induction i with
  | zero => intro _; rw [Nat.sub_zero, Nat.div_eq_of_lt hn, Nat.div_eq_of_lt hl]
  | succ i ih =>
   intro hi
   have h1 := ih (by omega)
   have h2 := h (34 - (i + 1)) (by omega) (by omega)
   unfold dg at h2
   rw [show 34 - i = 34 - (i + 1) + 1 by omega, Nat.pow_succ, ← Nat.div_div_eq_div_mul, ← Nat.div_div_eq_div_mul] at h1
   omega
 have h1 := key (33 - k) (Nat.le_refl _)
 rw [show 34 - (33 - k) = k + 1 by omega, Nat.pow_succ, ← Nat.div_div_eq_div_mul, ← Nat.div_div_eq_div_mul] at h1
 unfold dg at hne ⊢
 generalize hp : 256 ^ k = p at *
 by_cases h0 : n < l
 · have h3 : n / p ≤ l / p := Nat.div_le_div_right (by omega)
   rw [decide_eq_true h0, decide_eq_true (by omega)]
 · have h3 : l / p ≤ n / p := Nat.div_le_div_right (by omega)
   rw [decide_eq_false h0, decide_eq_false (by omega)]
theorem top_eq (n l : Nat) (h : ∀ j, j < 34 → dg 256 n j = dg 256 l j) (hn : n < 256 ^ 34) (hl : l < 256 ^ 34) : n = l := by
 have key : ∀ i, i ≤ 34 → n / 256 ^ (34 - i) = l / 256 ^ (34 - i) := by
  intro i
  induction i with
  | zero => intro _; rw [Nat.sub_zero, Nat.div_eq_of_lt hn, Nat.div_eq_of_lt hl]
  | succ i ih =>
   intro hi
   have h1 := ih (by omega)
   have h2 := h (34 - (i + 1)) (by omega)
   unfold dg at h2
   rw [show 34 - i = 34 - (i + 1) + 1 by omega, Nat.pow_succ, ← Nat.div_div_eq_div_mul, ← Nat.div_div_eq_div_mul] at h1
   omega
 have := key 34 (Nat.le_refl _)
 rwa [Nat.sub_self, Nat.pow_zero, Nat.div_one, Nat.div_one] at this
theorem L0_val : L0 = 7237005577332262213973186563042994240857116359379907606001950938285454250989 := rfl
theorem p256_34 : (256 : Nat) ^ 34 = 7588550360256754183279148073529370729071901715047420004889892225542594864082845696 := by decide +kernel
theorem dg8 (n j : Nat) : 0 ≤ dg 256 n j ∧ dg 256 n j < 256 := by unfold dg; omega
theorem L0_top (j : Nat) (h : 32 ≤ j) : dg 256 L0 j = 0 := by
 unfold dg
 rw [Nat.div_eq_of_lt (Nat.lt_of_lt_of_le (show L0 < 256 ^ 32 by decide +kernel) (Nat.pow_le_pow_right (by decide) h))]; rfl
end
section
open Go.RowKit Go.Sx
def IntsA (w : World) (a : Option Addr) (len : Nat) (g : Nat → Int) : Prop := len = 0 ∨ ∃ b, a = some ⟨b, 0, none⟩ ∧ Ints w b len g
theorem down_step (N m : Nat) : N / 256 ^ (m + 1) * 256 + N / 256 ^ m % 256 = N / 256 ^ m := by
 rw [Nat.pow_succ, ← Nat.div_div_eq_div_mul]; omega
abbrev ptq (b : Nat) : Value := .pointer (some ⟨b, 0, none⟩)
theorem k32_os (n : Nat) : (k32 n).toList.all (·.oneCell') = true := by unfold k32 row; exact List.all_eq_true.2 fun v hv => Zl _ _ _ v hv
theorem adq (i : Nat) : nad 0 (nmu (Int.toNat (i : Int)) 1) = i := by rw [qw, qu, Nat.zero_add, Nat.mul_one, Int.toNat_natCast]
theorem rgq (kd : IntKind) (n : Nat) (f : Nat → Int) (i : Nat) (h : i < n) : (row kd n f)[nad 0 (nmu (Int.toNat (i : Int)) 1)]? = some (.int kd (f i)) := by rw [adq]; exact Q5 _ _ _ _ h
theorem rzq (kd : IntKind) (n : Nat) (f : Nat → Int) (i : Nat) (h : i < n) : nad 0 (nmu (Int.toNat (i : Int)) 1) < (row kd n f).size := by rw [adq, Qc]; exact h
theorem rsq (kd : IntKind) (n : Nat) (f g : Nat → Int) (i : Nat) (x : Int) (h : upd f i x = g) : (row kd n f).setIfInBounds (nad 0 (nmu (Int.toNat (i : Int)) 1)) (.int kd x) = row kd n g := by rw [adq, qb7, h]
abbrev qdd : Array Value := #[.int .u8 0, .int .u8 0, .int .u8 0, .int .u8 0, .int .u8 0, .int .u8 0, .int .u8 0, .int .u8 0, .int .u8 0, .int .u8 0, .int .u8 0, .int .u8 0, .int .u8 0, .int .u8 0, .int .u8 0, .int .u8 0, .int .u8 0, .int .u8 0, .int .u8 0, .int .u8 0, .int .u8 0, .int .u8 0, .int .u8 0, .int .u8 0, .int .u8 0, .int .u8 0, .int .u8 0, .int .u8 0, .int .u8 0, .int .u8 0, .int .u8 0, .int .u8 0]
theorem rest_any (a : Option Addr) (len cap N : Nat) (hlen : len ≤ 1000) (hN : N < 256 ^ len) (w : World) (hI : IntsA w a len (dg 256 N)) :
 Calls Tryz.prog 133 #[.slice a len cap] w fun e w' => e = .returned (.agg (k32 (N % L0))) ∧ Below w.heap.size w w' := by
 refine qA qe Tryz.func133 rfl Tryz.ntmps133 rfl (St.start w) (vs := [.slice a len cap]) ?_
 intro b2
 refine cv rorder_any ?_
 intro b3
 refine sN 1 rfl (by rw [qg]; rfl) (k32_os _) ?_ (by kernel_rfl)
 intro b4
 refine .as ((len : Int) - 1) (by omega) (by simp only [mn]; omega) (by simp only [mx]; omega) ?_
 have h0 : i34 0 = i34 (N / 256 ^ len % L0) := by rw [Nat.div_eq_of_lt hN, Nat.zero_mod]
 refine lp qe (fun m : Nat => m ≤ len) (fun m => ⟨[(0, .slice a len cap), (2, ptq b2), (3, ptq b3), (4, ptq b4), (5, .int .i64 ((m : Int) - 1))], [cl b2 qdd 36, cl b3 (k32 L0) 36, cl b4 (i34 (N / 256 ^ m % L0)) 264], []⟩) (fun m => m) len (Nat.le_refl _) (by rw [← h0, ← z131i]; exact ⟨⟨rfl, rfl, rfl, rfl, rfl, trivial⟩, .cons (.cons (.cons .nil)), rfl⟩) ?_
 intro m hm
 refine cd (fun h => ?_) (fun h => ?_)
 · obtain ⟨i, rfl⟩ : ∃ i, m = i + 1 := ⟨m - 1, by omega⟩
   rcases hI with h1 | ⟨b, rfl, hIb⟩
   · omega
   have hcell := hIb.2 i (by omega)
   have hbl := hIb.1
   have hds := down_step N i
   obtain ⟨c, hc⟩ : ∃ c, N / 256 ^ i % 256 = c := ⟨_, rfl⟩
   have lc : c < 256 := by rw [← hc]; exact Nat.mod_lt _ (by decide)
   rw [Qf, hc] at hcell
   rw [hc] at hds
   have hTv : N / 256 ^ (i + 1) % L0 < L0 := Nat.mod_lt _ (by decide)
   have hcong : (256 * (N / 256 ^ (i + 1) % L0) + c) % L0 = N / 256 ^ i % L0 := by
    rw [← hds, Nat.add_mod, Nat.mul_mod, Nat.mod_mod, ← Nat.mul_mod, ← Nat.add_mod, Nat.mul_comm]
   generalize N / 256 ^ (i + 1) % L0 = V at hTv hcong ⊢
   generalize hR : N / 256 ^ i % L0 = R at hcong
   rw [show ((i + 1 : Nat) : Int) - 1 = (i : Int) by omega]
   refine lp qe (fun s : Nat => s ≤ 33) (fun s => ⟨[(0, .slice (some ⟨b, 0, none⟩) len cap), (2, ptq b2), (3, ptq b3), (4, ptq b4), (5, .int .i64 (i : Int)), (6, .int .i64 (s : Int))], [cl b2 qdd 36, cl b3 (k32 L0) 36, cl b4 (row .i64 34 (upf V s)) 264], []⟩) (fun s => s) 33 (Nat.le_refl _) (by rw [upf_33]; exact ⟨⟨rfl, rfl, rfl, rfl, rfl, rfl, trivial⟩, .cons (.cons (.cons .nil)), rfl⟩) ?_
   intro s hs
   refine cd (fun h => ?_) (fun h => ?_)
   · obtain ⟨t, rfl⟩ : ∃ t, s = t + 1 := ⟨s - 1, by omega⟩
     refine .as ((t : Int)) (by omega) (by simp only [mn]; omega) (by simp only [mx]; omega) ?_
     refine ⟨by omega, by omega, ?_⟩
     refine ld1 2 rfl (rgq .i64 34 _ t (by omega)) ?_
     refine ⟨by omega, by omega, ?_⟩
     refine s1e 2 _ rfl (rzq _ _ _ _ (by omega)) (rsq .i64 34 _ (upf V t) (t + 1) _ (upf_upd V t _ (upf_at V t))) ?_
     refine .as ((t : Int)) (by omega) (by simp only [mn]; omega) (by simp only [mx]; omega) ?_
     exact ⟨t, by omega, by omega, ⟨⟨rfl, rfl, rfl, rfl, rfl, rfl, trivial⟩, .cons (.cons (.cons .nil)), rfl⟩⟩
   · obtain rfl : s = 0 := by omega
     refine ⟨by omega, by omega, ?_⟩
     refine ldo (by rw [adq]; exact hcell) hbl ?_
     refine ⟨by decide, by decide, ?_⟩
     refine s1e 2 (i34 (256 * V + c)) rfl (by show 0 < (row .i64 34 (upf V 0)).size; rw [Qc]; decide) (by show (row .i64 34 (upf V 0)).setIfInBounds 0 (.int .i64 (c : Int)) = _; rw [qb7]; exact upf_0 V c lc) ?_
     refine lpe qe 4 (β := Unit) (fun _ => True) (fun _ => ⟨[(0, .slice (some ⟨b, 0, none⟩) len cap), (2, ptq b2), (3, ptq b3), (4, ptq b4), (5, .int .i64 (i : Int))], [cl b2 qdd 36, cl b3 (k32 L0) 36, cl b4 (i34 R) 264], []⟩) (α := Nat) (fun X => X % L0 = R ∧ X < 256 * L0) (fun X => ⟨[(0, .slice (some ⟨b, 0, none⟩) len cap), (2, ptq b2), (3, ptq b3), (4, ptq b4), (5, .int .i64 (i : Int))], [cl b2 qdd 36, cl b3 (k32 L0) 36, cl b4 (i34 X) 264], []⟩) (fun X => X / L0) (256 * V + c) ⟨hcong, by omega⟩ ⟨⟨rfl, rfl, rfl, rfl, rfl, trivial⟩, .cons (.cons (.cons .nil)), rfl⟩ ?_ ?_
     · rintro X ⟨hX1, hX2⟩
       have hXb : X < 256 ^ 34 := by rw [p256_34]; rw [L0_val] at hX2; omega
       have hLb : L0 < 256 ^ 34 := by rw [p256_34, L0_val]; omega
       refine lpe qe 6 (β := Unit) (fun _ => True) (fun _ => ⟨[(0, .slice (some ⟨b, 0, none⟩) len cap), (2, ptq b2), (3, ptq b3), (4, ptq b4), (5, .int .i64 (i : Int)), (7, .bool (decide (X < L0)))], [cl b2 qdd 36, cl b3 (k32 L0) 36, cl b4 (i34 X) 264], []⟩) (α := Nat) (fun s => s ≤ 34 ∧ ∀ j, s ≤ j → j < 34 → dg 256 X j = dg 256 L0 j) (fun s => ⟨[(0, .slice (some ⟨b, 0, none⟩) len cap), (2, ptq b2), (3, ptq b3), (4, ptq b4), (5, .int .i64 (i : Int)), (7, .bool false), (8, .int .i64 ((s : Int) - 1))], [cl b2 qdd 36, cl b3 (k32 L0) 36, cl b4 (i34 X) 264], []⟩) (fun s => s) 34 ⟨Nat.le_refl _, fun j h1 h2 => by omega⟩ ⟨⟨rfl, rfl, rfl, rfl, rfl, rfl, rfl, trivial⟩, .cons (.cons (.cons .nil)), rfl⟩ ?_ ?_
       · rintro s ⟨hs, hsm⟩
         refine cd (fun h => ?_) (fun h => ?_)
         · obtain ⟨j, rfl⟩ : ∃ j, s = j + 1 := ⟨s - 1, by omega⟩
           rw [show ((j + 1 : Nat) : Int) - 1 = (j : Int) by omega]
           have fin : ∀ y : Int, dg 256 L0 j = y → dg 256 X j ≠ y → decide (dg 256 X j < y) = decide (X < L0) := fun y hy hne => by
            rw [← hy] at hne ⊢; exact top_lt X L0 j (fun q h1 h2 => hsm q (by omega) h2) (by omega) hXb hLb hne
           have go : ∀ y : Int, dg 256 L0 j = y → dg 256 X j = y → ∀ q, j ≤ q → q < 34 → dg 256 X q = dg 256 L0 q := fun y hy he q h1 h2 => by
            by_cases e : q = j
            · rw [e, he, hy]
            · exact hsm q (by omega) h2
           have dl := dg8 L0 j
           refine cd (fun h32 => ?_) (fun h32 => ?_)
           · refine ⟨by omega, by omega, ?_⟩
             refine ld1 1 rfl (rgq .u8 32 (dg 256 L0) j (by omega)) ?_
             refine .same (by simp only [mn]; omega) (by simp only [mx]; omega) ?_
             refine ⟨by omega, by omega, ?_⟩
             refine ld1 2 rfl (rgq .i64 34 (dg 256 X) j (by omega)) ?_
             refine cne (fun hne => ?_) (fun he => ?_)
             · refine ⟨by omega, by omega, ?_⟩
               refine ld1 2 rfl (rgq .i64 34 (dg 256 X) j (by omega)) ?_
               exact ⟨(), trivial, ⟨rfl, rfl, rfl, rfl, rfl, congrArg (fun b => some (Value.bool b)) (fin _ rfl hne), trivial⟩, .cons (.cons (.cons .nil)), rfl⟩
             · refine .as ((j : Int) - 1) (by omega) (by simp only [mn]; omega) (by simp only [mx]; omega) ?_
               exact ⟨j, ⟨by omega, go _ rfl he⟩, by omega, ⟨⟨rfl, rfl, rfl, rfl, rfl, rfl, rfl, trivial⟩, .cons (.cons (.cons .nil)), rfl⟩⟩
           · have hy0 := L0_top j (by omega)
             refine ⟨by omega, by omega, ?_⟩
             refine ld1 2 rfl (rgq .i64 34 (dg 256 X) j (by omega)) ?_
             refine cne (fun hne => ?_) (fun he => ?_)
             · refine ⟨by omega, by omega, ?_⟩
               refine ld1 2 rfl (rgq .i64 34 (dg 256 X) j (by omega)) ?_
               exact ⟨(), trivial, ⟨rfl, rfl, rfl, rfl, rfl, congrArg (fun b => some (Value.bool b)) (fin _ hy0 hne), trivial⟩, .cons (.cons (.cons .nil)), rfl⟩
             · refine .as ((j : Int) - 1) (by omega) (by simp only [mn]; omega) (by simp only [mx]; omega) ?_
               exact ⟨j, ⟨by omega, go _ hy0 he⟩, by omega, ⟨⟨rfl, rfl, rfl, rfl, rfl, rfl, rfl, trivial⟩, .cons (.cons (.cons .nil)), rfl⟩⟩
         · obtain rfl : s = 0 := by omega
           have hfin : false = decide (X < L0) := by rw [top_eq X L0 (fun j hj => hsm j (Nat.zero_le _) hj) hXb hLb]; exact (decide_eq_false (Nat.lt_irrefl _)).symm
           exact ⟨(), trivial, ⟨rfl, rfl, rfl, rfl, rfl, congrArg (fun b => some (Value.bool b)) hfin, trivial⟩, .cons (.cons (.cons .nil)), rfl⟩
       · intro _ _
         refine cd (fun hl => ?_) (fun hl => ?_)
         · have hXR : X = R := by rw [← hX1]; exact (Nat.mod_eq_of_lt hl).symm
           subst hXR
           exact ⟨(), trivial, ⟨⟨rfl, rfl, rfl, rfl, rfl, trivial⟩, .cons (.cons (.cons .nil)), rfl⟩⟩
         · obtain ⟨Y, hY⟩ : ∃ Y, X = Y + L0 := ⟨X - L0, by omega⟩
           have hY1 : Y % L0 = R := by rw [← hX1, hY, Nat.add_mod_right]
           have hY2 : Y < 256 * L0 := by omega
           have hY3 : Y / L0 < X / L0 := by rw [hY, Nat.add_div_right _ (by decide)]; omega
           have H0 : X / 256 ^ 0 = Y / 256 ^ 0 + L0 / 256 ^ 0 + 0 := by rw [Nat.pow_zero, Nat.div_one, Nat.div_one, Nat.div_one]; omega
           refine lp qe (fun x : Nat × Nat => x.1 ≤ 34 ∧ x.2 < 2 ∧ X / 256 ^ x.1 = Y / 256 ^ x.1 + L0 / 256 ^ x.1 + x.2) (fun x => ⟨[(0, .slice (some ⟨b, 0, none⟩) len cap), (2, ptq b2), (3, ptq b3), (4, ptq b4), (5, .int .i64 (i : Int)), (10, .int .i64 (x.2 : Int)), (11, .int .i64 (x.1 : Int))], [cl b2 qdd 36, cl b3 (k32 L0) 36, cl b4 (row .i64 34 (qa8 Y X x.1)) 264], []⟩) (fun x => 34 - x.1) (0, 0) ⟨Nat.zero_le _, by decide, H0⟩ (by rw [mixi_0]; exact ⟨⟨rfl, rfl, rfl, rfl, rfl, rfl, rfl, trivial⟩, .cons (.cons (.cons .nil)), rfl⟩) ?_
           rintro ⟨k, cc⟩ ⟨hk, hcc, h0⟩
           dsimp only at hk hcc h0 ⊢
           refine cd (fun h => ?_) (fun h => ?_)
           · have hlt : k < 34 := by omega
             obtain ⟨x, hx⟩ : ∃ x, X / 256 ^ k % 256 = x := ⟨_, rfl⟩
             obtain ⟨y, hy⟩ : ∃ y, L0 / 256 ^ k % 256 = y := ⟨_, rfl⟩
             have lx : x < 256 := by rw [← hx]; exact Nat.mod_lt _ (by decide)
             have ly : y < 256 := by rw [← hy]; exact Nat.mod_lt _ (by decide)
             have lz : Y / 256 ^ k % 256 < 256 := Nat.mod_lt _ (by decide)
             refine ⟨by omega, by omega, ?_⟩
             refine ld1 2 rfl (v := .int .i64 (x : Int)) (by rw [rgq _ _ _ _ hlt, mixi_at, Qf, hx]) ?_
             refine .same (by simp only [mn]; omega) (by simp only [mx]; omega) ?_
             refine cd (fun h32 => ?_) (fun h32 => ?_)
             · refine ⟨by omega, by omega, ?_⟩
               refine ld1 1 rfl (v := .int .u8 (y : Int)) (by unfold k32; rw [rgq _ _ _ _ (by omega), Qf, hy]) ?_
               refine .same (by simp only [mn]; omega) (by simp only [mx]; omega) ?_
               refine .same (by simp only [mn]; omega) (by simp only [mx]; omega) ?_
               by_cases hng : x < y + cc
               · skip
                 obtain ⟨s1, s2⟩ := (sub8 Y X L0 k cc x y h0 hcc hx hy).1 (by omega)
                 refine cd (fun hn => ?_) (fun hn => absurd (by omega) hn)
                 refine .as ((Y / 256 ^ k % 256 : Nat) : Int) (by omega) (by simp only [mn]; omega) (by simp only [mx]; omega) ?_
                 refine ⟨by omega, by omega, ?_⟩
                 refine s1e 2 _ rfl (rzq _ _ _ _ hlt) (rsq .i64 34 _ (qa8 Y X (k + 1)) k _ (qa7 Y X k _ rfl)) ?_
                 refine .as (((k + 1 : Nat) : Int)) (by omega) (by simp only [mn]; omega) (by simp only [mx]; omega) ?_
                 exact ⟨(k + 1, 1), ⟨by omega, by show (_ : Nat) < 2; omega, s2⟩, by omega, ⟨⟨rfl, rfl, rfl, rfl, rfl, rfl, rfl, trivial⟩, .cons (.cons (.cons .nil)), rfl⟩⟩
               · skip
                 obtain ⟨s1, s2⟩ := (sub8 Y X L0 k cc x y h0 hcc hx hy).2 (by omega)
                 refine cd (fun hn => absurd hn (by omega)) (fun hn => ?_)
                 rw [show (x : Int) - (cc : Int) - (y : Int) = ((Y / 256 ^ k % 256 : Nat) : Int) by omega]
                 refine ⟨by omega, by omega, ?_⟩
                 refine s1e 2 _ rfl (rzq _ _ _ _ hlt) (rsq .i64 34 _ (qa8 Y X (k + 1)) k _ (qa7 Y X k _ rfl)) ?_
                 refine .as (((k + 1 : Nat) : Int)) (by omega) (by simp only [mn]; omega) (by simp only [mx]; omega) ?_
                 exact ⟨(k + 1, 0), ⟨by omega, by show (_ : Nat) < 2; omega, s2⟩, by omega, ⟨⟨rfl, rfl, rfl, rfl, rfl, rfl, rfl, trivial⟩, .cons (.cons (.cons .nil)), rfl⟩⟩
             · have hy0 : L0 / 256 ^ k % 256 = 0 := by have := L0_top k (by omega); rw [Qf] at this; omega
               by_cases hng : x < 0 + cc
               · skip
                 obtain ⟨s1, s2⟩ := (sub8 Y X L0 k cc x 0 h0 hcc hx hy0).1 (by omega)
                 refine cd (fun hn => ?_) (fun hn => absurd (by omega) hn)
                 refine .as ((Y / 256 ^ k % 256 : Nat) : Int) (by omega) (by simp only [mn]; omega) (by simp only [mx]; omega) ?_
                 refine ⟨by omega, by omega, ?_⟩
                 refine s1e 2 _ rfl (rzq _ _ _ _ hlt) (rsq .i64 34 _ (qa8 Y X (k + 1)) k _ (qa7 Y X k _ rfl)) ?_
                 refine .as (((k + 1 : Nat) : Int)) (by omega) (by simp only [mn]; omega) (by simp only [mx]; omega) ?_
                 exact ⟨(k + 1, 1), ⟨by omega, by show (_ : Nat) < 2; omega, s2⟩, by omega, ⟨⟨rfl, rfl, rfl, rfl, rfl, rfl, rfl, trivial⟩, .cons (.cons (.cons .nil)), rfl⟩⟩
               · skip
                 obtain ⟨s1, s2⟩ := (sub8 Y X L0 k cc x 0 h0 hcc hx hy0).2 (by omega)
                 refine cd (fun hn => absurd hn (by omega)) (fun hn => ?_)
                 rw [show (x : Int) - (cc : Int) = ((Y / 256 ^ k % 256 : Nat) : Int) by omega]
                 refine ⟨by omega, by omega, ?_⟩
                 refine s1e 2 _ rfl (rzq _ _ _ _ hlt) (rsq .i64 34 _ (qa8 Y X (k + 1)) k _ (qa7 Y X k _ rfl)) ?_
                 refine .as (((k + 1 : Nat) : Int)) (by omega) (by simp only [mn]; omega) (by simp only [mx]; omega) ?_
                 exact ⟨(k + 1, 0), ⟨by omega, by show (_ : Nat) < 2; omega, s2⟩, by omega, ⟨⟨rfl, rfl, rfl, rfl, rfl, rfl, rfl, trivial⟩, .cons (.cons (.cons .nil)), rfl⟩⟩
           · obtain rfl : k = 34 := by omega
             rw [mixi_34]
             exact ⟨Y, ⟨hY1, hY2⟩, hY3, ⟨⟨rfl, rfl, rfl, rfl, rfl, trivial⟩, .cons (.cons (.cons .nil)), rfl⟩⟩
     · intro _ _
       refine .as ((i : Int) - 1) (by omega) (by simp only [mn]; omega) (by simp only [mx]; omega) ?_
       rw [← hR]
       exact ⟨i, by omega, by omega, ⟨⟨rfl, rfl, rfl, rfl, rfl, trivial⟩, .cons (.cons (.cons .nil)), rfl⟩⟩
 · obtain rfl : m = 0 := by omega
   rw [Nat.pow_zero, Nat.div_one]
   generalize N % L0 = r
   intro b13
   have hz : qdd = row .u8 32 (qb3 r 0) := (show qdd = k32 0 by kernel_rfl).trans (mixb_0 r).symm
   refine lp qe (fun k : Nat => k ≤ 32) (fun k => ⟨[(2, ptq b2), (4, ptq b4), (13, ptq b13), (14, .int .i64 (k : Int))], [cl b2 qdd 36, dead, cl b4 (i34 r) 264, cl b13 (row .u8 32 (qb3 r k)) 36], []⟩) (fun k => 32 - k) 0 (Nat.zero_le _) (by rw [← hz]; exact ⟨⟨rfl, rfl, rfl, rfl, trivial⟩, .cons (.dead (.cons (.cons .nil))), rfl⟩) ?_
   intro k hk
   refine cd (fun h => ?_) (fun h => ?_)
   · have hlt : k < 32 := by omega
     have hb := dg8 r k
     refine ⟨by omega, by omega, ?_⟩
     refine ld1 2 rfl (rgq .i64 34 (dg 256 r) k (by omega)) ?_
     refine .same (by simp only [mn]; omega) (by simp only [mx]; omega) ?_
     refine ⟨by omega, by omega, ?_⟩
     refine s1e 3 _ rfl (rzq _ _ _ _ hlt) (rsq .u8 32 _ (qb3 r (k + 1)) k _ (qcQ r k _ rfl)) ?_
     refine .as (((k + 1 : Nat) : Int)) (by omega) (by simp only [mn]; omega) (by simp only [mx]; omega) ?_
     exact ⟨k + 1, by omega, by omega, ⟨rfl, rfl, rfl, rfl, trivial⟩, .cons (.dead (.cons (.cons .nil))), rfl⟩
   · obtain rfl : k = 32 := by omega
     rw [mixb_32]
     refine ldN 3 rfl (qg _) ?_
     refine sN 0 rfl (by rw [qg]; rfl) (k32_os _) ?_ (by kernel_rfl)
     refine ldN 0 rfl (qg _) ?_
     exact rt rfl
end
section
open Go.RowKit Go.Lib
theorem ent133 : _root_.Go.Enters Tryz.prog 133 := ⟨_, Tryz.func133, by kernel_rfl, by kernel_rfl⟩
theorem info3 : (Tryz.prog.info? 3).map (fun i => (i.zero, i.size, i.bytes)) = some (some (.int .i64 0), 1, 8) := by kernel_rfl
def qcS (vals : Nat → Int) (k : Nat) : List Value := (List.range k).map fun j => Value.int .i64 (vals j)
theorem ivals_succ (vals : Nat → Int) (k : Nat) : qcS vals (k + 1) = qcS vals k ++ [.int .i64 (vals k)] := by simp [qcS, List.range_succ]
theorem own_ints {W : World} {base len : Nat} {v : Value} {g : Nat → Int} (h : W.ownsRow base 3 1 v len (qcS g len)) : ∃ a cap, v = .slice a len cap ∧ IntsA W a len g := by
 obtain ⟨hl, hr⟩ := h
 rcases hr with ⟨rfl, rfl⟩ | ⟨b, cap, cur, rfl, _, hg, hn, _, hcs, htk⟩
 · exact ⟨none, 0, rfl, .inl rfl⟩
 · refine ⟨_, cap, rfl, .inr ⟨b, rfl, (Array.getElem?_eq_some_iff.1 hg).1, fun i hi => ?_⟩⟩
   have hm : Has W b cur 3 := hg
   rw [hm.cellAt]
   have h2 : (cur.toList.take (len * 1))[i]? = some (.int .i64 (g i)) := by rw [htk]; simp [qcS, hi]
   rw [List.getElem?_take_of_lt (by omega)] at h2
   simpa using h2
theorem refres_any (a : Option Addr) (len cap n : Nat) (hlen : len ≤ 1000) (hn : n < 256 ^ len) (w : World) (hb : Byts w a len n) :
 Calls Tryz.prog 132 #[.slice a len cap] w fun e w' => e = .returned (.agg (k32 (n % L0))) ∧ Below w.heap.size w w' := by
 obtain ⟨i0, hi, hz0, hz1, hz2⟩ := info_parts info3
 have hre := fun a cap w h => rest_any a len cap n hlen hn w h
 have MBY := Lib.hid hb
 clear hb hn
 have Hre := Lib.hid hre; clear hre
 go_enter Tryz.func132, Tryz.ntmps132
 repeat ((fail_if_success (with_reducible (show wpList _ _ _ _ _ _))); go_step)
 (refine wpList_step (fun K hK => ?_); go_simp; (try go_bits); refine hK _ _ ?_; clear hK K)
 refine wpList_nil ?_
 have M2 := Lib.hid (HasN.new w  (#[.int .u8 0, .int .u8 0, .int .u8 0, .int .u8 0, .int .u8 0, .int .u8 0, .int .u8 0, .int .u8 0, .int .u8 0, .int .u8 0, .int .u8 0, .int .u8 0, .int .u8 0, .int .u8 0, .int .u8 0, .int .u8 0, .int .u8 0, .int .u8 0, .int .u8 0, .int .u8 0, .int .u8 0, .int .u8 0, .int .u8 0, .int .u8 0, .int .u8 0, .int .u8 0, .int .u8 0, .int .u8 0, .int .u8 0, .int .u8 0, .int .u8 0, .int .u8 0] : Array Value) 36 32 (by kernel_rfl))
 have HB := Lib.hid (q8 w (.cells (#[.int .u8 0, .int .u8 0, .int .u8 0, .int .u8 0, .int .u8 0, .int .u8 0, .int .u8 0, .int .u8 0, .int .u8 0, .int .u8 0, .int .u8 0, .int .u8 0, .int .u8 0, .int .u8 0, .int .u8 0, .int .u8 0, .int .u8 0, .int .u8 0, .int .u8 0, .int .u8 0, .int .u8 0, .int .u8 0, .int .u8 0, .int .u8 0, .int .u8 0, .int .u8 0, .int .u8 0, .int .u8 0, .int .u8 0, .int .u8 0, .int .u8 0, .int .u8 0] : Array Value) 36))
 obtain ⟨yw1, hwyw1⟩ : ∃ ww, ww = (w.alloc (.cells (#[.int .u8 0, .int .u8 0, .int .u8 0, .int .u8 0, .int .u8 0, .int .u8 0, .int .u8 0, .int .u8 0, .int .u8 0, .int .u8 0, .int .u8 0, .int .u8 0, .int .u8 0, .int .u8 0, .int .u8 0, .int .u8 0, .int .u8 0, .int .u8 0, .int .u8 0, .int .u8 0, .int .u8 0, .int .u8 0, .int .u8 0, .int .u8 0, .int .u8 0, .int .u8 0, .int .u8 0, .int .u8 0, .int .u8 0, .int .u8 0, .int .u8 0, .int .u8 0] : Array Value) 36)) := ⟨_, rfl⟩
 rw [← hwyw1] at M2 HB ⊢
 clear hwyw1
 repeat ((fail_if_success (with_reducible (show wpList _ _ _ _ _ _))); go_step)
 (refine wpList_step (fun K hK => ?_); go_simp; (try go_bits); refine hK _ _ ?_; clear hK K)
 refine wpList_nil ?_
 repeat ((fail_if_success (with_reducible (show wpList _ _ _ _ _ _))); go_step)
 (refine wpList_step (fun K hK => ?_); go_simp; (try go_bits); refine hK _ _ ?_; clear hK K)
 refine wpList_nil ?_
 repeat ((fail_if_success (with_reducible (show wpList _ _ _ _ _ _))); go_step)
 go_loopw [3, 4] (fun v i wr => ∃ k : Nat, k ≤ len ∧ i = .int .i64 (k : Int) ∧ wr.ownsRow (w.heap.size + 1) 3 1 v k (qcS (dg 256 n) k) ∧ HasN wr w.heap.size 32 36 ∧ Below w.heap.size w wr) (fun _ i _ => (len - (RowKit.intOf i).toNat))
 case atStart => exact ⟨0, Nat.zero_le _, rfl, World.ownsRow_nil _ _ _ _, M2.out, HB.out⟩
 case round =>
  clear M2 HB
  obtain ⟨k, hk, rfl, hown, m2, hB⟩ := hrel
  obtain ⟨v, rfl⟩ : ∃ v, v = u3 := ⟨_, rfl⟩
  have Hown := Lib.hid hown; clear hown
  have M2 := Lib.hid m2; clear m2
  have HB := Lib.hid hB; clear hB
  rcases Nat.lt_or_ge k len with hlt | hge
  · rcases MBY.out with h0 | ⟨b, o, rfl, hbl, hcb⟩
    · omega
    have kq : (k : Int) < (len : Int) := by omega
    have hc1 := (HB.out.cell (p := ⟨b, o + k, none⟩) hbl).trans (hcb k hlt)
    clear hcb
    obtain ⟨c, hc⟩ : ∃ c, n / 256 ^ k % 256 = c := ⟨_, rfl⟩
    have lc : c < 256 := by omega
    rw [Qf, hc] at hc1
    have hdc : dg 256 n k = (c : Int) := by rw [Qf, hc]
    clear hc
    have Hdc := Lib.hid hdc; clear hdc
    repeat ((fail_if_success (with_reducible (show wpList _ _ _ _ _ _))); go_step)
    iterate 4 (refine wpList_step (fun K hK => ?_); go_simp; (try go_bits); refine hK _ _ ?_; clear hK K)
    refine wpList_nil ?_
    repeat ((fail_if_success (with_reducible (show wpList _ _ _ _ _ _))); go_step)
    iterate 7 (refine wpList_step (fun K hK => ?_); go_simp; (try go_bits); refine hK _ _ ?_; clear hK K)
    clear hc1
    refine wpList_append_own _ rfl _ _ 54 rfl (w.heap.size + 1) 3 i0 (.int .i64 0) 1 8 Tryz.underlying54 hi hz0 hz1 hz2 rfl (by decide) v k (qcS (dg 256 n) k) rfl (Hown.out.alloc _) ⟨wr.heap.size, 0, none⟩ 1 1 [.int .i64 (c : Int)] rfl rfl (cell_one_new _ _ _) (by simp [Value.oneCell']) (by unfold maxLen; omega) (by omega) (by have := M2.out.lt; simp; omega) ?_
    intro v' w1 hown' hgrow _
    rw [← Hdc.out, ← ivals_succ] at hown'
    have hlt2 := M2.out.lt
    have hb1 : Below w.heap.size w w1 := (HB.out.alloc HB.out.size (.cells #[.int .i64 (c : Int)] 3)).grown hgrow (by rw [World.size_alloc]; have := HB.out.size; omega) (fun j e => by have := (Hown.out.lt j e).1; omega)
    have m2' : HasN w1 w.heap.size 32 36 := by
     obtain ⟨cs, hn, hh⟩ := M2.out.alloc (.cells #[.int .i64 (c : Int)] 3)
     exact ⟨cs, hn, (hgrow.block _ hh.lt (fun e => by have := (Hown.out.lt _ e.symm).1; omega)).trans hh⟩
    clear Hown M2 HB hgrow hlt2
    have Hown' := Lib.hid hown'; clear hown'
    have M2' := Lib.hid m2'; clear m2'
    have Hb1 := Lib.hid hb1; clear hb1
    (try simp only [Act.put, sI, sS, sZ])
    (refine wpList_step (fun K hK => ?_); go_simp; (try go_bits); refine hK _ _ ?_; clear hK K)
    refine wpList_nil ?_
    repeat ((fail_if_success (with_reducible (show wpList _ _ _ _ _ _))); go_step)
    iterate 3 (refine wpList_step (fun K hK => ?_); go_simp; (try go_bits); refine hK _ _ ?_; clear hK K)
    refine wpList_nil ?_
    go_roundw
    case measure => simp [RowKit.intOf]; omega
    case rel => (repeat apply Exists.intro); exact ⟨⟨k + 1, by omega, by go_num, Hown'.out, M2'.out, Hb1.out⟩, rfl⟩
  · have hkl : k = len := by omega
    subst hkl
    clear hk hge
    obtain ⟨a2, cap2, rfl, hia⟩ := own_ints Hown.out
    have Hia := Lib.hid hia; clear hia
    repeat ((fail_if_success (with_reducible (show wpList _ _ _ _ _ _))); go_step)
    iterate 4 (refine wpList_step (fun K hK => ?_); go_simp; (try go_bits); refine hK _ _ ?_; clear hK K)
    refine wpList_nil ?_
    repeat ((fail_if_success (with_reducible (show wpList _ _ _ _ _ _))); go_step)
    (refine wpList_step (fun K hK => ?_); go_simp; (try go_bits); refine hK _ _ ?_; clear hK K)
    refine qm (by rfl) rfl rfl (by rfl) ent133 (by rfl) (Hre.out a2 cap2 _ Hia.out) 20 rfl ?_
    rintro e uw101 ⟨rfl, hb⟩
    replace M2 := Lib.hid (M2.out.call hb)
    replace HB := Lib.hid (qf HB.out hb)
    refine ⟨_, rfl, ?_⟩
    clear hb
    (try simp only [Act.put, sI, sS, sZ])
    first | (obtain ⟨Zq, hZ, mZ⟩ := M2.out) | (obtain ⟨Zq, hZ, mZ⟩ := M2.out.toN (qg ..))
    refine ql (by rfl) 36 _ _ rfl rfl (w.heap.size) (k32 (n % L0)) rfl rfl 36 Zq mZ (by rw [qg]; kernel_rfl) (hZ.trans (qg ..).symm) (qo _ _ _) ?_
    intro yw101 hw2
    replace M2 := Lib.hid (mZ.setRow (k32 (n % L0)))
    replace HB := Lib.hid (below_setRow HB.out (w.heap.size) (k32 (n % L0)) (by omega))
    rw [← hw2] at M2 HB; clear mZ hZ hw2
    refine wpList_nil ?_
    go_wp2_with fail
    exact bodyPost_ret (v := .agg (k32 (n % L0))) (results_cell_row (t := 36) (by rfl) _ _ (w.heap.size) _ _ _ rfl M2.out Tryz.underlying36 rfl (by rw [qg]; kernel_rfl)) rfl ⟨rfl, HB.out⟩
end
section
open Go.RowKit Go.Sx
theorem put_step (A : List UInt8) (hA : A.length = 32) (i : Nat) (hi : i < 32) : ((Lib.byteCells A).take (i + 1) ++ (List.replicate 32 (Value.int .u8 0)).drop (i + 1)).toArray = ((Lib.byteCells A).take i ++ (List.replicate 32 (Value.int .u8 0)).drop i).toArray.setIfInBounds (nad 0 (nmu (Int.toNat (i : Int)) 1)) (.int .u8 (A.getD i 0).toNat) := by
 have hl : (Lib.byteCells A).length = 32 := by rw [Lib.byteCells_length, hA]
 rw [qw, qu, Nat.zero_add, Nat.mul_one, Int.toNat_natCast, List.setIfInBounds_toArray, Zk _ _ _ (by rw [hl]; rfl) i (by omega) (qbX A i (by omega))]
theorem put_size (A : List UInt8) (hA : A.length = 32) (i : Nat) (hi : i ≤ 32) : ((Lib.byteCells A).take i ++ (List.replicate 32 (Value.int .u8 0)).drop i).toArray.size = 32 := by
 have hl : (Lib.byteCells A).length = 32 := by rw [Lib.byteCells_length, hA]
 simp [hl]; omega
theorem put_all (A : List UInt8) (hA : A.length = 32) : ((Lib.byteCells A).take 32 ++ (List.replicate 32 (Value.int .u8 0)).drop 32).toArray = k32 (leN A) := by
 have hl : (Lib.byteCells A).length = 32 := by rw [Lib.byteCells_length, hA]
 rw [← Zw A hA, List.take_of_length_le (by omega)]; simp
theorem take_at (D : List UInt8) (i : Nat) (hi : i < 32) : (D.take 32).getD i 0 = D.getD i 0 := by simp [List.getD, hi]
theorem drop_at (D : List UInt8) (i : Nat) : (D.drop 32).getD i 0 = D.getD (i + 32) 0 := by simp [List.getD, Nat.add_comm]
theorem cut_any (D : List UInt8) (hD : D.length = 64) (w : World) : Calls Tryz.prog 74 ([qcn D] : List Value).toArray w fun e w' => e = .returned (.tuple #[.agg (k32 (ZV D)), .agg (k32 (Z4 D))]) ∧ Below w.heap.size w w' := by
 have hA : (D.take 32).length = 32 := by rw [List.length_take, hD]; rfl
 have hB : (D.drop 32).length = 32 := by rw [List.length_drop, hD]
 refine qA qe Tryz.func74 rfl Tryz.ntmps74 rfl (St.start w) ?_
 intro b1 b2 b3 b4 b5
 refine lp qe (fun i : Nat => i ≤ 32) (fun i => ⟨[(1, ptr b1), (2, ptr b2), (3, ptr b3), (4, ptr b4), (5, ptr b5), (6, .int .i64 i)], [cl b1 (Lib.byteCells D).toArray 41, cl b2 (List.replicate 32 (Value.int .u8 0)).toArray 36, cl b3 (List.replicate 32 (Value.int .u8 0)).toArray 36,
  cl b4 ((Lib.byteCells (D.take 32)).take i ++ (List.replicate 32 (Value.int .u8 0)).drop i).toArray 36, cl b5 ((Lib.byteCells (D.drop 32)).take i ++ (List.replicate 32 (Value.int .u8 0)).drop i).toArray 36], []⟩) (fun i => 32 - i) 0 (Nat.zero_le _)
  ⟨⟨rfl, rfl, rfl, rfl, rfl, rfl, trivial⟩, .cons (.cons (.cons (.cons (.cons .nil)))), rfl⟩ ?_
 intro i hi
 refine cd (fun h => ?_) (fun h => ?_)
 · have hlt : i < 32 := by omega
   refine ⟨by omega, by omega, ?_⟩
   refine ld1 0 rfl (v := .int .u8 ((D.take 32).getD i 0).toNat) (by rw [take_at D i hlt, qw, qu, Nat.zero_add, Nat.mul_one, Int.toNat_natCast, List.getElem?_toArray]; exact qbX D i (by omega)) ?_
   refine ⟨by omega, by omega, s1e 3 _ rfl (by rw [put_size _ hA i hi, qw, qu, Nat.zero_add, Nat.mul_one, Int.toNat_natCast]; exact hlt) (put_step _ hA i hlt).symm ?_⟩
   refine .as ((i + 32 : Nat) : Int) (by omega) (by simp only [mn]; omega) (by simp only [mx]; omega) ?_
   refine ⟨by omega, by omega, ?_⟩
   refine ld1 0 rfl (v := .int .u8 ((D.drop 32).getD i 0).toNat) (by rw [drop_at D i, qw, qu, Nat.zero_add, Nat.mul_one, Int.toNat_natCast, List.getElem?_toArray]; exact qbX D _ (by omega)) ?_
   refine ⟨by omega, by omega, s1e 4 _ rfl (by rw [put_size _ hB i hi, qw, qu, Nat.zero_add, Nat.mul_one, Int.toNat_natCast]; exact hlt) (put_step _ hB i hlt).symm ?_⟩
   refine .as ((i + 1 : Nat) : Int) (by omega) (by simp only [mn]; omega) (by simp only [mx]; omega) ?_
   exact ⟨i + 1, by omega, by omega, ⟨rfl, rfl, rfl, rfl, rfl, rfl, trivial⟩, .cons (.cons (.cons (.cons (.cons .nil)))), rfl⟩
 · obtain rfl : i = 32 := by omega
   rw [put_all _ hA, put_all _ hB]
   have e1 : leN (D.take 32) = ZV D := rfl
   have e2 : leN (D.drop 32) = Z4 D := rfl
   rw [e1, e2]
   refine drs [dead, dead, dead, cl b4 (k32 (ZV D)) 36, cl b5 (k32 (Z4 D)) 36] [3] (.t 0 (.t 1 (.n 2 (.n 3 .nil)))) qe qk (by kernel_rfl) (.dead (.dead (.dead (.cons (.cons .nil))))) ?_
   refine ldN 3 rfl (qg _) ?_
   refine ldN 4 rfl (qg _) ?_
   refine sN 1 rfl (by rw [qg]; rfl) (qH _) ?_ (by kernel_rfl)
   refine ⟨.dead (.dead (.dead (.cons (.cons .nil)))), ?_⟩
   refine sN 2 rfl (by rw [qg]; rfl) (qH _) ?_ (by kernel_rfl)
   refine ldN 1 rfl (qg _) ?_
   refine ldN 2 rfl (qg _) ?_
   exact rt rfl
theorem qaX (w : World) (v : Value) (bs : List UInt8) (hrd : Rd w v (Lib.byteCells bs)) (hn : bs.length ≤ 1000000) : Calls Tryz.prog 89 ([v] : List Value).toArray w fun e w' => e = .returned (.agg (k32 (resN bs))) ∧ Below w.heap.size w w' := by
 have hlen := Zj bs
 refine qA qe Tryz.func89 rfl Tryz.ntmps89 rfl (St.start w) ?_
 intro b2
 refine cvs (fun w' hs => qdw v bs w' (hrd.below hs.below) hn) ?_
 unfold resN
 generalize zE bs = D at *
 have hl : (Lib.byteCells D).length = 64 := by rw [Lib.byteCells_length, hlen]
 intro b3
 refine sN 1 rfl (by simp [hl]) (ZR D) ?_ (by kernel_rfl)
 refine ⟨.mk 0 64 64 rfl rfl rfl (by decide) (by decide) (by decide) (by simp) (.on (by decide) ?_)⟩
 refine cvs (v := .agg (k32 (leN D % L0))) (fun w' hs => ?_) ?_
 · have hrd : Rd w' (.slice (some ⟨b3, 0, none⟩) 64 64) (Lib.byteCells D) := Rd.ent hs 1 rfl hl.symm (by rw [List.drop_zero, List.take_of_length_le (by simpa using Nat.le_of_eq hl)])
   obtain ⟨a, c, hv, hb⟩ := byts_of hrd
   rw [hlen] at hv hb
   injection hv with h1 h2 h3
   subst h1 h3
   exact refres_any _ 64 64 (leN D) (by decide) (by rw [← hlen]; exact qbB D) w' hb
 refine sN 0 rfl (by rw [qg]; rfl) (qH _) ?_ (by kernel_rfl)
 refine ldN 0 rfl (qg _) ?_
 exact rt rfl
theorem qag (l : List UInt8) (i : Nat) (h : i < l.length) : (Lib.byteCells l).toArray[i]? = some (.int .u8 (l.getD i 0).toNat) := by rw [List.getElem?_toArray]; exact qbX l i h
theorem qdM (l : List UInt8) (i : Nat) (b : UInt8) (x : Int) (hx : x = b.toNat) : (Lib.byteCells l).toArray.setIfInBounds i (.int .u8 x) = (Lib.byteCells (l.set i b)).toArray := by
 rw [hx, List.setIfInBounds_toArray, bytes_set]
theorem qbP (n : Nat) (w : World) : Calls Tryz.prog 43 ([.agg (k32 n)] : List Value).toArray w fun e w' => e = .returned (.tuple #[.agg (k32 (qct n)), .agg (k32 (leN (qcu n)))]) ∧ Below w.heap.size w w' := by
 have hlen := Zj (qU n)
 have hse : qct n = leN (qaf ((zE (qU n)).take 32)) := rfl
 have hsa : leN (qcu n) = Z4 (zE (qU n)) := rfl
 rw [hse, hsa]
 refine qA qe Tryz.func43 rfl Tryz.ntmps43 rfl (St.start w) ?_
 intro b1 b2 b3
 refine ⟨.mk 0 32 32 rfl rfl rfl (by decide) (by decide) (by decide) (by simp) (.on (by decide) ?_)⟩
 refine cvs (fun w' hs => qdw _ (qU n) w' (zR hs 0 rfl) (by rw [qC]; decide)) ?_
 refine cv (fun w => cut_any _ hlen w) ?_
 have hHl : ((zE (qU n)).take 32).length = 32 := by rw [List.length_take, hlen]; rfl
 have hF : k32 (ZV (zE (qU n))) = (Lib.byteCells ((zE (qU n)).take 32)).toArray := (Zw _ hHl).symm
 generalize Z4 (zE (qU n)) = S at *
 rw [hF]
 generalize (zE (qU n)).take 32 = H at *
 have hHc : (Lib.byteCells H).length = 32 := by rw [Lib.byteCells_length, hHl]
 intro b4 b5
 refine sN 3 rfl (by simp [hHc]) (ZR H) ?_ (by kernel_rfl)
 refine sN 4 rfl (by rw [qg]; rfl) (qH _) ?_ (by kernel_rfl)
 have hb0 := (H.getD 0 0).toNat_lt
 refine ⟨by decide, by decide, ld1 3 rfl (qag H 0 (by omega)) ?_⟩
 refine ⟨by decide, by decide, ld1 3 rfl (qag H 0 (by omega)) ?_⟩
 refine ⟨by omega, by simp only [mx]; omega, by decide, ?_⟩
 refine .as ((UInt8.ofNat ((H.getD 0 0).toNat - (H.getD 0 0).toNat % 8)).toNat : Int) (by rw [UInt8.toNat_ofNat']; omega) (by simp only [mn]; omega) (by have := (UInt8.ofNat ((H.getD 0 0).toNat - (H.getD 0 0).toNat % 8)).toNat_lt; simp only [mx]; omega) ?_
 refine ⟨by decide, by decide, s1e 3 _ rfl (by rw [List.size_toArray, hHc]; decide) (qdM H 0 _ _ rfl) ?_⟩
 generalize hx0 : UInt8.ofNat ((H.getD 0 0).toNat - (H.getD 0 0).toNat % 8) = x0
 have h31 : (H.set 0 x0).getD 31 0 = H.getD 31 0 := by simp [List.getD]
 have hb1 := (H.getD 31 0).toNat_lt
 have hl1 : (H.set 0 x0).length = 32 := by simp [hHl]
 refine ⟨by decide, by decide, ld1 3 rfl (qag (H.set 0 x0) 31 (by omega)) ?_⟩
 rw [h31]
 refine ⟨by omega, by simp only [mx]; omega, by decide, ?_⟩
 refine .as ((UInt8.ofNat ((H.getD 31 0).toNat % 64 + 64)).toNat : Int) (by rw [UInt8.toNat_ofNat']; omega) (by simp only [mn]; omega) (by have := (UInt8.ofNat ((H.getD 31 0).toNat % 64 + 64)).toNat_lt; simp only [mx]; omega) ?_
 refine ⟨by decide, by decide, s1e 3 _ rfl (by rw [List.size_toArray, Lib.byteCells_length, hl1]; decide) (qdM (H.set 0 x0) 31 _ _ rfl) ?_⟩
 have hcl : (H.set 0 x0).set 31 (UInt8.ofNat ((H.getD 31 0).toNat % 64 + 64)) = qaf H := by unfold qaf; rw [hx0]
 rw [hcl, Zw (qaf H) (by rw [qc6, hHl])]
 generalize leN (qaf H) = a at *
 refine drs [dead, dead, dead, cl b4 (k32 a) 36, cl b5 (k32 S) 36] [3] (.t 0 (.t 1 (.n 2 (.n 3 .nil)))) qe qk (by kernel_rfl) (.dead (.dead (.dead (.cons (.cons .nil))))) ?_
 refine ldN 3 rfl (qg _) ?_
 refine ldN 4 rfl (qg _) ?_
 refine sN 1 rfl (by rw [qg]; rfl) (qH _) ?_ (by kernel_rfl)
 refine ⟨.dead (.dead (.dead (.cons (.cons .nil)))), ?_⟩
 refine sN 2 rfl (by rw [qg]; rfl) (qH _) ?_ (by kernel_rfl)
 refine ldN 1 rfl (qg _) ?_
 refine ldN 2 rfl (qg _) ?_
 exact rt rfl
theorem qcA (w : World) : Calls Tryz.prog 46 ([] : List Value).toArray w (RqG gG w) := by
 have hPP : GX < PP ∧ GY < PP := by decide +kernel
 have hx := fun w => rof_any GX w
 have hy := fun w => rof_any GY w
 rw [show GX % 2 ^ 255 % PP = GX by decide +kernel] at hx
 rw [show GY % 2 ^ 255 % PP = GY by decide +kernel] at hy
 have h1 := fun w => qb8 1 (by decide) w
 rw [show 1 % PP = 1 by decide +kernel] at h1
 have ht := fun w => q4 GX GY hPP.1 hPP.2 w
 refine (qA (v0 := .agg (rp GX GY 1 (GX * GY % PP))) qe Tryz.func46 rfl Tryz.ntmps46 rfl (St.start w) ?_).mono (fun e w' ⟨h1, h2⟩ => ?_)
 · intro b0
   refine bu (c := k32 GX) (by kernel_rfl) ?_
   refine cv (fun w => hx w) ?_
   intro b1
   refine sN 1 rfl (by rw [qh]; rfl) (QV _) ?_ (by kernel_rfl)
   refine bu (c := k32 GY) (by kernel_rfl) ?_
   refine cv (fun w => hy w) ?_
   intro b2
   refine sN 2 rfl (by rw [qh]; rfl) (QV _) ?_ (by kernel_rfl)
   refine drs [dead, cl b1 (r22 GX) 101, cl b2 (r22 GY) 101] [7] (.t 0 (.t 1 (.t 2 (.t 3 (.t 4 (.t 5 (.t 6 (.n 7 .nil)))))))) qe qk (by kernel_rfl) (.dead (.cons (.cons .nil))) ?_
   refine ldN 1 rfl (qh _) ?_
   refine ldN 2 rfl (qh _) ?_
   refine cz (fun w => h1 w) ?_
   refine ldN 1 rfl (qh _) ?_
   refine ldN 2 rfl (qh _) ?_
   refine cz (fun w => ht w) ?_
   refine bu (c := rp GX GY 1 (GX * GY % PP)) (by kernel_rfl) ?_
   refine sN 0 rfl (by rw [qL]; rfl) (by rw [Array.all_toList]; exact qaH _ _ _ _) ?_ (by kernel_rfl)
   refine ldN 0 rfl (qL _ _ _ _) ?_
   exact rt rfl
 · refine ⟨GX, GY, 1, GX * GY % PP, ⟨⟨qce, ?_⟩, hPP.1, hPP.2, by decide +kernel, Nat.mod_lt _ qG⟩, h1, h2⟩
   rw [Qk, q6, zi]
   show _ = fi GX * fi GY * 1
   grind
theorem rg {g : FuncId} {vs : Array Value} {w : World} {p : Fin PP × Fin PP} (h : Calls Tryz.prog g vs w (RqG p w)) : Calls Tryz.prog g vs w fun e w' => ∃ x : Nat × Nat × Nat × Nat, Rq x.1 x.2.1 x.2.2.1 x.2.2.2 p ∧ e = .returned (.agg (rp x.1 x.2.1 x.2.2.1 x.2.2.2)) ∧ Below w.heap.size w w' :=
 h.mono fun e w' ⟨x, y, z, t, h1, h2, h3⟩ => ⟨(x, y, z, t), h1, h2, h3⟩
theorem qbQ (n : Nat) (w : World) : Calls Tryz.prog 12 ([.agg (k32 n)] : List Value).toArray w fun e w' => e = .returned (.agg (k32 (zo n))) ∧ Below w.heap.size w w' := by
 have hm := fun X Y Z T h w => rg (gr_many X Y Z T (qct n) gG h (secN_lt n) w)
 have hk := fun X Y Z T h w => gr_key X Y Z T (pubP n) h w
 have hpp : pubP n = qV qN fd gG (qct n) := rfl
 have hpn : zo n = qab (pubP n) := rfl
 have hs := fun w => qbP n w
 rw [← hpp] at hm
 rw [hpn]
 generalize leN (qcu n) = sa at *
 generalize qct n = se at *
 generalize pubP n = Q at *
 generalize qab Q = kq at *
 refine qA qe Tryz.func12 rfl Tryz.ntmps12 rfl (St.start w) ?_
 intro b1 b2
 refine ldN 0 rfl (qg _) ?_
 refine cv (fun w => hs w) ?_
 intro b3 b4
 refine sN 2 rfl (by rw [qg]; rfl) (qH _) ?_ (by kernel_rfl)
 refine sN 3 rfl (by rw [qg]; rfl) (qH _) ?_ (by kernel_rfl)
 refine drs [dead, dead, cl b3 (k32 se) 36] [4] (.t 1 (.n 0 (.n 2 (.n 3 (.n 4 .nil))))) qe qk (by kernel_rfl) (.dead (.dead (.cons .nil))) ?_
 refine ldN 2 rfl (qg _) ?_
 refine ce (fun w _ => rg (qcA w)) (fun g hg => ?_)
 refine ⟨.dead (.dead (.cons .nil)), ?_⟩
 refine ce (fun w _ => hm _ _ _ _ hg w) (fun q hq => ?_)
 refine ⟨.dead (.dead (.cons .nil)), ?_⟩
 refine cv (fun w => hk _ _ _ _ hq w) ?_
 refine ⟨.dead (.dead (.cons .nil)), ?_⟩
 refine sN 1 rfl (by rw [qg]; rfl) (qH _) ?_ (by kernel_rfl)
 refine ldN 1 rfl (qg _) ?_
 exact rt rfl
end
section
open Go.RowKit Go.Lib Go.Sx
theorem mkL (w : World) : (Instr.makeSlice 54 (.int .i64 67) (.int .i64 67)).run Tryz.prog w = .ok (.slice (some ⟨w.heap.size, 0, none⟩) 67 67) (w.alloc (.cells (row .i64 67 fun _ => 0) 3)) := by
 obtain ⟨i0, hi, hz0, hz1, hz2⟩ := info_parts info3
 have h := run_makeSlice (P := Tryz.prog) w 54 3 i0 _ Tryz.underlying54 hi hz0 .i64 .i64 67 67 (by decide) (by decide) (by rw [hz1]; decide) (by rw [hz2]; decide) (by decide)
 rw [hz1] at h
 have e : madeCells (Value.int .i64 0).cells 67 = row .i64 67 fun _ => 0 := by
  apply Array.ext_getElem?
  intro j
  by_cases hj : j < 67
  · rw [Q5 _ _ _ _ hj]; simp [madeCells, Value.cells, hj, Nat.mod_one]
  · rw [Zm _ _ _ _ hj]; simp [madeCells]; omega
 have h2 : madeCells (Value.int .i64 0).cells ((67 : Int).toNat * 1) = row .i64 67 fun _ => 0 := e
 rw [h2] at h
 exact h
theorem sumf_32 (n : Nat) (hn : n < 115792089237316195423570985008687907853269984665640564039457584007913129639936) : qp 256 (dg 256 n) 32 = n := by
 have := QZ 256 n 32
 rw [Nat.mod_eq_of_lt (by rw [p256_32]; exact hn)] at this
 exact this
theorem mul8 (x y : Int) (hx0 : 0 ≤ x) (hx : x < 256) (hy0 : 0 ≤ y) (hy : y < 256) : 0 ≤ x * y ∧ x * y ≤ 65025 :=
 ⟨Int.mul_nonneg hx0 hy0, by have := Int.mul_le_mul (show x ≤ 255 by omega) (show y ≤ 255 by omega) hy0 (by decide); omega⟩
theorem carry8 (h : Nat → Int) (i : Nat) (hi : i < 66) : qp 256 (upd (upd h (i + 1) (h (i + 1) + h i / 256)) i (h i % 256)) 67 = qp 256 h 67 := by
 rw [Qm _ _ _ _ _ (by omega), Qm _ _ _ _ _ (by omega), qt _ _ _ _ (by omega), Int.pow_succ]
 have e : h i = 256 * (h i / 256) + h i % 256 := by omega
 generalize h i / 256 = q at *
 generalize h i % 256 = r at *
 rw [e]
 generalize (256 : Int) ^ i = P
 grind
theorem bytes67 (V : Nat) (h : Nat → Int) (hb : ∀ j, j < 66 → 0 ≤ h j ∧ h j < 256) (h66 : 0 ≤ h 66) (hV : V < 256 ^ 66) (hs : qp 256 h 67 = V) : ∀ j, j < 67 → h j = dg 256 V j := by
 have h0 := Qb 256 (by decide) h 66 (fun i hi => (hb i hi).1)
 have hp : ((256 : Int) ^ 66) = ((256 ^ 66 : Nat) : Int) := by rw [Int.natCast_pow]; rfl
 have hs2 : qp 256 h 66 + h 66 * 256 ^ 66 = V := hs
 have hz : h 66 = 0 := by
  rcases Int.lt_or_le 0 (h 66) with h1 | h1
  · have h2 : 1 * (256 : Int) ^ 66 ≤ h 66 * 256 ^ 66 := Int.mul_le_mul_of_nonneg_right (by omega) (Int.le_of_lt (Int.pow_pos (by decide)))
    rw [hp] at h2 hs2
    generalize 256 ^ 66 = P at *
    omega
  · omega
 exact zm 256 h V 67 (fun i hi => by
  by_cases e : i = 66
  · rw [e, hz]; exact ⟨Int.le_refl 0, (by decide : (0 : Int) < 256)⟩
  · exact hb i (by omega)) hs
theorem p256_66 : (256 : Nat) ^ 66 = 878694100496718043517683302282418331810487718418343092402491322775749527474899974671687634004666183037093927858109549828751614463963730408009475621262727315456 := by decide +kernel
theorem zZ (kd : IntKind) (k : Nat) (f : Nat → Int) (i : Nat) (h : i < k) : (row kd k f)[nad 0 (nmu (Int.toNat (i : Int)) 1)]? = some (.int kd (f i)) := by
 rw [qw, qu, Nat.zero_add, Nat.mul_one, Int.toNat_natCast]; exact Q5 _ _ _ _ h
theorem qb6 (kd : IntKind) (k : Nat) (f g : Nat → Int) (i : Nat) (x : Int) (hg : g = upd f i x) : (row kd k f).setIfInBounds (nad 0 (nmu (Int.toNat (i : Int)) 1)) (.int kd x) = row kd k g := by
 rw [qw, qu, Nat.zero_add, Nat.mul_one, Int.toNat_natCast, hg]; exact qb7 _ _ _ _ _
theorem sti_lt (kd : IntKind) (k : Nat) (f : Nat → Int) (i : Nat) (h : i < k) : nad 0 (nmu (Int.toNat (i : Int)) 1) < (row kd k f).size := by
 rw [qw, qu, Nat.zero_add, Nat.mul_one, Int.toNat_natCast, Qc]; exact h
abbrev TK : Nat := 36
abbrev sl67 (b : Nat) : Value := .slice (some ⟨b, 0, none⟩) 67 67
theorem t3_add (A B C : Nat) (i : Nat) (h : Nat → Int) (hi : i < 67) (hs : qp 256 h 67 = qp 256 (dg 256 C) i + qp 256 (dg 256 A) i * B) :
 qp 256 (upd h i (h i + dg 256 C i)) 67 = qp 256 (dg 256 C) (i + 1) + qp 256 (dg 256 A) i * B := by
 rw [Qm _ _ _ _ _ hi, hs]
 show _ = qp 256 (dg 256 C) i + dg 256 C i * 256 ^ i + qp 256 (dg 256 A) i * B
 generalize (256 : Int) ^ i = P
 grind
theorem t3_mul (A B C : Nat) (i k : Nat) (h : Nat → Int) (hi : i + k < 67) (hs : qp 256 h 67 = qp 256 (dg 256 C) (i + 1) + qp 256 (dg 256 A) i * B + dg 256 A i * 256 ^ i * qp 256 (dg 256 B) k) :
 qp 256 (upd h (i + k) (h (i + k) + dg 256 A i * dg 256 B k)) 67 = qp 256 (dg 256 C) (i + 1) + qp 256 (dg 256 A) i * B + dg 256 A i * 256 ^ i * qp 256 (dg 256 B) (k + 1) := by
 rw [Qm _ _ _ _ _ hi, hs]
 show _ = _ + dg 256 A i * 256 ^ i * (qp 256 (dg 256 B) k + dg 256 B k * 256 ^ k)
 rw [Int.pow_add]
 generalize (256 : Int) ^ i = P
 generalize (256 : Int) ^ k = R
 grind
theorem upd_bd (h : Nat → Int) (s : Nat) (x M M' : Int) (hx : 0 ≤ x ∧ x ≤ M') (hM : M ≤ M') (hb : ∀ j, j < 67 → 0 ≤ h j ∧ h j ≤ M) : ∀ j, j < 67 → 0 ≤ upd h s x j ∧ upd h s x j ≤ M' := fun j hj => by
 unfold upd
 by_cases e : j = s
 · rw [if_pos e]; exact hx
 · rw [if_neg e]; have := hb j hj; omega
abbrev qb2 (b : Nat) : Value := .pointer (some ⟨b, 0, none⟩)
theorem rtimes3_any (A B C : Nat) (hA : A < 115792089237316195423570985008687907853269984665640564039457584007913129639936) (hB : B < 115792089237316195423570985008687907853269984665640564039457584007913129639936) (hC : C < 115792089237316195423570985008687907853269984665640564039457584007913129639936) (w : World) :
 Calls Tryz.prog 90 #[.agg (k32 A), .agg (k32 B), .agg (k32 C)] w fun e w' => e = .returned (.agg (k32 ((A * B + C) % L0))) ∧ Below w.heap.size w w' := by
 have hsA := sumf_32 A hA
 have hsB := sumf_32 B hB
 have hsC := sumf_32 C hC
 have hV : A * B + C < 256 ^ 66 := by
  rw [p256_66]
  have h1 : A * B < 115792089237316195423570985008687907853269984665640564039457584007913129639936 * 115792089237316195423570985008687907853269984665640564039457584007913129639936 := Nat.mul_lt_mul'' hA hB
  omega
 have hre := fun a cap w h => rest_any a 67 cap (A * B + C) (by decide) (Nat.lt_of_lt_of_le hV (Nat.pow_le_pow_right (by decide) (by decide))) w h
 refine qA qe Tryz.func90 rfl Tryz.ntmps90 rfl (St.start w) ?_
 intro b3 b4 b5 b6
 refine .mk 67 67 (row .i64 67 fun _ => 0) 3 (fun w => mkL w) (fun bl => ?_)
 refine lp qe (fun x : Nat × (Nat → Int) => x.1 ≤ 32 ∧ (∀ j, j < 67 → 0 ≤ x.2 j ∧ x.2 j ≤ (x.1 : Int) * 2081055) ∧ qp 256 x.2 67 = qp 256 (dg 256 C) x.1 + qp 256 (dg 256 A) x.1 * B) (fun x => ⟨[(3, qb2 b3), (4, qb2 b4), (5, qb2 b5), (6, qb2 b6), (7, sl67 bl), (8, .int .i64 x.1)], [cl b3 (k32 A) TK, cl b4 (k32 B) TK, cl b5 (k32 C) TK, cl b6 (#[.int .u8 0, .int .u8 0, .int .u8 0, .int .u8 0, .int .u8 0, .int .u8 0, .int .u8 0, .int .u8 0, .int .u8 0, .int .u8 0, .int .u8 0, .int .u8 0, .int .u8 0, .int .u8 0, .int .u8 0, .int .u8 0, .int .u8 0, .int .u8 0, .int .u8 0, .int .u8 0, .int .u8 0, .int .u8 0, .int .u8 0, .int .u8 0, .int .u8 0, .int .u8 0, .int .u8 0, .int .u8 0, .int .u8 0, .int .u8 0, .int .u8 0, .int .u8 0] : Array Value) TK, cl bl (row .i64 67 x.2) 3], []⟩) (fun x => 32 - x.1) (0, fun _ => 0) ⟨by decide, fun j _ => ⟨Int.le_refl 0, (by decide : (0 : Int) ≤ 0 * 2081055)⟩, by rw [Q8 _ _ _ (fun _ _ => rfl)]; show (0 : Int) = 0 + 0 * B; omega⟩ ⟨⟨rfl, rfl, rfl, rfl, rfl, rfl, trivial⟩, .refl _, rfl⟩ ?_
 rintro ⟨i, h⟩ ⟨hi, hbd, hs⟩
 simp only at hi hbd hs
 refine cd (fun hlt => ?_) (fun hge => ?_)
 · have hlt' : i < 32 := by (try simp only at hlt); omega
   obtain ⟨c0, c1⟩ := dg8 C i
   obtain ⟨z0, z1⟩ := hbd i (by omega)
   refine dr _ 12 (.t 0 (.t 1 (.t 2 (.t 3 (.t 4 (.t 5 (.t 6 (.t 7 (.t 8 (.t 9 (.t 10 (.t 11 (.n 12 .nil))))))))))))) qe qk (by kernel_rfl) (.refl _) ?_
   refine ⟨by (try simp only); omega, by (try simp only); omega, ?_⟩
   refine ld1 4 rfl (zZ _ _ _ _ (by omega)) ?_
   refine ⟨by (try simp only); omega, by (try simp only); omega, ?_⟩
   refine ld1 2 rfl (zZ _ _ _ _ hlt') ?_
   refine .same (by simp only [mn]; omega) (by simp only [mx]; omega) ?_
   refine .same (by simp only [mn]; omega) (by simp only [mx]; omega) ?_
   refine ⟨by (try simp only); omega, by (try simp only); omega, ?_⟩
   refine s1e 4 (row .i64 67 (upd h i (h i + dg 256 C i))) rfl (sti_lt _ _ _ _ (by omega)) (qb6 _ _ _ _ _ _ rfl) ?_
   refine lp qe (fun x : Nat × (Nat → Int) => x.1 ≤ 32 ∧ (∀ j, j < 67 → 0 ≤ x.2 j ∧ x.2 j ≤ (i : Int) * 2081055 + 255 + (x.1 : Int) * 65025) ∧ qp 256 x.2 67 = qp 256 (dg 256 C) (i + 1) + qp 256 (dg 256 A) i * B + dg 256 A i * 256 ^ i * qp 256 (dg 256 B) x.1) (fun x => ⟨[(3, qb2 b3), (4, qb2 b4), (5, qb2 b5), (6, qb2 b6), (7, sl67 bl), (8, .int .i64 i), (9, .int .i64 x.1)], [cl b3 (k32 A) TK, cl b4 (k32 B) TK, cl b5 (k32 C) TK, cl b6 (#[.int .u8 0, .int .u8 0, .int .u8 0, .int .u8 0, .int .u8 0, .int .u8 0, .int .u8 0, .int .u8 0, .int .u8 0, .int .u8 0, .int .u8 0, .int .u8 0, .int .u8 0, .int .u8 0, .int .u8 0, .int .u8 0, .int .u8 0, .int .u8 0, .int .u8 0, .int .u8 0, .int .u8 0, .int .u8 0, .int .u8 0, .int .u8 0, .int .u8 0, .int .u8 0, .int .u8 0, .int .u8 0, .int .u8 0, .int .u8 0, .int .u8 0, .int .u8 0] : Array Value) TK, cl bl (row .i64 67 x.2) 3], []⟩) (fun x => 32 - x.1) (0, upd h i (h i + dg 256 C i)) ⟨Nat.zero_le _, upd_bd _ _ _ ((i : Int) * 2081055) _ ⟨by omega, by (try simp only); omega⟩ (by (try simp only); omega) hbd, by
    rw [t3_add A B C i h (by omega) hs]; show _ = _ + dg 256 A i * 256 ^ i * 0; omega⟩ ⟨⟨rfl, rfl, rfl, rfl, rfl, rfl, rfl, trivial⟩, .refl _, rfl⟩ ?_
   clear hs hbd c0 c1 z0 z1
   rintro ⟨k, g⟩ ⟨hk, hbd, hs⟩
   simp only at hk hbd hs
   refine cd (fun hkl => ?_) (fun hkg => ?_)
   · have hk' : k < 32 := by (try simp only at hkl); omega
     obtain ⟨x0, x1⟩ := dg8 A i
     obtain ⟨y0, y1⟩ := dg8 B k
     obtain ⟨p0, p1⟩ := mul8 _ _ x0 x1 y0 y1
     obtain ⟨z0, z1⟩ := hbd (i + k) (by omega)
     refine dr _ 21 (.t 0 (.t 1 (.t 2 (.t 3 (.t 4 (.t 5 (.t 6 (.t 7 (.t 8 (.t 9 (.t 10 (.t 11 (.t 12 (.t 13 (.t 14 (.t 15 (.t 16 (.t 17 (.t 18 (.t 19 (.t 20 (.n 21 .nil)))))))))))))))))))))) qe qk (by kernel_rfl) (.refl _) ?_
     refine .as ((i + k : Nat) : Int) (by (try simp only); (try push_cast); (try omega)) (by simp only [mn]; omega) (by simp only [mx]; omega) ?_
     refine .as ((i + k : Nat) : Int) (by (try simp only); (try push_cast); (try omega)) (by simp only [mn]; omega) (by simp only [mx]; omega) ?_
     refine ⟨by (try simp only); omega, by (try simp only); omega, ?_⟩
     refine ld1 4 rfl (zZ _ _ _ _ (by omega)) ?_
     refine ⟨by (try simp only); omega, by (try simp only); omega, ?_⟩
     refine ld1 0 rfl (zZ _ _ _ _ hlt') ?_
     refine .same (by simp only [mn]; omega) (by simp only [mx]; omega) ?_
     refine ⟨by (try simp only); omega, by (try simp only); omega, ?_⟩
     refine ld1 1 rfl (zZ _ _ _ _ hk') ?_
     refine .same (by simp only [mn]; omega) (by simp only [mx]; omega) ?_
     refine .same (by simp only [mn]; omega) (by simp only [mx]; omega) ?_
     refine .same (by simp only [mn]; omega) (by simp only [mx]; omega) ?_
     refine ⟨by (try simp only); omega, by (try simp only); omega, ?_⟩
     refine s1e 4 (row .i64 67 (upd g (i + k) (g (i + k) + dg 256 A i * dg 256 B k))) rfl (sti_lt _ _ _ _ (by omega)) (qb6 _ _ _ _ _ _ rfl) ?_
     refine .as ((k + 1 : Nat) : Int) (by (try simp only); (try push_cast); (try omega)) (by simp only [mn]; omega) (by simp only [mx]; omega) ?_
     exact ⟨(k + 1, upd g (i + k) (g (i + k) + dg 256 A i * dg 256 B k)), ⟨hk', upd_bd _ _ _ ((i : Int) * 2081055 + 255 + (k : Int) * 65025) _ ⟨by omega, by (try simp only); (try push_cast); omega⟩ (by (try simp only); (try push_cast); omega) hbd, t3_mul A B C i k g (by omega) hs⟩, by (try simp only); omega, ⟨⟨rfl, rfl, rfl, rfl, rfl, rfl, rfl, trivial⟩, .refl _, rfl⟩⟩
   · obtain rfl : k = 32 := by (try simp only at hkg); omega
     refine .as ((i + 1 : Nat) : Int) (by (try simp only); (try push_cast); (try omega)) (by simp only [mn]; omega) (by simp only [mx]; omega) ?_
     refine ⟨(i + 1, g), ⟨hlt', fun j hj => ?_, ?_⟩, by (try simp only); omega, ⟨⟨rfl, rfl, rfl, rfl, rfl, rfl, trivial⟩, .refl _, rfl⟩⟩
     · have := hbd j hj
       simp only
       push_cast
       omega
     · show qp 256 g 67 = qp 256 (dg 256 C) (i + 1) + (qp 256 (dg 256 A) i + dg 256 A i * 256 ^ i) * B
       rw [hs, hsB, Int.add_mul]; omega
 · obtain rfl : i = 32 := by (try simp only at hge); omega
   rw [hsA, hsC] at hs
   have hV2 : qp 256 h 67 = ((A * B + C : Nat) : Int) := by rw [hs]; push_cast; omega
   clear hs
   generalize A * B + C = V at *
   refine lp qe (fun x : Nat × (Nat → Int) => x.1 ≤ 66 ∧ (∀ j, j < x.1 → 0 ≤ x.2 j ∧ x.2 j < 256) ∧ (∀ j, x.1 ≤ j → j < 67 → 0 ≤ x.2 j ∧ x.2 j ≤ if j = x.1 then 80000000 else 70000000) ∧ qp 256 x.2 67 = (V : Int)) (fun x => ⟨[(3, qb2 b3), (4, qb2 b4), (5, qb2 b5), (6, qb2 b6), (7, sl67 bl), (10, .int .i64 x.1)], [cl b3 (k32 A) TK, cl b4 (k32 B) TK, cl b5 (k32 C) TK, cl b6 (#[.int .u8 0, .int .u8 0, .int .u8 0, .int .u8 0, .int .u8 0, .int .u8 0, .int .u8 0, .int .u8 0, .int .u8 0, .int .u8 0, .int .u8 0, .int .u8 0, .int .u8 0, .int .u8 0, .int .u8 0, .int .u8 0, .int .u8 0, .int .u8 0, .int .u8 0, .int .u8 0, .int .u8 0, .int .u8 0, .int .u8 0, .int .u8 0, .int .u8 0, .int .u8 0, .int .u8 0, .int .u8 0, .int .u8 0, .int .u8 0, .int .u8 0, .int .u8 0] : Array Value) TK, cl bl (row .i64 67 x.2) 3], []⟩) (fun x => 66 - x.1) (0, h) ⟨Nat.zero_le _, fun j hj => by (try simp only at hj); omega, fun j _ hj => by have := hbd j hj; show 0 ≤ h j ∧ h j ≤ _; split <;> omega, hV2⟩ ⟨⟨rfl, rfl, rfl, rfl, rfl, rfl, trivial⟩, .refl _, rfl⟩ ?_
   clear hbd hV2
   rintro ⟨k, g⟩ ⟨hk, hlo, hhi, hs⟩
   simp only at hk hlo hhi hs
   refine cd (fun hkl => ?_) (fun hkg => ?_)
   · have hk' : k < 66 := by (try simp only at hkl); omega
     obtain ⟨x0, x1⟩ := hhi k (Nat.le_refl _) (by omega)
     rw [if_pos rfl] at x1
     obtain ⟨y0, y1⟩ := hhi (k + 1) (by omega) (by omega)
     rw [if_neg (by omega)] at y1
     have hcs := carry8 g k hk'
     rw [hs] at hcs
     have e1 : upd g (k + 1) (g (k + 1) + g k / 256) k = g k := qt _ _ _ _ (by omega)
     refine dr _ 15 (.t 0 (.t 1 (.t 2 (.t 3 (.t 4 (.t 5 (.t 6 (.t 7 (.t 8 (.t 9 (.t 10 (.t 11 (.t 12 (.t 13 (.t 14 (.n 15 .nil)))))))))))))))) qe qk (by kernel_rfl) (.refl _) ?_
     refine .as ((k + 1 : Nat) : Int) (by (try simp only); (try push_cast); (try omega)) (by simp only [mn]; omega) (by simp only [mx]; omega) ?_
     refine .as ((k + 1 : Nat) : Int) (by (try simp only); (try push_cast); (try omega)) (by simp only [mn]; omega) (by simp only [mx]; omega) ?_
     refine ⟨by (try simp only); omega, by (try simp only); omega, ?_⟩
     refine ld1 4 rfl (zZ _ _ _ _ (by omega)) ?_
     refine ⟨by (try simp only); omega, by (try simp only); omega, ?_⟩
     refine ld1 4 rfl (zZ _ _ _ _ (by omega)) ?_
     refine ⟨x0, by simp only [mx]; omega, by decide, ?_⟩
     refine .same (by simp only [mn]; omega) (by simp only [mx]; omega) ?_
     refine ⟨by (try simp only); omega, by (try simp only); omega, ?_⟩
     refine s1e 4 (row .i64 67 (upd g (k + 1) (g (k + 1) + g k / 256))) rfl (sti_lt _ _ _ _ (by omega)) (qb6 _ _ _ _ _ _ rfl) ?_
     refine ⟨by (try simp only); omega, by (try simp only); omega, ?_⟩
     refine ld1 4 rfl (zZ _ _ _ _ (by omega)) ?_
     rw [e1]
     refine ⟨x0, by simp only [mx]; omega, by decide, ?_⟩
     refine ⟨by (try simp only); omega, by (try simp only); omega, ?_⟩
     refine s1e 4 (row .i64 67 (upd (upd g (k + 1) (g (k + 1) + g k / 256)) k (g k % 256))) rfl (sti_lt _ _ _ _ (by omega)) (qb6 _ _ _ _ _ _ rfl) ?_
     refine .as ((k + 1 : Nat) : Int) (by (try simp only); (try push_cast); (try omega)) (by simp only [mn]; omega) (by simp only [mx]; omega) ?_
     refine ⟨(k + 1, upd (upd g (k + 1) (g (k + 1) + g k / 256)) k (g k % 256)), ⟨hk', fun j hj => ?_, fun j hj1 hj2 => ?_, hcs⟩, by (try simp only); omega, ⟨⟨rfl, rfl, rfl, rfl, rfl, rfl, trivial⟩, .refl _, rfl⟩⟩
     · simp only at hj ⊢
       by_cases e : j = k
       · subst e; rw [qr]; omega
       · rw [qt _ _ _ _ e, qt _ _ _ _ (by omega)]; exact hlo j (by omega)
     · simp only at hj1 ⊢
       rw [qt _ _ _ _ (by omega)]
       by_cases e : j = k + 1
       · subst e; rw [qr, if_pos rfl]; omega
       · rw [qt _ _ _ _ e, if_neg e]
         have := hhi j (by omega) hj2
         rwa [if_neg (by omega)] at this
   · obtain rfl : k = 66 := by (try simp only at hkg); omega
     have hby := bytes67 V g hlo (by have := hhi 66 (Nat.le_refl _) (by decide); exact this.1) hV hs
     refine cvs (fun w' hw => hre (some ⟨bl, 0, none⟩) 67 w' (.inr ⟨bl, rfl, hw.lt (List.mem_of_getElem? (i := 4) rfl) rfl, fun j hj => by rw [hw.cell (k := 4) rfl j, Q5 _ _ _ _ hj]; exact congrArg (fun z => some (Value.int .i64 z)) (hby j hj)⟩)) ?_
     refine sN 3 rfl (by rw [show (k32 (V % L0)).size = 32 from Qc _ _ _]; rfl) (by unfold k32 row; exact List.all_eq_true.2 fun v hv => Zl _ _ _ v hv) ?_ (by rw [show (k32 (V % L0)).size = 32 from Qc _ _ _]; kernel_rfl)
     refine ldN 3 rfl (Qc _ _ _) ?_
     exact rt rfl
end
section
open Go.RowKit Go.Sx
theorem le32_leN (l : List UInt8) (h : l.length = 32) : qU (leN l) = l := by
 refine leN_inj _ _ (by rw [qC, h]) (qbd _ ?_)
 have := qbB l
 rw [h] at this; exact this
theorem apB {N : Nat} {M : Bks} {B : World} {F : Option Nat} {L : List Ent} (k : Nat) {cs : Array Bool} {r : Sx.Own} {n : Nat} {pre l : List UInt8} {x : Value} {next : Value → List Ent → Prop}
 (hk : L[k]? = some (se r (Lib.byteCells pre) 5)) (hR : Rw 1 n r (Lib.byteCells pre)) (hrd : ∀ w, St M B w L → Rd w x (Lib.byteCells l)) (hb : n + l.length ≤ 10000000)
 (go : ∀ r', Rw 1 (n + l.length) r' (Lib.byteCells (pre ++ l)) → next (sv r' (n + l.length)) (L.set k (se r' (Lib.byteCells (pre ++ l)) 5))) : BiP ⟨Tryz.prog, tab, N, M, B, F⟩ .append #[48, 48] 48 cs [sv r n, x] L next := by
 refine ap (C := ⟨Tryz.prog, tab, N, M, B, F⟩) k (m := l.length) (news := Lib.byteCells l) qe rfl za rfl hk hR (fun w hs => ?_) (by omega) (by unfold maxLen; omega) (fun r' hr' => ?_)
 · have := (hrd w hs).src (P := Tryz.prog) ZZ (fun u hu => by obtain ⟨_, _, rfl⟩ := List.mem_map.1 hu; rfl)
   rwa [Lib.byteCells_length] at this
 · rw [← Lib.byteCells_append] at hr' ⊢; exact go r' hr'
theorem qaW (b0 : Nat) : Rw 1 0 (some (b0, 0, [])) (Lib.byteCells []) := ⟨rfl, by decide, by decide, rfl⟩
theorem rdw {M : Bks} {B w : World} {L : List Ent} (hs : St M B w L) (k : Nat) {r : Sx.Own} {n : Nat} {l : List UInt8} (hk : L[k]? = some (se r (Lib.byteCells l) 5)) (hR : Rw 1 n r (Lib.byteCells l)) : Rd w (sv r n) (Lib.byteCells l) := Rd.own hs k hk hR
theorem rsign_core (n : Nat) (v : Value) (bs : List UInt8) (w : World) (hrd : Rd w v (Lib.byteCells bs)) (hn : bs.length ≤ 10000) (se pn R fn H sn : Nat) (sal : List UInt8) (Q : Fin PP × Fin PP) (hsal : sal.length = 32) (hles : qU (leN sal) = sal)
 (hsec : ∀ w, Calls Tryz.prog 43 ([.agg (k32 n)] : List Value).toArray w fun e w' => e = .returned (.tuple #[.agg (k32 se), .agg (k32 (leN sal))]) ∧ Below w.heap.size w w')
 (hpub : ∀ w, Calls Tryz.prog 12 ([.agg (k32 n)] : List Value).toArray w fun e w' => e = .returned (.agg (k32 pn)) ∧ Below w.heap.size w w')
 (hres : ∀ w v, Rd w v (Lib.byteCells (sal ++ bs)) → Calls Tryz.prog 89 ([v] : List Value).toArray w fun e w' => e = .returned (.agg (k32 R)) ∧ Below w.heap.size w w')
 (hrch : ∀ w v, Rd w v (Lib.byteCells (qU fn ++ qU pn ++ bs)) → Calls Tryz.prog 89 ([v] : List Value).toArray w fun e w' => e = .returned (.agg (k32 H)) ∧ Below w.heap.size w w')
 (hm : ∀ X Y Z T, Rq X Y Z T gG → ∀ w, Calls Tryz.prog 45 ([.agg (rp X Y Z T), .agg (k32 R)] : List Value).toArray w fun e w' => ∃ x : Nat × Nat × Nat × Nat, Rq x.1 x.2.1 x.2.2.1 x.2.2.2 Q ∧ e = .returned (.agg (rp x.1 x.2.1 x.2.2.1 x.2.2.2)) ∧ Below w.heap.size w w')
 (hk : ∀ X Y Z T, Rq X Y Z T Q → ∀ w, Calls Tryz.prog 44 ([.agg (rp X Y Z T)] : List Value).toArray w fun e w' => e = .returned (.agg (k32 fn)) ∧ Below w.heap.size w w')
 (ht : ∀ w, Calls Tryz.prog 90 ([.agg (k32 H), .agg (k32 se), .agg (k32 R)] : List Value).toArray w fun e w' => e = .returned (.agg (k32 sn)) ∧ Below w.heap.size w w') :
 Calls Tryz.prog 52 ([.agg (k32 n), v] : List Value).toArray w fun e w' => e = .returned (qcn (qU fn ++ qU sn)) ∧ Below w.heap.size w w' := by
 refine qA qe Tryz.func52 rfl Tryz.ntmps52 rfl (St.start w) ?_
 intro b2 b4
 refine ldN 0 rfl (qg _) ?_
 refine cv (fun w => hsec w) ?_
 intro b5 b6
 refine sN 2 rfl (by rw [qg]; rfl) (qH _) ?_ (by kernel_rfl)
 refine sN 3 rfl (by rw [qg]; rfl) (qH _) ?_ (by kernel_rfl)
 refine ldN 0 rfl (qg _) ?_
 refine cv (fun w => hpub w) ?_
 intro b7
 refine sN 4 rfl (by rw [qg]; rfl) (qH _) ?_ (by kernel_rfl)
 refine .mk #[] 5 (fun w => bs0 w) (fun b0 => ?_)
 refine ⟨.mk 0 32 32 rfl rfl rfl (by decide) (by decide) (by decide) (by simp) (.on (by decide) ?_)⟩
 refine apB 5 (r := some (b0, 0, [])) (n := 0) (pre := []) (l := sal) rfl (qaW b0) (fun w' hs => by have := zR hs 3 rfl; rwa [hles] at this) (by omega) (fun r1 hr1 => ?_)
 refine apB 5 (r := r1) (l := bs) rfl hr1 (fun w' hs => hrd.below hs.below) (by omega) (fun r2 hr2 => ?_)
 rw [hsal, List.nil_append] at hr2 ⊢
 refine cvs (fun w' hs => hres w' _ (rdw hs 5 rfl hr2)) ?_
 intro b8
 refine sN 6 rfl (by rw [qg]; rfl) (qH _) ?_ (by kernel_rfl)
 refine cut (α := Nat) (fun _ => True) (fun b9 => ⟨[(1, v), (4, ptr b4), (5, ptr b5), (7, ptr b7), (8, ptr b8), (9, ptr b9)], [dead, cl b4 (List.replicate 64 (Value.int .u8 0)).toArray 41, cl b5 (k32 se) 36, dead, cl b7 (k32 pn) 36, cl b8 (k32 R) 36, cl b9 (k32 fn) 36], []⟩) ?_ ?_
 · refine drs [dead, dead, dead, dead, dead, dead, cl b8 (k32 R) 36] [5] (.t 1 (.b 0 4 (.b 2 4 (.b 3 4 (.n 4 (.n 5 .nil)) (.n 3 (.n 5 .nil))) (.n 2 (.n 3 (.n 5 .nil)))) (.n 0 (.n 2 (.n 3 (.n 5 .nil)))))) qe qk (by kernel_rfl) (.dead (.dead (.dead (.dead (.dead (.dead (.cons .nil))))))) ?_
   refine ldN 6 rfl (qg _) ?_
   refine ⟨?_, ?_⟩
   · refine ce (fun w _ => rg (qcA w)) (fun g hg => ?_)
     refine ⟨(.dead (.dead (.dead (.dead (.dead (.dead (.cons .nil))))))), ?_⟩
     refine ⟨?_, ?_⟩
     · refine ce (fun w _ => hm _ _ _ _ hg w) (fun q hq => ?_)
       refine ⟨(.dead (.dead (.dead (.dead (.dead (.dead (.cons .nil))))))), ?_⟩
       refine ⟨?_, ?_⟩
       · refine cv (fun w => hk _ _ _ _ hq w) ?_
         refine ⟨(.dead (.dead (.dead (.dead (.dead (.dead (.cons .nil))))))), ?_⟩
         intro b9
         refine ⟨(.dead (.dead (.dead (.dead (.dead (.dead (.cons .nil))))))), ?_⟩
         refine sN 7 rfl (by rw [qg]; rfl) (qH _) ?_ (by kernel_rfl)
         exact ⟨b9, trivial, ⟨rfl, rfl, rfl, rfl, rfl, rfl, trivial⟩, .dead (.cons (.cons (.dead (.cons (.drop (.cons (.cons .nil))))))), rfl⟩
       · intro b9
         refine ⟨(.dead (.dead (.dead (.dead (.dead (.dead (.cons .nil))))))), ?_⟩
         refine cv (fun w => hk _ _ _ _ hq w) ?_
         refine ⟨(.dead (.dead (.dead (.dead (.dead (.dead (.cons .nil))))))), ?_⟩
         refine sN 7 rfl (by rw [qg]; rfl) (qH _) ?_ (by kernel_rfl)
         exact ⟨b9, trivial, ⟨rfl, rfl, rfl, rfl, rfl, rfl, trivial⟩, .dead (.cons (.cons (.dead (.cons (.drop (.cons (.cons .nil))))))), rfl⟩
     · intro b9
       refine ⟨(.dead (.dead (.dead (.dead (.dead (.dead (.cons .nil))))))), ?_⟩
       refine ce (fun w _ => hm _ _ _ _ hg w) (fun q hq => ?_)
       refine ⟨(.dead (.dead (.dead (.dead (.dead (.dead (.cons .nil))))))), ?_⟩
       refine cv (fun w => hk _ _ _ _ hq w) ?_
       refine ⟨(.dead (.dead (.dead (.dead (.dead (.dead (.cons .nil))))))), ?_⟩
       refine sN 7 rfl (by rw [qg]; rfl) (qH _) ?_ (by kernel_rfl)
       exact ⟨b9, trivial, ⟨rfl, rfl, rfl, rfl, rfl, rfl, trivial⟩, .dead (.cons (.cons (.dead (.cons (.drop (.cons (.cons .nil))))))), rfl⟩
   · intro b9
     refine ⟨(.dead (.dead (.dead (.dead (.dead (.dead (.cons .nil))))))), ?_⟩
     refine ce (fun w _ => rg (qcA w)) (fun g hg => ?_)
     refine ⟨(.dead (.dead (.dead (.dead (.dead (.dead (.cons .nil))))))), ?_⟩
     refine ce (fun w _ => hm _ _ _ _ hg w) (fun q hq => ?_)
     refine ⟨(.dead (.dead (.dead (.dead (.dead (.dead (.cons .nil))))))), ?_⟩
     refine cv (fun w => hk _ _ _ _ hq w) ?_
     refine ⟨(.dead (.dead (.dead (.dead (.dead (.dead (.cons .nil))))))), ?_⟩
     refine sN 7 rfl (by rw [qg]; rfl) (qH _) ?_ (by kernel_rfl)
     exact ⟨b9, trivial, ⟨rfl, rfl, rfl, rfl, rfl, rfl, trivial⟩, .dead (.cons (.cons (.dead (.cons (.drop (.cons (.cons .nil))))))), rfl⟩
 · intro b9 _
   refine cut (α := Nat) (fun _ => True) (fun b10 => ⟨[(4, ptr b4), (5, ptr b5), (8, ptr b8), (9, ptr b9), (10, ptr b10)], [dead, cl b4 (List.replicate 64 (Value.int .u8 0)).toArray 41, cl b5 (k32 se) 36, dead, dead, cl b8 (k32 R) 36, cl b9 (k32 fn) 36, cl b10 (k32 H) 36], []⟩) ?_ ?_
   · refine drs [] [9] (.t 1 (.t 3 (.t 5 (.b 0 8 (.b 2 8 (.b 4 8 (.b 6 8 (.b 7 8 (.n 8 (.n 9 .nil)) (.n 7 (.n 9 .nil))) (.n 6 (.n 7 (.n 9 .nil)))) (.n 4 (.n 6 (.n 7 (.n 9 .nil))))) (.n 2 (.n 4 (.n 6 (.n 7 (.n 9 .nil)))))) (.n 0 (.n 2 (.n 4 (.n 6 (.n 7 (.n 9 .nil)))))))))) qe qk (by kernel_rfl) .nil ?_
     refine ⟨.mk 0 32 32 rfl rfl rfl (by decide) (by decide) (by decide) (by simp) (.on (by decide) ?_)⟩
     refine ⟨.mk 0 32 32 rfl rfl rfl (by decide) (by decide) (by decide) (by simp) (.on (by decide) ?_)⟩
     refine ⟨?_, ?_⟩
     · refine .mk #[] 5 (fun w => bs0 w) (fun b0 => ?_)
       refine ⟨.nil, ?_⟩
       refine ⟨?_, ?_⟩
       · refine apB 7 (r := (some (b0, 0, []))) (n := 0) (pre := []) (l := (qU fn)) rfl (qaW b0) (fun w' hs => zR hs 6 rfl) (by rw [qC]; omega) (fun r1 hr1 => ?_)
         rw [qC] at hr1 ⊢
         refine ⟨.nil, ?_⟩
         refine ⟨?_, ?_⟩
         · refine apB 7 (r := r1) (n := (0 + 32)) (pre := ([] ++ (qU fn))) (l := (qU pn)) rfl hr1 (fun w' hs => zR hs 4 rfl) (by rw [qC]; omega) (fun r2 hr2 => ?_)
           rw [qC] at hr2 ⊢
           refine ⟨.nil, ?_⟩
           refine ⟨?_, ?_⟩
           · refine apB 7 (r := r2) (n := ((0 + 32) + 32)) (pre := (([] ++ (qU fn)) ++ (qU pn))) (l := bs) rfl hr2 (fun w' hs => hrd.below hs.below) (by omega) (fun r3 hr3 => ?_)
             refine ⟨.nil, ?_⟩
             refine ⟨?_, ?_⟩
             · refine cvs (fun w' hs => hrch w' _ (rdw hs 7 rfl hr3)) ?_
               refine ⟨.nil, ?_⟩
               intro b10
               refine ⟨.nil, ?_⟩
               refine sN 8 rfl (by rw [qg]; rfl) (qH _) ?_ (by kernel_rfl)
               exact ⟨b10, trivial, ⟨rfl, rfl, rfl, rfl, rfl, trivial⟩, .dead (.cons (.cons (.dead (.dead (.cons (.cons (.drop (.cons .nil)))))))), rfl⟩
             · intro b10
               refine ⟨.nil, ?_⟩
               refine cvs (fun w' hs => hrch w' _ (rdw hs 7 rfl hr3)) ?_
               refine ⟨.nil, ?_⟩
               refine sN 8 rfl (by rw [qg]; rfl) (qH _) ?_ (by kernel_rfl)
               exact ⟨b10, trivial, ⟨rfl, rfl, rfl, rfl, rfl, trivial⟩, .dead (.cons (.cons (.dead (.dead (.cons (.cons (.drop (.cons .nil)))))))), rfl⟩
           · intro b10
             refine ⟨.nil, ?_⟩
             refine apB 7 (r := r2) (n := ((0 + 32) + 32)) (pre := (([] ++ (qU fn)) ++ (qU pn))) (l := bs) rfl hr2 (fun w' hs => hrd.below hs.below) (by omega) (fun r3 hr3 => ?_)
             refine ⟨.nil, ?_⟩
             refine cvs (fun w' hs => hrch w' _ (rdw hs 7 rfl hr3)) ?_
             refine ⟨.nil, ?_⟩
             refine sN 8 rfl (by rw [qg]; rfl) (qH _) ?_ (by kernel_rfl)
             exact ⟨b10, trivial, ⟨rfl, rfl, rfl, rfl, rfl, trivial⟩, .dead (.cons (.cons (.dead (.dead (.cons (.cons (.drop (.cons .nil)))))))), rfl⟩
         · intro b10
           refine ⟨.nil, ?_⟩
           refine apB 7 (r := r1) (n := (0 + 32)) (pre := ([] ++ (qU fn))) (l := (qU pn)) rfl hr1 (fun w' hs => zR hs 4 rfl) (by rw [qC]; omega) (fun r2 hr2 => ?_)
           rw [qC] at hr2 ⊢
           refine ⟨.nil, ?_⟩
           refine apB 7 (r := r2) (n := ((0 + 32) + 32)) (pre := (([] ++ (qU fn)) ++ (qU pn))) (l := bs) rfl hr2 (fun w' hs => hrd.below hs.below) (by omega) (fun r3 hr3 => ?_)
           refine ⟨.nil, ?_⟩
           refine cvs (fun w' hs => hrch w' _ (rdw hs 7 rfl hr3)) ?_
           refine ⟨.nil, ?_⟩
           refine sN 8 rfl (by rw [qg]; rfl) (qH _) ?_ (by kernel_rfl)
           exact ⟨b10, trivial, ⟨rfl, rfl, rfl, rfl, rfl, trivial⟩, .dead (.cons (.cons (.dead (.dead (.cons (.cons (.drop (.cons .nil)))))))), rfl⟩
       · intro b10
         refine ⟨.nil, ?_⟩
         refine apB 7 (r := (some (b0, 0, []))) (n := 0) (pre := []) (l := (qU fn)) rfl (qaW b0) (fun w' hs => zR hs 6 rfl) (by rw [qC]; omega) (fun r1 hr1 => ?_)
         rw [qC] at hr1 ⊢
         refine ⟨.nil, ?_⟩
         refine apB 7 (r := r1) (n := (0 + 32)) (pre := ([] ++ (qU fn))) (l := (qU pn)) rfl hr1 (fun w' hs => zR hs 4 rfl) (by rw [qC]; omega) (fun r2 hr2 => ?_)
         rw [qC] at hr2 ⊢
         refine ⟨.nil, ?_⟩
         refine apB 7 (r := r2) (n := ((0 + 32) + 32)) (pre := (([] ++ (qU fn)) ++ (qU pn))) (l := bs) rfl hr2 (fun w' hs => hrd.below hs.below) (by omega) (fun r3 hr3 => ?_)
         refine ⟨.nil, ?_⟩
         refine cvs (fun w' hs => hrch w' _ (rdw hs 7 rfl hr3)) ?_
         refine ⟨.nil, ?_⟩
         refine sN 8 rfl (by rw [qg]; rfl) (qH _) ?_ (by kernel_rfl)
         exact ⟨b10, trivial, ⟨rfl, rfl, rfl, rfl, rfl, trivial⟩, .dead (.cons (.cons (.dead (.dead (.cons (.cons (.drop (.cons .nil)))))))), rfl⟩
     · intro b10
       refine ⟨.nil, ?_⟩
       refine .mk #[] 5 (fun w => bs0 w) (fun b0 => ?_)
       refine ⟨.nil, ?_⟩
       refine apB 8 (r := (some (b0, 0, []))) (n := 0) (pre := []) (l := (qU fn)) rfl (qaW b0) (fun w' hs => zR hs 6 rfl) (by rw [qC]; omega) (fun r1 hr1 => ?_)
       rw [qC] at hr1 ⊢
       refine ⟨.nil, ?_⟩
       refine apB 8 (r := r1) (n := (0 + 32)) (pre := ([] ++ (qU fn))) (l := (qU pn)) rfl hr1 (fun w' hs => zR hs 4 rfl) (by rw [qC]; omega) (fun r2 hr2 => ?_)
       rw [qC] at hr2 ⊢
       refine ⟨.nil, ?_⟩
       refine apB 8 (r := r2) (n := ((0 + 32) + 32)) (pre := (([] ++ (qU fn)) ++ (qU pn))) (l := bs) rfl hr2 (fun w' hs => hrd.below hs.below) (by omega) (fun r3 hr3 => ?_)
       refine ⟨.nil, ?_⟩
       refine cvs (fun w' hs => hrch w' _ (rdw hs 8 rfl hr3)) ?_
       refine ⟨.nil, ?_⟩
       refine sN 7 rfl (by rw [qg]; rfl) (qH _) ?_ (by kernel_rfl)
       exact ⟨b10, trivial, ⟨rfl, rfl, rfl, rfl, rfl, trivial⟩, .dead (.cons (.cons (.dead (.dead (.cons (.cons (.cons .nil))))))), rfl⟩
   · intro b10 _
     refine ldN 7 rfl (qg _) ?_
     refine ldN 2 rfl (qg _) ?_
     refine ldN 5 rfl (qg _) ?_
     refine cv (fun w => ht w) ?_
     intro b11
     refine sN 8 rfl (by rw [qg]; rfl) (qH _) ?_ (by kernel_rfl)
     intro b12
     obtain ⟨D, hD⟩ : ∃ D, D = qU fn ++ qU sn := ⟨_, rfl⟩
     have hDl : D.length = 64 := by rw [hD, List.length_append, qC, qC]
     have hDc : (Lib.byteCells D).length = 64 := by rw [Lib.byteCells_length, hDl]
     have hd0 : ∀ i, i < 32 → (qU fn).getD i 0 = D.getD i 0 := fun i hi => by rw [hD]; simp [List.getD, List.getElem?_append_left (show i < (qU fn).length by rw [qC]; exact hi)]
     have hd1 : ∀ i, 32 ≤ i → (qU sn).getD (i - 32) 0 = D.getD i 0 := fun i hi => by rw [hD]; simp [List.getD, List.getElem?_append_right (show (qU fn).length ≤ i by rw [qC]; exact hi), qC]
     rw [← hD]
     have hput : ∀ i, i < 64 → ((Lib.byteCells D).take (i + 1) ++ (List.replicate 64 (Value.int .u8 0)).drop (i + 1)).toArray = ((Lib.byteCells D).take i ++ (List.replicate 64 (Value.int .u8 0)).drop i).toArray.setIfInBounds (nad 0 (nmu (Int.toNat (i : Int)) 1)) (.int .u8 (D.getD i 0).toNat) := fun i hi => by
      rw [qw, qu, Nat.zero_add, Nat.mul_one, Int.toNat_natCast, List.setIfInBounds_toArray, Zk _ _ _ (by rw [hDc]; rfl) i (by omega) (qbX D i (by omega))]
     refine lp qe (fun i : Nat => i ≤ 64) (fun i => ⟨[(4, ptr b4), (9, ptr b9), (11, ptr b11), (12, ptr b12), (13, .int .i64 i)], [dead, cl b4 (List.replicate 64 (Value.int .u8 0)).toArray 41, dead, dead, dead, dead, cl b9 (k32 fn) 36, dead, cl b11 (k32 sn) 36, cl b12 ((Lib.byteCells D).take i ++ (List.replicate 64 (Value.int .u8 0)).drop i).toArray 41], []⟩) (fun i => 64 - i) 0 (Nat.zero_le _)
      ⟨⟨rfl, rfl, rfl, rfl, rfl, trivial⟩, .dead (.cons (.dead (.dead (.dead (.dead (.cons (.dead (.cons (.cons .nil))))))))), rfl⟩ ?_
     intro i hi
     refine cd (fun h => ?_) (fun h => ?_)
     · have hlt : i < 64 := by omega
       refine cd (fun h2 => ?_) (fun h2 => ?_)
       · have hl2 : i < 32 := by omega
         refine ⟨by omega, by omega, ?_⟩
         refine ld1 6 rfl (v := .int .u8 (D.getD i 0).toNat) (by rw [qw, qu, Nat.zero_add, Nat.mul_one, Int.toNat_natCast, ← hd0 i hl2, qaN]; exact qag _ i (by rw [qC]; exact hl2)) ?_
         refine ⟨by omega, by omega, ?_⟩
         refine s1e 9 _ rfl (by rw [show (((Lib.byteCells D).take i ++ (List.replicate 64 (Value.int .u8 0)).drop i).toArray.size = 64) by simp [hDc]; omega, qw, qu, Nat.zero_add, Nat.mul_one, Int.toNat_natCast]; omega) (hput i hlt).symm ?_
         refine .as ((i + 1 : Nat) : Int) (by omega) (by simp only [mn]; omega) (by simp only [mx]; omega) ?_
         exact ⟨i + 1, by omega, by omega, ⟨rfl, rfl, rfl, rfl, rfl, trivial⟩, .dead (.cons (.dead (.dead (.dead (.dead (.cons (.dead (.cons (.cons .nil))))))))), rfl⟩
       · have hl2 : 32 ≤ i := by omega
         refine .as ((i - 32 : Nat) : Int) (by omega) (by simp only [mn]; omega) (by simp only [mx]; omega) ?_
         refine ⟨by omega, by omega, ?_⟩
         refine ld1 8 rfl (v := .int .u8 (D.getD i 0).toNat) (by rw [qw, qu, Nat.zero_add, Nat.mul_one, Int.toNat_natCast, ← hd1 i hl2, qaN]; exact qag _ _ (by rw [qC]; omega)) ?_
         refine ⟨by omega, by omega, ?_⟩
         refine s1e 9 _ rfl (by rw [show (((Lib.byteCells D).take i ++ (List.replicate 64 (Value.int .u8 0)).drop i).toArray.size = 64) by simp [hDc]; omega, qw, qu, Nat.zero_add, Nat.mul_one, Int.toNat_natCast]; omega) (hput i hlt).symm ?_
         refine .as ((i + 1 : Nat) : Int) (by omega) (by simp only [mn]; omega) (by simp only [mx]; omega) ?_
         exact ⟨i + 1, by omega, by omega, ⟨rfl, rfl, rfl, rfl, rfl, trivial⟩, .dead (.cons (.dead (.dead (.dead (.dead (.cons (.dead (.cons (.cons .nil))))))))), rfl⟩
     · obtain rfl : i = 64 := by omega
       have hE : ((Lib.byteCells D).take 64 ++ (List.replicate 64 (Value.int .u8 0)).drop 64).toArray = (Lib.byteCells D).toArray := by rw [List.take_of_length_le (by omega)]; simp
       rw [hE]
       refine ldN 9 rfl (by simp [hDc]) ?_
       refine sN 1 rfl (by rw [List.size_toArray, hDc]; rfl) (ZR _) ?_ (by rw [List.size_toArray, hDc]; kernel_rfl)
       refine ldN 1 rfl (by simp [hDc]) ?_
       exact rt rfl
theorem rsign_any (n : Nat) (v : Value) (bs : List UInt8) (w : World) (hrd : Rd w v (Lib.byteCells bs)) (hn : bs.length ≤ 10000) : Calls Tryz.prog 52 ([.agg (k32 n), v] : List Value).toArray w fun e w' => e = .returned (qcn (qde n bs)) ∧ Below w.heap.size w w' := by
 have hl3 : rndN n bs < 115792089237316195423570985008687907853269984665640564039457584007913129639936 := by unfold rndN; exact resN_lt _
 have hl1 : Zv (qb4 n bs) (zo n) bs < 115792089237316195423570985008687907853269984665640564039457584007913129639936 := by unfold Zv; exact resN_lt _
 have h0 := rsign_core n v bs w hrd hn (qct n) (zo n) (rndN n bs) (qb4 n bs) (Zv (qb4 n bs) (zo n) bs) (sndN n bs) (qcu n) (firP n bs) (qbv n) (le32_leN _ (qbv n))
  (fun w => qbP n w) (fun w => qbQ n w) (fun w v hr => by unfold rndN; exact qaX w v _ hr (by rw [List.length_append, qbv]; omega)) (fun w v hr => by unfold Zv; exact qaX w v _ hr (by rw [List.length_append, List.length_append, qC, qC]; omega))
  (fun X Y Z T h w => by unfold firP; exact rg (gr_many X Y Z T (rndN n bs) gG h hl3 w)) (fun X Y Z T h w => by unfold qb4; exact gr_key X Y Z T (firP n bs) h w)
  (fun w => by unfold sndN; exact rtimes3_any _ _ _ hl1 (secN_lt n) hl3 w)
 unfold qde; exact h0
end
section
open Go.RowKit Go.Sx
theorem pub_on (n : Nat) : OnP fd (pubP n) := fld.on_mul gG qcV (qct n)
theorem key_pub (n : Nat) : (cof (zo n)).1 = true ∧ qdn (zo n) = pubP n := by
 unfold zo
 exact ⟨by rw [cof_keyP _ (pub_on n)], cofP_key _ (pub_on n)⟩
theorem firN_lt (n : Nat) (bs : List UInt8) : qb4 n bs < 115792089237316195423570985008687907853269984665640564039457584007913129639936 := by unfold qb4; exact keyP_lt _
theorem sndN_lt (n : Nat) (bs : List UInt8) : sndN n bs < L0 := by unfold sndN; exact Nat.mod_lt _ (by decide +kernel)
theorem sig_halves (a b : Nat) (ha : a < 115792089237316195423570985008687907853269984665640564039457584007913129639936) (hb : b < 115792089237316195423570985008687907853269984665640564039457584007913129639936) : ZV (qU a ++ qU b) = a ∧ Z4 (qU a ++ qU b) = b := by
 unfold ZV Z4
 exact ⟨by rw [List.take_left' (qC a)]; exact qbd a ha, by rw [List.drop_left' (qC a)]; exact qbd b hb⟩
theorem q_core (a h r s : Nat) (hs : s = (h * a + r) % L0) (P : Fin PP × Fin PP) (hP : P = qV qN fd gG a) : QD qN fd (qV qN fd gG s) (negA (qV qN fd P h)) = qV qN fd gG r := by
 have hon := fun k => fld.on_mul gG qcV k
 have e1 : qV qN fd gG s = QD qN fd (qV qN fd gG (h * a)) (qV qN fd gG r) := by
  rw [hs, show (h * a + r) % L0 = (h * a + r) % LL from rfl, mul_rest, fld.mul_add gG qcV]
 rw [hP, fld.mul_mul gG qcV, Nat.mul_comm a h, e1, qdQ (qV qN fd gG (h * a)), fld.add_assoc _ _ (negA (qV qN fd gG (h * a))) (hon r) (hon _) (on_neg _ (hon _)), show QD qN fd (qV qN fd gG (h * a)) (negA (qV qN fd gG (h * a))) = (0, 1) from fld.add_neg _ (hon _), fld.add_zero _ (hon r)]
theorem right_sig (n : Nat) (bs : List UInt8) : qbx (zo n) (qde n bs) bs = true := by
 obtain ⟨k1, k2⟩ := key_pub n
 have hsl := sndN_lt n bs
 obtain ⟨h1, h2⟩ := sig_halves (qb4 n bs) (sndN n bs) (firN_lt n bs) (Nat.lt_trans hsl L0_lt)
 have hq : qaK (zo n) (qde n bs) bs = firP n bs := by
  unfold qaK qde
  rw [h1, h2, k2]
  unfold firP
  exact q_core (qct n) (Zv (qb4 n bs) (zo n) bs) (rndN n bs) (sndN n bs) (by unfold sndN; rfl) (pubP n) (by unfold pubP; rfl)
 unfold qbx
 rw [k1, hq]
 unfold qde
 rw [h1, h2, decide_eq_true hsl, decide_eq_true (show qab (firP n bs) = qb4 n bs by unfold qb4; rfl)]
 rfl
end
section
open Go.RowKit Go.Sx
theorem qdr : Tryz.prog.underlying 9 = some .string := by kernel_rfl
theorem undU8 : Tryz.prog.underlying 5 = some (.int .u8) := by kernel_rfl
abbrev VS (l : List UInt8) : Value := .string ⟨l.toArray⟩
theorem bs2 (x y : Int) (w : World) : (Instr.buildSlice 48 2 #[(0, .int .u8 x), (1, .int .u8 y)]).run Tryz.prog w = .ok (.slice (some ⟨w.heap.size, 0, none⟩) 2 2) (w.alloc (.cells #[.int .u8 x, .int .u8 y] 5)) := by
 obtain ⟨i, hi, hz, hs, hb⟩ := QE za
 exact run_buildSlice w _ _ 2 _ #[.int .u8 x, .int .u8 y] i (.int .u8 0) ZZ hi hz (by rw [hs]; decide) (by rw [hs]; decide) (by rw [hs]; kernel_rfl)
theorem one8 (l : List UInt8) : ∀ u ∈ Lib.byteCells l, u.oneCell' = true := by
 intro u hu
 obtain ⟨b, _, rfl⟩ := List.mem_map.1 hu
 rfl
theorem rd_str {w : World} {v : Value} {l : List UInt8} (h : Rd w v (Lib.byteCells l)) : (convert 48 9 v).run Tryz.prog w = .ok (VS l) w := by
 obtain ⟨a, c, rfl, h1⟩ := h
 rw [Lib.byteCells_length]
 by_cases h0 : l = []
 · subst h0
   cases a with
   | none => exact run_convert_bytes_nil w _ _ ZZ undU8 0 c _ qdr
   | some a => exact run_convert_bytes_back w _ _ _ a c [] ZZ undU8 qdr (fun j hj => by cases hj)
 · obtain ⟨b, o, rfl, _, hc⟩ := h1 (by intro h; apply h0; have := congrArg List.length h; rw [Lib.byteCells_length] at this; exact List.eq_nil_of_length_eq_zero this)
   exact run_convert_bytes_back w _ _ _ _ c l ZZ undU8 qdr (fun j hj => by rw [QC]; exact hc j _ (by simp [Lib.byteCells, hj]))
end
section
open Go.RowKit Go.Sx
abbrev Bs := List UInt8
theorem take_snoc (l : List UInt8) (m : Nat) (h : m < l.length) : l.take (m + 1) = l.take m ++ [l[m]] := List.take_succ_eq_append_getElem h
def zr : ByteArray := ⟨#[48, 49, 50, 51, 52, 53, 54, 55, 56, 57, 97, 98, 99, 100, 101, 102]⟩
theorem hexes_any (w : World) : Calls Tryz.prog 151 ([] : List Value).toArray w fun e w' => e = .returned (.agg #[.string zr, .int .i64 4]) ∧ Below w.heap.size w w' := by
 refine qA qe Tryz.func151 rfl Tryz.ntmps151 rfl (St.start w) ?_
 intro b
 refine bu (c := #[.string zr, .int .i64 4]) (by kernel_rfl) ?_
 refine sN 0 rfl rfl rfl ?_ (by kernel_rfl)
 refine ldN 0 rfl rfl ?_
 exact rt rfl
theorem hex_any (v : Value) (bs : List UInt8) (hbs : bs.length ≤ 1000000) (w : World) (hv : Rd w v (Lib.byteCells bs)) : Calls Tryz.prog 118 ([v] : List Value).toArray w fun e w' => e = .returned (VS (Qt zr 4 bs)) ∧ Below w.heap.size w w' := by
 refine qA qe Tryz.func118 rfl Tryz.ntmps118 rfl (St.start w) ?_
 refine cv hexes_any ?_
 refine cvs (fun w' hs => code_any zr 4 (by decide) (by decide) v bs hbs w' (hv.below hs.below)) ?_
 exact rt rfl
def zg : List UInt8 → List UInt8
 | [] => []
 | c :: l => sgn zr (c.toNat / 16) :: sgn zr (c.toNat % 16) :: zg l
theorem rhexL_snoc (l : List UInt8) (c : UInt8) : zg (l ++ [c]) = zg l ++ [sgn zr (c.toNat / 16), sgn zr (c.toNat % 16)] := by
 induction l with
 | nil => rfl
 | cons d l ih => simp only [List.cons_append, zg, ih]
theorem QP (l : List UInt8) : (zg l).length = 2 * l.length := by
 induction l with
 | nil => rfl
 | cons d l ih => simp only [zg, List.length_cons, ih]; omega
theorem cells_ne {l : List UInt8} (h : l ≠ []) : Lib.byteCells l ≠ [] := by intro h1; apply h; have := congrArg List.length h1; rw [Lib.byteCells_length] at this; exact List.eq_nil_of_length_eq_zero this
theorem cell_at {l : List UInt8} {i : Nat} (h : i < l.length) : (Lib.byteCells l)[i]? = some (.int .u8 l[i].toNat) := by simp [Lib.byteCells, h]
theorem rhex_any (v : Value) (l : List UInt8) (hl : l.length ≤ 1000000) (w : World) (hv : Rd w v (Lib.byteCells l)) : Calls Tryz.prog 92 ([v] : List Value).toArray w fun e w' => e = .returned (VS (zg l)) ∧ Below w.heap.size w w' := by
 have hv0 := hv
 obtain ⟨va, vc, rfl, _⟩ := hv
 rw [Lib.byteCells_length] at hv0 ⊢
 refine qA qe Tryz.func92 rfl Tryz.ntmps92 rfl (St.start w) ?_
 refine lp qe (fun x : Nat × Sx.Own => x.1 ≤ l.length ∧ Rw 1 (zg (l.take x.1)).length x.2 (Lib.byteCells (zg (l.take x.1)))) (fun x => ⟨[(0, .slice va l.length vc), (3, .string zr), (4, sv x.2 (zg (l.take x.1)).length), (5, .int .i64 x.1)], [se x.2 (Lib.byteCells (zg (l.take x.1))) 5], []⟩) (fun x => l.length - x.1)
  (0, none) ⟨Nat.zero_le _, Rw.nil 1⟩ ⟨⟨rfl, rfl, rfl, rfl, trivial⟩, .pad .nil, rfl⟩ ?_
 rintro ⟨i, r⟩ ⟨hi, hR⟩
 simp only at hi hR
 refine cd (fun h => ?_) (fun h => ?_)
 · have hlt : i < l.length := by (try simp only at h); omega
   obtain ⟨b, o, c, e, hb, hcell⟩ := rd_at hv0 (cells_ne (by intro h; rw [h] at hlt; cases hlt))
   injection e with e1 e2 e3
   subst e1 e3
   have hcell := hcell i _ (cell_at hlt)
   have hsn := rhexL_snoc (l.take i) l[i]
   rw [← take_snoc l i hlt] at hsn
   have hlen := QP (l.take i)
   rw [List.length_take, Nat.min_eq_left hi] at hlen
   have hc : l[i].toNat < 256 := UInt8.toNat_lt _
   generalize l[i].toNat = ch at *
   refine dr [] 99 (.t 0 (.t 1 (.t 2 (.t 3 (.t 4 (.t 5 (.t 6 (.t 7 (.t 8 (.t 9 (.t 10 (.t 11 (.t 12 (.t 13 (.t 14 (.n 15 (.n 16 (.n 17 .nil)))))))))))))))))) qe qk (by kernel_rfl) .nil ?_
   refine ⟨by (try simp only); omega, by (try simp only); omega, ?_⟩
   refine ldo (v := .int .u8 ch) (by rw [qw, qu]; simpa using hcell) hb ?_
   refine ⟨by omega, by simp only [mx]; omega, by decide, ?_⟩
   refine chP (ch / 16) rfl (by show ch / 16 < 16; omega) ?_
   refine ⟨by (try simp only); omega, by (try simp only); omega, ?_⟩
   refine ldo (v := .int .u8 ch) (by rw [qw, qu]; simpa using hcell) hb ?_
   refine ⟨by omega, by simp only [mx]; omega, by decide, ?_⟩
   refine chP (ch % 16) rfl (by show ch % 16 < 16; omega) ?_
   refine .mk _ _ (bs2 _ _) (fun b' => ?_)
   refine ⟨.nil, ?_⟩
   refine ap 0 (news := Lib.byteCells [sgn zr (ch / 16), sgn zr (ch % 16)]) (m := 2) qe rfl za rfl rfl hR (srcE (C := ⟨Tryz.prog, tab, 31, [], w, none⟩) (e' := 5) (tx := 48) (z := 1) rfl qe (src 1 rfl rfl) rfl (one8 _)) (by (try simp only); omega) (by (try simp only); unfold maxLen; omega) (fun r' hR' => ?_)
   refine ⟨.nil, ⟨.nil, ?_⟩⟩
   refine .as ((i + 1 : Nat) : Int) (by simp) (by simp only [mn]; omega) (by simp only [mx]; omega) ?_
   refine ⟨(i + 1, r'), ⟨by (try simp only); omega, ?_⟩, by (try simp only); omega, ⟨⟨rfl, rfl, ?_, rfl, trivial⟩, ?_, rfl⟩⟩
   · simp only [hsn, List.length_append, Lib.byteCells_append]; exact hR'
   · simp only [hsn, List.length_append]; rfl
   · simp only [hsn, Lib.byteCells_append]; exact .cons .nil
 · obtain rfl : i = l.length := by (try simp only at h); omega
   refine semV (fun w' hs => rd_str (Rd.own hs 0 rfl hR)) ?_
   exact rt (by rw [List.take_length]; rfl)
end
end Go.Proofs.YtbgefoamhdgnaaaGreatDoor
section
namespace Go.Sx
open Go Go.RowKit
variable {C : Cx} {L : List Ent}
abbrev siE (b : Nat) (s : ByteArray) (pos : Nat) : Ent := ⟨b, some (.stringIter s pos), false, none⟩
theorem rngS {t : TypeId} {s : ByteArray} {next : Value → List Ent → Prop} (ht : C.P.underlying t = some .string) (go : ∀ b', next (.pointer (some ⟨b', 0, none⟩)) (L ++ [siE b' s 0])) : zY C (Instr.range t (.string s)) L next :=
 ⟨fun w hs => ⟨_, _, _, by simp only [Instr.range, Sem.run_bind, run_underlying ht, Result.andThen_ok, Sem.run_pure, run_newObj_alloc], hs.alloc (.stringIter s 0), go _⟩⟩
theorem nxtS (j : Nat) {ty : TypeId} {it pos : Nat} {s : ByteArray} {next : Value → List Ent → Prop} (hj : L[j]? = some (siE it s pos)) (g0 : s.size ≤ pos → next (.tuple #[.bool false]) L)
 (g1 : pos < s.size → next (.tuple #[.bool true, .int .i64 pos, .int .i32 (Utf8.decode s pos).1]) (L.set j (siE it s (pos + (Utf8.decode s pos).2)))) : zY C (Instr.next (.pointer (some ⟨it, 0, none⟩)) true ty) L next := by
 refine ⟨fun w hs => ?_⟩
 have hg := hs.nth hj
 by_cases h : pos < s.size
 · refine ⟨_, _, _, ?_, hs.put hj, g1 h⟩
   simp only [Instr.next, Sem.run_bind, zP hg (by simp), Result.andThen_ok, if_pos h]
   rw [ZD hg (by simp)]
   rfl
 · refine ⟨_, _, _, ?_, hs, g0 (by omega)⟩
   simp only [Instr.next, Sem.run_bind, zP hg (by simp), Result.andThen_ok, if_neg h]
   rfl
end Go.Sx
namespace Go.Proofs.YtbgefoamhdgnaaaGreatDoor
open Go.RowKit Go.Sx
theorem get_str (s : Bs) (i : Nat) (h : i < s.length) : (⟨s.toArray⟩ : ByteArray).get! i = s[i] := by
 show s.toArray[i]! = s[i]
 simp [h]
theorem dec_lo (s : Bs) (i : Nat) (h : i < s.length) (hb : s[i].toNat < 128) : Utf8.decode ⟨s.toArray⟩ i = (s[i].toNat, 1) := by
 unfold Utf8.decode
 simp only [Nat.add_zero, get_str s i h, if_pos hb]
theorem dec_hi (s : Bs) (i : Nat) (h : i < s.length) (hb : 128 ≤ s[i].toNat) : 128 ≤ (Utf8.decode ⟨s.toArray⟩ i).1 := by
 unfold Utf8.decode Utf8.runeError
 simp only [Nat.add_zero, get_str s i h]
 rw [if_neg (by omega)]
 repeat' split
 all_goals (simp only; try (simp only [Bool.and_eq_true, decide_eq_true_eq] at *); try omega)
theorem cfunc_any (s : Bs) (od : Nat → Bool) (hod : ∀ c, 128 ≤ c → od c = true)
 (hf : ∀ i, i < s.length → ∀ w, Calls Tryz.prog 202 ([.int .i32 (Utf8.decode ⟨s.toArray⟩ i).1] : List Value).toArray w fun e w' => e = .returned (.bool (od (Utf8.decode ⟨s.toArray⟩ i).1)) ∧ Below w.heap.size w w') (w : World) :
 Calls Tryz.prog 195 ([VS s, .func (.func 202) #[] #[]] : List Value).toArray w fun e w' => e = .returned (.bool (s.any fun c => od c.toNat)) ∧ Below w.heap.size w w' := by
 have hz : (⟨s.toArray⟩ : ByteArray).size = s.length := by simp [ByteArray.size]
 refine qA qe Tryz.func195 rfl Tryz.ntmps195 rfl (St.start w) ?_
 refine inl (C := ⟨Tryz.prog, tab, _, [], w, _⟩) qe Tryz.func234 rfl Tryz.ntmps234 rfl ?_
 refine inl (C := ⟨Tryz.prog, tab, _, [], w, _⟩) qe Tryz.func258 rfl Tryz.ntmps258 rfl ?_
 refine rngS qdr (fun b => ?_)
 refine lp qe (fun i : Nat => i ≤ s.length ∧ ∀ j (hj : j < s.length), j < i → od s[j].toNat = false) (fun i => ⟨[(1, .func (.func 202) #[] #[]), (2, .bool true), (10, ptr b)], [siE b ⟨s.toArray⟩ i], []⟩) (fun i => s.length - i) 0 ⟨Nat.zero_le _, fun j hj h => by omega⟩ ⟨⟨rfl, rfl, rfl, trivial⟩, .cons .nil, rfl⟩ ?_
 rintro i ⟨hi, hno⟩
 refine nxtS 0 rfl (fun h => ?_) (fun h => ?_)
 · obtain rfl : i = s.length := by rw [hz] at h; omega
   have hany : (s.any fun c => od c.toNat) = false := List.any_eq_false.2 fun c hc => by
    obtain ⟨j, hj, rfl⟩ := List.getElem_of_mem hc
    rw [hno j hj hj]; decide
   refine cf rfl ?_
   iterate 2 refine bk ?_
   exact rt (congrArg Value.bool hany.symm)
 · rw [hz] at h
   refine ct rfl ?_
   refine cv (v := .bool (od (Utf8.decode ⟨s.toArray⟩ i).1)) (fun w => hf i h w) ?_
   cases hb : od (Utf8.decode ⟨s.toArray⟩ i).1 with
   | true =>
    have hany : (s.any fun c => od c.toNat) = true := List.any_eq_true.2 ⟨s[i], List.getElem_mem h, by
     by_cases h1 : s[i].toNat < 128
     · rw [dec_lo s i h h1] at hb; exact hb
     · exact hod _ (by omega)⟩
    refine ct rfl ?_
    iterate 2 refine bk ?_
    exact rt (congrArg Value.bool ((decide_eq_true (show ((i : Nat) : Int) ≥ 0 by omega)).trans hany.symm))
   | false =>
    have h1 : s[i].toNat < 128 := by
     by_cases h1 : s[i].toNat < 128
     · exact h1
     · have := hod _ (dec_hi s i h (by omega)); rw [this] at hb; cases hb
    rw [dec_lo s i h h1] at hb ⊢
    refine cf rfl ?_
    refine ⟨i + 1, ⟨by omega, fun j hj h2 => ?_⟩, by omega, ⟨⟨rfl, rfl, rfl, trivial⟩, .cons .nil, rfl⟩⟩
    by_cases hji : j = i
    · subst hji; exact hb
    · exact hno j hj (by omega)
theorem str_ext (s : Bs) (l h : Nat) : (⟨s.toArray⟩ : ByteArray).extract l h = ⟨((s.take h).drop l).toArray⟩ := by
 apply ByteArray.ext
 apply Array.ext'
 simp [ByteArray.data_extract, List.extract_eq_take_drop, List.drop_take]
theorem slTT {s : Bs} (h : Nat) (hh : h ≤ s.length) {next : Value → Prop} {fb : Prop} {x : Int} (hx : x = h) (go : next (VS (s.take h))) : SliP .str (VS s) none (some x) none next fb := by
 subst hx
 refine ⟨.mk 0 h s.length ?_ ?_ rfl (Nat.zero_le _) hh ?_ (fun e => by cases e) ?_⟩
 · simp [oi, ByteArray.size]
 · simp [oi]
 · simp [ByteArray.size]
 · rw [str_ext, List.drop_zero]; exact go
theorem slFF {s : Bs} (l : Nat) (hl : l ≤ s.length) {next : Value → Prop} {fb : Prop} {x : Int} (hx : x = l) (go : next (VS (s.drop l))) : SliP .str (VS s) (some x) none none next fb := by
 subst hx
 refine ⟨.mk l s.length s.length ?_ ?_ rfl hl (Nat.le_refl _) ?_ (fun _ => rfl) ?_⟩
 · simp [oi, ByteArray.size]
 · simp [oi, ByteArray.size]
 · first | rfl | simp [ByteArray.size]
 · rw [str_ext, List.take_of_length_le (Nat.le_refl _)]; exact go
theorem qc9 (a b : List UInt8) : ((ByteArray.mk a.toArray).toList == (ByteArray.mk b.toArray).toList) = decide (a = b) := by rw [Bool.eq_iff_iff]; simp
theorem cutp_any (p s : Bs) (w : World) : Calls Tryz.prog 71 ([VS (p ++ s), VS p] : List Value).toArray w fun e w' => e = .returned (.tuple #[VS s, .bool true]) ∧ Below w.heap.size w w' := by
 refine qA qe Tryz.func71 rfl Tryz.ntmps71 rfl (St.start w) ?_
 refine inl (C := ⟨Tryz.prog, tab, _, [], w, _⟩) qe Tryz.func100 rfl Tryz.ntmps100 rfl ?_
 refine inl (C := ⟨Tryz.prog, tab, _, [], w, _⟩) qe Tryz.func143 rfl Tryz.ntmps143 rfl ?_
 have hz : ∀ l : Bs, (⟨l.toArray⟩ : ByteArray).size = l.length := fun l => by simp [ByteArray.size]
 have e1 : decide (((⟨(p ++ s).toArray⟩ : ByteArray).size : Int) ≥ ((⟨p.toArray⟩ : ByteArray).size : Int)) = true := decide_eq_true (by rw [hz, hz, List.length_append]; omega)
 have e2 : (decide (((⟨(p ++ s).toArray⟩ : ByteArray).size : Int) ≥ ((⟨p.toArray⟩ : ByteArray).size : Int)) == true) = true := by rw [e1]; rfl
 have e3 : ((ByteArray.mk ((p ++ s).take p.length).toArray).toList == (ByteArray.mk p.toArray).toList) = true := by rw [qc9, List.take_left' rfl]; exact decide_eq_true rfl
 iterate 4 refine ct e2 ?_
 refine slTT p.length (by rw [List.length_append]; omega) (by rw [hz]) ?_
 iterate 2 refine ct e2 ?_
 refine ct e1 ?_
 refine bk ?_
 refine cf (by rw [e3]; rfl) ?_
 refine slFF p.length (by rw [List.length_append]; omega) (by rw [hz]) ?_
 rw [List.drop_left' rfl]
 refine bk ?_
 exact rt rfl
end Go.Proofs.YtbgefoamhdgnaaaGreatDoor
end
namespace Go.Proofs.YtbgefoamhdgnaaaGreatDoor
section
open Go.RowKit Go.Sx
def oddL (c : Nat) : Bool := !(decide (97 ≤ c ∧ c ≤ 122))
abbrev oddF : Value := .func (.func 202) #[] #[]
theorem odd_letter (c : Nat) (h0 : 97 ≤ c) (h1 : c ≤ 122) (w : World) : Calls Tryz.prog 202 ([.int .i32 c] : List Value).toArray w fun e w' => e = .returned (.bool false) ∧ Below w.heap.size w w' := by
 refine qA qe Tryz.func202 rfl Tryz.ntmps202 rfl (St.start w) ?_
 have e1 : decide ((c : Int) < 97) = false := decide_eq_false (by omega)
 have e2 : decide ((c : Int) > 122) = false := decide_eq_false (by omega)
 repeat (first | refine cf (by rw [e1]; rfl) ?_ | refine cf (by rw [e2]; rfl) ?_ | refine ct (by rw [e1]; rfl) ?_ | refine ct (by rw [e2]; rfl) ?_ | refine cf e1 ?_ | refine cf e2 ?_ | exact rt rfl | refine cf rfl ?_ | refine ct rfl ?_)
theorem cfuncL_any (s : Bs) (hl : ∀ c ∈ s, 97 ≤ c.toNat ∧ c.toNat ≤ 122) (w : World) : Calls Tryz.prog 195 ([VS s, oddF] : List Value).toArray w fun e w' => e = .returned (.bool false) ∧ Below w.heap.size w w' := by
 have hlo : ∀ i (h : i < s.length), Utf8.decode ⟨s.toArray⟩ i = (s[i].toNat, 1) := fun i h => dec_lo s i h (by have := (hl _ (List.getElem_mem h)).2; omega)
 have hany : (s.any fun c => oddL c.toNat) = false := List.any_eq_false.2 fun c hc => by unfold oddL; rw [decide_eq_true (hl c hc)]; decide
 have h := cfunc_any s oddL (fun c hc => by unfold oddL; rw [decide_eq_false (by omega)]; rfl) (fun i hi w => by
  have hm := hl _ (List.getElem_mem hi)
  rw [hlo i hi, show oddL s[i].toNat = false by unfold oddL; rw [decide_eq_true hm]; rfl]
  exact odd_letter _ hm.1 hm.2 w) w
 rw [hany] at h
 exact h
theorem qdi (s : Bs) (h1 : 1 ≤ s.length) (h64 : s.length ≤ 64) (hl : ∀ c ∈ s, 97 ≤ c.toNat ∧ c.toNat ≤ 122) (w : World) : Calls Tryz.prog 146 ([VS s] : List Value).toArray w fun e w' => e = .returned (.bool true) ∧ Below w.heap.size w w' := by
 have hz : (⟨s.toArray⟩ : ByteArray).size = s.length := by simp [ByteArray.size]
 refine qA qe Tryz.func146 rfl Tryz.ntmps146 rfl (St.start w) ?_
 have e1 : ((ByteArray.mk s.toArray).toList == (ByteArray.mk #[]).toList) = false := by
  rw [show (#[] : Array UInt8) = ([] : Bs).toArray from rfl, qc9]
  exact decide_eq_false (by rintro rfl; simp at h1)
 have e2 : decide (((⟨s.toArray⟩ : ByteArray).size : Int) ≤ 64) = true := decide_eq_true (by rw [hz]; omega)
 have hc : ∀ w, Calls Tryz.prog 195 ([VS s, oddF] : List Value).toArray w fun e w' => e = .returned (.bool false) ∧ Below w.heap.size w w' := fun w => by
  have h := cfuncL_any s hl w
  exact h
 repeat (first | refine ct (by rw [e1]; rfl) ?_ | refine ct (by rw [e2]; rfl) ?_ | refine ct e2 ?_ | refine cv hc ?_ | exact rt rfl | refine cf rfl ?_ | refine ct rfl ?_)
end
section
open Go.RowKit Go.Sx
def qad (k o : Int) (s : Bs) (g : Value) : Array Value := (.int .i64 k :: (List.replicate 32 (.int .u8 0) ++ (VS [] :: .slice none 0 0 :: .int .i64 o :: VS s :: (List.replicate 32 (.int .u8 0) ++ [g])))).toArray
abbrev TEn : Nat := 140
abbrev TSg : Nat := 137
theorem own_any (s : Bs) (g : Value) (hn : ∀ w, Calls Tryz.prog 146 ([VS s] : List Value).toArray w fun e w' => e = .returned (.bool true) ∧ Below w.heap.size w w') (w : World) :
 Calls Tryz.prog 101 ([.agg (qad 4 3 s g)] : List Value).toArray w fun e w' => e = .returned (.bool true) ∧ Below w.heap.size w w' := by
 refine qA qe Tryz.func101 rfl Tryz.ntmps101 rfl (St.start w) ?_
 intro b
 repeat (first | refine ct rfl ?_ | refine cf rfl ?_ | refine ld1 0 rfl rfl ?_ | refine cv hn ?_ | exact rt rfl | refine bk ?_)
def QJ : Array Value := (VS [] :: List.replicate 96 (.int .u8 0)).toArray
def hex0 : Bs := List.replicate 64 48
theorem hex0_eq : Qt zr 4 (List.replicate 32 0) = hex0 := by decide +kernel
theorem qaV (a b : List UInt8) : (⟨a.toArray⟩ : ByteArray) ++ ⟨b.toArray⟩ = ⟨(a ++ b).toArray⟩ := by
 apply ByteArray.ext
 simp [ByteArray.data_append]
def keyS0 : Bs := [107, 101, 121, 58] ++ hex0
theorem nil_nil : (!(ByteArray.mk #[]).toList == (ByteArray.mk #[]).toList) = false := by decide +kernel
theorem signer_any (w : World) : Calls Tryz.prog 147 ([.agg QJ] : List Value).toArray w fun e w' => e = .returned (VS keyS0) ∧ Below w.heap.size w w' := by
 refine qA qe Tryz.func147 rfl Tryz.ntmps147 rfl (St.start w) ?_
 intro b
 refine ld1 0 rfl rfl ?_
 refine cf nil_nil ?_
 refine ⟨.mk 0 32 32 rfl rfl rfl (by decide) (by decide) (by decide) (by simp) (.on (by decide) ?_)⟩
 refine cvs (fun w' hs => hex_any _ (List.replicate 32 0) (by decide) w' (Rd.ent hs 0 (n := 32) (o := 1) rfl rfl rfl)) ?_
 rw [hex0_eq]
 refine ⟨by simp [ByteArray.size, hex0], ?_⟩
 exact rt (congrArg Value.string (qaV [107, 101, 121, 58] hex0))
theorem signed_any (sb c : Nat) (w : World) (hw : w.heap[sb]? = some (.cells QJ TSg (0, 0))) : Calls Tryz.prog 102 ([.slice (some ⟨sb, 0, none⟩) 1 c] : List Value).toArray w fun e w' => e = .returned (.bool true) ∧ Below w.heap.size w w' := by
 refine qA qe Tryz.func102 rfl Tryz.ntmps102 rfl (St.reads (L := [cr sb QJ TSg]) (by simp [hw])) ?_
 refine lp qe (fun i : Nat => i ≤ 1) (fun i => ⟨[(0, .slice (some ⟨sb, 0, none⟩) 1 c), (3, if i = 0 then VS [] else VS keyS0), (7, .slice (some ⟨sb, 0, none⟩) 1 c), (8, .int .i64 1), (9, .int .i64 i)], [cr sb QJ TSg], []⟩) (fun i => 1 - i) 0 (by decide) ⟨⟨rfl, rfl, rfl, rfl, rfl, trivial⟩, .cons .nil, rfl⟩ ?_
 intro i hi
 refine cd (fun h => ?_) (fun h => ?_)
 · obtain rfl : i = 0 := by omega
   refine ⟨by omega, by omega, ?_⟩
   refine ldN 0 rfl rfl ?_
   intro b5
   refine sN 1 rfl rfl rfl ?_ (by kernel_rfl)
   refine ldN 1 rfl rfl ?_
   refine cv signer_any ?_
   have le0 : (Op.bytesLess (ByteArray.mk keyS0.toArray).toList (ByteArray.mk #[]).toList || (ByteArray.mk keyS0.toArray).toList == (ByteArray.mk #[]).toList) = false := by decide +kernel
   have n1 : ((!(ByteArray.mk #[]).toList == (ByteArray.mk #[]).toList) == true) = false := by rw [nil_nil]; rfl
   repeat (first | refine ct (by rw [le0]; rfl) ?_ | refine cf n1 ?_ | refine cf nil_nil ?_ | refine cf le0 ?_ | refine ld1 1 rfl rfl ?_)
   refine cf rfl ?_
   refine .as ((1 : Nat) : Int) (by decide) (by decide) (by decide) ?_
   exact ⟨1, by decide, by decide, ⟨⟨rfl, rfl, rfl, rfl, rfl, trivial⟩, .cons (.drop .nil), rfl⟩⟩
 · obtain rfl : i = 1 := by omega
   repeat (first | refine ct rfl ?_ | refine cf rfl ?_ | exact rt rfl)
end
section
open Go.RowKit Go.Sx
theorem sig_same (w : World) : (Op.equalIn 10000 TSg (.agg QJ) (.agg QJ)).run Tryz.prog w = .ok true w := by kernel_rfl
def Z32 : Array Value := (List.replicate 32 (Value.int .u8 0)).toArray
theorem sum_same (w : World) : (Op.equalIn 10000 39 (.agg Z32) (.agg Z32)).run Tryz.prog w = .ok true w := by kernel_rfl
theorem key_same (w : World) : (Op.equalIn 10000 36 (.agg Z32) (.agg Z32)).run Tryz.prog w = .ok true w := by kernel_rfl
theorem blank_any (s : Bs) (a : Option Addr) (n c : Nat) (w : World) : Calls Tryz.prog 104 ([.agg (qad 4 3 s (.slice a n c))] : List Value).toArray w fun e w' => e = .returned (.agg (qad 4 0 [] (.slice a n c))) ∧ Below w.heap.size w w' := by
 refine qA qe Tryz.func104 rfl Tryz.ntmps104 rfl (St.start w) ?_
 intro b1 b2
 refine ld1 0 rfl rfl ?_
 iterate 3 refine cf rfl ?_
 refine ct rfl ?_
 refine ld1 0 rfl rfl ?_
 refine cf rfl ?_
 refine s1e 0 (qad 4 0 s (.slice a n c)) rfl (show 35 < 70 by decide) rfl ?_
 refine s1e 0 (qad 4 0 [] (.slice a n c)) rfl (show 36 < 70 by decide) rfl ?_
 refine ldN 0 rfl rfl ?_
 refine sN 1 rfl rfl rfl ?_ (by kernel_rfl)
 refine ldN 1 rfl rfl ?_
 exact rt rfl
theorem eqnil_any (w : World) : Calls Tryz.prog 148 ([.slice none 0 0, .slice none 0 0] : List Value).toArray w fun e w' => e = .returned (.bool true) ∧ Below w.heap.size w w' := by
 refine qA qe Tryz.func148 rfl Tryz.ntmps148 rfl (St.start w) ?_
 refine cf rfl ?_
 refine lp qe (fun i : Unit => True) (fun i => ⟨[(12, .int .i64 0), (13, .int .i64 0)], [], []⟩) (fun _ => 0) () trivial ⟨⟨rfl, rfl, trivial⟩, .nil, rfl⟩ ?_
 intro i _
 refine cf rfl ?_
 exact rt rfl
theorem eqsig_any (sb c : Nat) (w : World) (hw : w.heap[sb]? = some (.cells QJ TSg (0, 0))) : Calls Tryz.prog 149 ([.slice (some ⟨sb, 0, none⟩) 1 c, .slice (some ⟨sb, 0, none⟩) 1 c] : List Value).toArray w fun e w' => e = .returned (.bool true) ∧ Below w.heap.size w w' := by
 refine qA qe Tryz.func149 rfl Tryz.ntmps149 rfl (St.reads (L := [cr sb QJ TSg]) (by simp [hw])) ?_
 refine cf rfl ?_
 refine lp qe (fun i : Nat => i ≤ 1) (fun i => ⟨[(0, .slice (some ⟨sb, 0, none⟩) 1 c), (1, .slice (some ⟨sb, 0, none⟩) 1 c), (12, .int .i64 1), (13, .int .i64 i)], [cr sb QJ TSg], []⟩) (fun i => 1 - i) 0 (by decide) ⟨⟨rfl, rfl, rfl, rfl, trivial⟩, .cons .nil, rfl⟩ ?_
 intro i hi
 refine cd (fun h => ?_) (fun h => ?_)
 · obtain rfl : i = 0 := by omega
   refine dr [cr sb QJ TSg] 99 (.t 0 (.t 1 (.t 2 (.t 3 (.t 4 (.t 5 (.t 6 (.t 7 (.n 8 .nil))))))))) qe qk (by kernel_rfl) (.cons .nil) ?_
   refine ⟨by omega, by omega, ?_⟩
   refine ldN 0 rfl rfl ?_
   refine ⟨by omega, by omega, ?_⟩
   refine ldN 0 rfl rfl ?_
   refine neR (by rfl) (by kernel_rfl) sig_same ?_
   refine ⟨.cons .nil, ?_⟩
   refine cf rfl ?_
   refine .as ((1 : Nat) : Int) (by decide) (by decide) (by decide) ?_
   exact ⟨1, by decide, by decide, ⟨⟨rfl, rfl, rfl, rfl, trivial⟩, .cons .nil, rfl⟩⟩
 · exact rt rfl
end
section
open Go.RowKit Go.Sx
theorem nilE : ((ByteArray.mk ([] : Bs).toArray).toList == (ByteArray.mk ([] : Bs).toArray).toList) = true := by decide +kernel
theorem qaC : (((ByteArray.mk ([] : Bs).toArray).toList == (ByteArray.mk ([] : Bs).toArray).toList) == true) = true := by rw [nilE]; rfl
theorem ent_d (g : Value) : (qad 4 0 [] g).extract 1 (1 + 32) = Z32 := by unfold qad Z32; rw [List.extract_toArray]; rfl
theorem ent_k (g : Value) : (qad 4 0 [] g).extract 37 (37 + 32) = Z32 := by unfold qad Z32; rw [List.extract_toArray]; rfl
theorem equal_any (sb c : Nat) (w : World) (hw : w.heap[sb]? = some (.cells QJ TSg (0, 0))) : Calls Tryz.prog 103 ([.agg (qad 4 0 [] (.slice (some ⟨sb, 0, none⟩) 1 c)), .agg (qad 4 0 [] (.slice (some ⟨sb, 0, none⟩) 1 c))] : List Value).toArray w fun e w' => e = .returned (.bool true) ∧ Below w.heap.size w w' := by
 refine qA qe Tryz.func103 rfl Tryz.ntmps103 rfl (St.reads (L := [cr sb QJ TSg]) (by simp [hw])) ?_
 intro b2 b3
 have hs1 : ∀ w', St [] w w' [cr sb QJ TSg, cl b2 (qad 4 0 [] (.slice (some ⟨sb, 0, none⟩) 1 c)) TEn, cl b3 (qad 4 0 [] (.slice (some ⟨sb, 0, none⟩) 1 c)) TEn] → Calls Tryz.prog 149 ([.slice (some ⟨sb, 0, none⟩) 1 c, .slice (some ⟨sb, 0, none⟩) 1 c] : List Value).toArray w' fun e w'' => e = .returned (.bool true) ∧ Below w'.heap.size w' w'' := fun w' hs => eqsig_any sb c w' (hs.nth (k := 0) rfl)
 refine ld1 1 rfl rfl ?_
 refine ld1 2 rfl rfl ?_
 refine ct rfl ?_
 refine ct rfl ?_
 refine ldP 1 (d := Z32) rfl rfl (ent_d _) ?_
 refine ct rfl ?_
 refine ct rfl ?_
 refine ldP 2 (d := Z32) rfl rfl (ent_d _) ?_
 refine ct rfl ?_
 refine eqR (by rfl) (by kernel_rfl) sum_same ?_
 refine ct rfl ?_
 refine ct rfl ?_
 refine ct rfl ?_
 refine ld1 1 rfl rfl ?_
 refine ct rfl ?_
 refine ct rfl ?_
 refine ld1 2 rfl rfl ?_
 refine ct rfl ?_
 refine ct rfl ?_
 refine ct qaC ?_
 refine ct qaC ?_
 refine ld1 1 rfl rfl ?_
 refine ct qaC ?_
 refine ct qaC ?_
 refine ld1 2 rfl rfl ?_
 refine ct qaC ?_
 refine cv eqnil_any ?_
 refine ct nilE ?_
 refine ct rfl ?_
 refine ct rfl ?_
 refine ld1 1 rfl rfl ?_
 refine ct rfl ?_
 refine ct rfl ?_
 refine ld1 2 rfl rfl ?_
 refine ct rfl ?_
 refine ct rfl ?_
 refine ct rfl ?_
 refine ct rfl ?_
 refine ld1 1 rfl rfl ?_
 refine ct rfl ?_
 refine ct rfl ?_
 refine ld1 2 rfl rfl ?_
 refine ct rfl ?_
 refine ct rfl ?_
 refine ct qaC ?_
 refine ct qaC ?_
 refine ldP 1 (d := Z32) rfl rfl (ent_k _) ?_
 refine ct qaC ?_
 refine ct qaC ?_
 refine ldP 2 (d := Z32) rfl rfl (ent_k _) ?_
 refine ct qaC ?_
 refine eqR (by rfl) (by kernel_rfl) key_same ?_
 refine ct nilE ?_
 refine ct rfl ?_
 refine ct rfl ?_
 refine ld1 1 rfl rfl ?_
 refine ct rfl ?_
 refine ct rfl ?_
 refine ld1 2 rfl rfl ?_
 refine ct rfl ?_
 refine cvs hs1 ?_
 refine ct rfl ?_
 exact rt rfl
abbrev Ze (s : Bs) : Prop := ∀ w, Calls Tryz.prog 146 ([VS s] : List Value).toArray w fun e w' => e = .returned (.bool true) ∧ Below w.heap.size w w'
abbrev sg1 (sb c : Nat) : Value := .slice (some ⟨sb, 0, none⟩) 1 c
theorem check_any (s : Bs) (hn : Ze s) (sb c : Nat) (w : World) (hw : w.heap[sb]? = some (.cells QJ TSg (0, 0))) : Calls Tryz.prog 72 ([.agg (qad 4 3 s (sg1 sb c))] : List Value).toArray w fun e w' => e = .returned .nilIface ∧ Below w.heap.size w w' := by
 refine qA qe Tryz.func72 rfl Tryz.ntmps72 rfl (St.reads (L := [cr sb QJ TSg]) (by simp [hw])) ?_
 intro b1
 refine dr [cr sb QJ TSg, cl b1 (qad 4 3 s (sg1 sb c)) TEn] 99 (.t 0 (.n 1 (.t 2 (.t 3 (.t 4 (.t 5 (.n 6 (.t 7 (.t 8 (.t 9 (.t 10 (.t 12 (.t 13 (.t 14 (.t 15 (.t 16 (.n 11 (.n 17 (.t 18 (.t 19 .nil)))))))))))))))))))) qe qk (by kernel_rfl) (.cons (.cons .nil)) ?_
 refine ldN 1 rfl rfl ?_
 refine cv (own_any s _ hn) ?_
 refine ⟨.cons (.cons .nil), ?_⟩
 refine ct rfl ?_
 refine ct rfl ?_
 refine ld1 1 rfl rfl ?_
 refine ct rfl ?_
 refine cvs (fun w' hs => signed_any sb c w' (hs.nth (k := 0) rfl)) ?_
 refine ⟨.cons (.cons .nil), ?_⟩
 refine ct rfl ?_
 refine cf rfl ?_
 refine ct rfl ?_
 refine ldN 1 rfl rfl ?_
 refine ct rfl ?_
 refine ct rfl ?_
 refine ld1 1 rfl rfl ?_
 refine ct rfl ?_
 refine ct rfl ?_
 refine ld1 1 rfl rfl ?_
 refine ct rfl ?_
 refine bu (c := qad 4 0 [] (sg1 sb c)) (by kernel_rfl) ?_
 refine ct rfl ?_
 refine cv (blank_any s _ 1 c) ?_
 refine ⟨.cons (.cons .nil), ?_⟩
 refine ct rfl ?_
 refine cvs (fun w' hs => equal_any sb c w' (hs.nth (k := 0) rfl)) ?_
 refine ⟨.cons (.cons .nil), ?_⟩
 refine ct rfl ?_
 refine cf rfl ?_
 refine cf rfl ?_
 exact rt rfl
theorem undSgs : Tryz.prog.underlying 138 = some (.slice TSg) := by kernel_rfl
theorem infoSg : (Tryz.prog.info? TSg).map (fun i => (i.zero, i.size, i.bytes)) = some (some (.agg QJ), 97, 112) := by kernel_rfl
theorem bsSg (w : World) : (Instr.buildSlice 138 1 #[(0, .agg QJ)]).run Tryz.prog w = .ok (.slice (some ⟨w.heap.size, 0, none⟩) 1 1) (w.alloc (.cells QJ TSg)) := by
 obtain ⟨i, hi, hz, hs, hb⟩ := QE infoSg
 exact run_buildSlice w _ _ 1 _ QJ i (.agg QJ) undSgs hi hz (by rw [hs]; decide) (by rw [hs]; decide) (by rw [hs]; kernel_rfl)
def idP : Bs := [105, 100, 58]
theorem qcR (s : Bs) (hn : Ze s) (w : World) : Calls Tryz.prog 41 ([VS (idP ++ s)] : List Value).toArray w fun e w' => e = .returned (.bool true) ∧ Below w.heap.size w w' := by
 refine qA qe Tryz.func41 rfl Tryz.ntmps41 rfl (St.start w) ?_
 refine cv (cutp_any idP s) ?_
 refine ct rfl ?_
 refine bu (c := QJ) (by kernel_rfl) ?_
 refine .mk QJ TSg (fun w => bsSg w) (fun bn => ?_)
 refine bu (c := qad 4 3 s (sg1 bn 1)) (by kernel_rfl) ?_
 intro b5
 refine sN 1 rfl rfl rfl ?_ (by kernel_rfl)
 refine ldN 1 rfl rfl ?_
 refine cvs (fun w' hs => check_any s hn bn 1 w' (hs.nth (k := 0) rfl)) ?_
 exact rt rfl
theorem qdE (s : Bs) (hl : s.length ≤ 1000000) (w : World) : Calls Tryz.prog 42 ([VS s] : List Value).toArray w fun e w' => e = .returned (VS (idP ++ s)) ∧ Below w.heap.size w w' := by
 refine qA qe Tryz.func42 rfl Tryz.ntmps42 rfl (St.start w) ?_
 refine ⟨by simp [ByteArray.size]; omega, ?_⟩
 exact rt (congrArg Value.string (qaV idP s))
end
section
open Go.RowKit Go.Sx
abbrev TAu : Nat := 96
abbrev THd : Nat := 43
structure Hd where
 o : Bs
 size : Int
 time : Int
 root : Bs
 sig : Bs
def hdC (h : Hd) : Array Value := (VS h.o :: .int .i64 h.size :: .int .i64 h.time :: (Lib.byteCells h.root ++ Lib.byteCells h.sig)).toArray
def keI (n : Int) : Value := .int .i64 n
def HdOk (h : Hd) : Prop := h.root.length = 32 ∧ h.sig.length = 64
abbrev Zi (r : Bs) : Value := .agg (Lib.byteCells r).toArray
structure AuS where
 bA : Nat
 bm : Nat
 bh : Nat
 p : Nat
 o : Bs
 last : Option Hd
 fs : Es Int
 clk : Nat
def AuS.lastV (S : AuS) : Value := match S.last with | none => .pointer none | some _ => ptr S.bh
def auC (p : Nat) (o : Bs) (l m : Value) : Array Value := ((k32 p).toList ++ [VS o, l, m]).toArray
structure AuP (S : AuS) (u : World) : Prop where
 a : u.heap[S.bA]? = some (.cells (auC S.p S.o S.lastV (.map (some S.bm))) TAu (0, 0))
 m : u.heap[S.bm]? = some (qaM keI S.fs S.clk)
 h : ∀ x, S.last = some x → u.heap[S.bh]? = some (.cells (hdC x) THd (0, 0))
 ne : S.bA ≠ S.bm
 nh : S.last ≠ none → S.bh ≠ S.bA ∧ S.bh ≠ S.bm
 nb : (S.fs.map (·.2.2)).Nodup
 lt : ∀ e ∈ S.fs, e.2.2 < S.clk
 hk : ∀ x, S.last = some x → HdOk x
 v : ∀ e ∈ S.fs, ∃ r : Bs, r.length = 32 ∧ e.2.1 = Zi r
 kb : ∀ k ∈ S.fs.map (·.1), 0 ≤ k ∧ k ≤ 1048576
 ks : (S.fs.map (·.1)).Pairwise (· < ·)
 kl : ∀ x, S.last = some x → (S.fs.map (·.1)).getLast? = some x.size
 k0 : S.last = none → S.fs = []
def auR (S : AuS) : Res where
 w k := k = S.bA ∨ k = S.bm ∨ (S.last ≠ none ∧ k = S.bh)
 r _ := False
 p u := AuP S u
 st u v h := fun hp => ⟨(h _ (.inl (.inl rfl))).trans hp.a, (h _ (.inl (.inr (.inl rfl)))).trans hp.m, fun x hx => (h _ (.inl (.inr (.inr ⟨by rw [hx]; simp, rfl⟩)))).trans (hp.h x hx), hp.ne, hp.nh, hp.nb, hp.lt, hp.hk, hp.v, hp.kb, hp.ks, hp.kl, hp.k0⟩
 bd u := fun hp k hk => by
  rcases hk with (rfl | rfl | ⟨hn, rfl⟩) | hk
  · exact (Array.getElem?_eq_some_iff.1 hp.a).1
  · exact (Array.getElem?_eq_some_iff.1 hp.m).1
  · cases hl : S.last with
    | none => exact absurd hl hn
    | some x => exact (Array.getElem?_eq_some_iff.1 (hp.h x hl)).1
  · exact hk.elim
abbrev au0 (p : Nat) (o : Bs) (x : Nat × Nat) : AuS := ⟨x.1, x.2, 0, p, o, none, [], 0⟩
theorem auNew_any (p : Nat) (o : Bs) (hl : o.length ≤ 1000000) (hn : Ze o) (w : World) : Calls Tryz.prog 11 ([.agg (k32 p), VS o] : List Value).toArray w fun e w' => ∃ x : Nat × Nat, True ∧ e = .returned (.tuple #[ptr x.1, .nilIface]) ∧ Below w.heap.size w w' ∧ (auR (au0 p o x)).p w' ∧ (∀ k, (auR (au0 p o x)).w k → w.heap.size ≤ k) ∧ ∀ k, (auR (au0 p o x)).r k → False := by
 refine (enter qe Tryz.func11 rfl Tryz.ntmps11 rfl (St.start w) (R := fun v w' => ∃ x : Nat × Nat, v = .tuple #[ptr x.1, .nilIface] ∧ Below w.heap.size w w' ∧ (auR (au0 p o x)).p w' ∧ (∀ k, (auR (au0 p o x)).w k → w.heap.size ≤ k)) ?_).mono (fun e w' ⟨v, he, x, h1, h2, h3, h4⟩ => ⟨x, trivial, by rw [he, h1], h2, h3, h4, fun k hk => hk⟩)
 intro b2
 refine cv (qdE o hl) ?_
 refine cv (qcR o hn) ?_
 refine cf rfl ?_
 refine ldN 0 rfl (qg _) ?_
 refine mkm (keI : Int → Value) (fun bm => ?_)
 refine bu (c := auC p o (.pointer none) (.map (some bm))) (by kernel_rfl) ?_
 intro bA
 refine ⟨fun w1 hs => ⟨(bA, bm), rfl, hs.below, ?_, ?_⟩⟩
 · refine ⟨hs.nth (k := 2) rfl, hs.nth (k := 1) rfl, fun x hx => by simp at hx, ?_, fun h => by simp at h, by simp, by simp, fun x hx => by simp at hx, by simp, by simp, by simp, fun x hx => by simp at hx, fun _ => rfl⟩
   have := ZU hs.apart (i := 1) (j := 2) rfl rfl (by decide)
   have h2 := (this bA).2 (by simp)
   simp at h2
   exact fun e => h2 e.symm
 · rintro k (rfl | rfl | ⟨h, _⟩)
   · rcases hs.own _ (List.mem_of_getElem? (i := 2) rfl) rfl rfl with h | h
     · exact h
     · simp at h
   · rcases hs.own _ (List.mem_of_getElem? (i := 1) rfl) rfl rfl with h | h
     · exact h
     · simp at h
   · exact absurd rfl h
end
section
open Go.RowKit Go.Sx
theorem sound_any (h : Hd) (hl : h.o.length ≤ 1000000) (hn : Ze h.o) (h0 : 0 ≤ h.size) (h1 : h.size ≤ 1048576) (h2 : 0 ≤ h.time) (h3 : h.time ≤ 9007199254740991) (w : World) :
 Calls Tryz.prog 115 ([.agg (hdC h)] : List Value).toArray w fun e w' => e = .returned (.bool true) ∧ Below w.heap.size w w' := by
 have e1 := decide_eq_true (show h.size ≥ 0 from h0)
 have e2 := decide_eq_true h1
 have e3 := decide_eq_true (show h.time ≥ 0 from h2)
 have e4 := decide_eq_true h3
 have g1 : (decide (h.size ≥ 0) == true) = true := by rw [e1]; rfl
 have g2 : (decide (h.size ≤ 1048576) == true) = true := by rw [e2]; rfl
 have g3 : (decide (h.time ≥ 0) == true) = true := by rw [e3]; rfl
 refine qA qe Tryz.func115 rfl Tryz.ntmps115 rfl (St.start w) ?_
 intro b1
 refine ld1 0 rfl rfl ?_
 refine cv (qdE h.o hl) ?_
 refine cv (qcR h.o hn) ?_
 refine ct rfl ?_
 refine ct rfl ?_
 refine ld1 0 rfl rfl ?_
 refine ct rfl ?_
 refine ct rfl ?_
 refine ct g1 ?_
 refine ct g1 ?_
 refine ld1 0 rfl rfl ?_
 refine ct g1 ?_
 refine ct e1 ?_
 refine ct g2 ?_
 refine ct g2 ?_
 refine ld1 0 rfl rfl ?_
 refine ct g2 ?_
 refine ct e2 ?_
 refine ct g3 ?_
 refine ct g3 ?_
 refine ld1 0 rfl rfl ?_
 refine ct g3 ?_
 refine ct e3 ?_
 exact rt (congrArg Value.bool e4)
theorem slB {s : Bs} (l h : Nat) (hl : l ≤ h) (hh : h ≤ s.length) {next : Value → Prop} {fb : Prop} {x y : Int} (hx : x = l) (hy : y = h) (go : next (VS ((s.take h).drop l))) : SliP .str (VS s) (some x) (some y) none next fb := by
 subst hx; subst hy
 refine ⟨.mk l h s.length ?_ ?_ rfl hl hh ?_ (fun e => by cases e) ?_⟩
 · simp [oi, ByteArray.size]
 · simp [oi]
 · simp [ByteArray.size]
 · rw [str_ext]; exact go
def DG : Bs := [48, 49, 50, 51, 52, 53, 54, 55, 56, 57, 97, 98, 99, 100, 101, 102, 103, 104, 105, 106, 107, 108, 109, 110, 111, 112, 113, 114, 115, 116, 117, 118, 119, 120, 121, 122]
theorem itoa_fig (u : Nat) (hu : u < 10) (w : World) : Calls Tryz.prog 116 ([.int .i64 u] : List Value).toArray w fun e w' => e = .returned (VS [UInt8.ofNat (48 + u)]) ∧ Below w.heap.size w w' := by
 refine qA qe Tryz.func116 rfl Tryz.ntmps116 rfl (St.start w) ?_
 refine inl (C := ⟨Tryz.prog, tab, _, [], w, _⟩) qe Tryz.func154 rfl Tryz.ntmps154 rfl ?_
 refine inl (C := ⟨Tryz.prog, tab, _, [], w, _⟩) qe Tryz.func205 rfl Tryz.ntmps205 rfl ?_
 refine ct rfl ?_
 have e0 : decide ((0 : Int) ≤ (u : Int)) = true := decide_eq_true (by omega)
 have e0' : (decide ((0 : Int) ≤ (u : Int)) == true) = true := by rw [e0]; rfl
 iterate 2 refine ct e0' ?_
 refine ct e0 ?_
 refine ct (decide_eq_true (by omega)) ?_
 refine inl (C := ⟨Tryz.prog, tab, _, [], w, _⟩) qe Tryz.func241 rfl Tryz.ntmps241 rfl ?_
 refine ct (decide_eq_true (by omega)) ?_
 refine .as ((u + 1 : Nat) : Int) (by omega) (by simp only [mn]; omega) (by simp only [mx]; omega) ?_
 refine slB (s := DG) u (u + 1) (by omega) (by show u + 1 ≤ 36; omega) rfl rfl ?_
 iterate 3 refine bk ?_
 refine rt ?_
 show VS _ = VS _
 congr 2
 have : (List.range 10).all (fun u => decide (((DG.take (u + 1)).drop u) = [UInt8.ofNat (48 + u)])) = true := by decide +kernel
 exact of_decide_eq_true (List.all_eq_true.1 this u (by simpa using hu))
end
section
open Go.Shelf
def Tryz.lays156_ren : Go.Shelf.Ren := ⟨fun | 156 => 117 | 165 => 155 | 166 => 156 | 169 => 157 | 240 => 206 | 241 => 207 | 276 => 245 | 277 => 246 | n => n, fun | 31 => 142 | 9 => 9 | 3 => 3 | 4 => 4 | 0 => 0 | 20 => 20 | 72 => 228 | 76 => 230 | 70 => 226 | 37 => 48 | 75 => 32 | 127 => 292 | 164 => 331 | 5 => 5 | 80 => 232 | n => n, fun | n => n⟩
theorem Tryz.lays156 : Go.Proofs.Lays.n156 Tryz.prog Tryz.lays156_ren := {
 mixed := by kernel_rfl
 f156 := Tryz.func117.trans (congrArg some (by kernel_rfl))
 f165 := Tryz.func155.trans (congrArg some (by kernel_rfl))
 f166 := Tryz.func156.trans (congrArg some (by kernel_rfl))
 f169 := Tryz.func157.trans (congrArg some (by kernel_rfl))
 f240 := Tryz.func206.trans (congrArg some (by kernel_rfl))
 f241 := Tryz.func207.trans (congrArg some (by kernel_rfl))
 f276 := Tryz.func245.trans (congrArg some (by kernel_rfl))
 f277 := Tryz.func246.trans (congrArg some (by kernel_rfl))
 t0 := Tryz.underlying0
 a0 := Tryz.isAgg0
 z0 := Tryz.sizeOf0
 v0 := Tryz.zeroValue0
 t3 := Tryz.underlying3
 a3 := Tryz.isAgg3
 z3 := Tryz.sizeOf3
 v3 := Tryz.zeroValue3
 t4 := Tryz.underlying4
 a4 := Tryz.isAgg4
 z4 := Tryz.sizeOf4
 v4 := Tryz.zeroValue4
 t9 := Tryz.underlying9
 a9 := Tryz.isAgg9
 z9 := Tryz.sizeOf9
 v9 := Tryz.zeroValue9
 t20 := Tryz.underlying20
 a20 := Tryz.isAgg20
 z20 := Tryz.sizeOf20
 v20 := Tryz.zeroValue20
 t31 := Tryz.underlying142
 a31 := Tryz.isAgg142
 z31 := Tryz.sizeOf142
 v31 := Tryz.zeroValue142
 t37 := Tryz.underlying48
 a37 := Tryz.isAgg48
 z37 := Tryz.sizeOf48
 v37 := Tryz.zeroValue48
 t70 := Tryz.underlying226
 a70 := Tryz.isAgg226
 z70 := Tryz.sizeOf226
 v70 := Tryz.zeroValue226
 t72 := Tryz.underlying228
 a72 := Tryz.isAgg228
 z72 := Tryz.sizeOf228
 v72 := Tryz.zeroValue228
 t75 := Tryz.underlying32
 a75 := Tryz.isAgg32
 z75 := Tryz.sizeOf32
 v75 := Tryz.zeroValue32
 t76 := Tryz.underlying230
 a76 := Tryz.isAgg230
 z76 := Tryz.sizeOf230
 v76 := Tryz.zeroValue230
 t127 := Tryz.underlying292
 a127 := Tryz.isAgg292
 z127 := Tryz.sizeOf292
 v127 := Tryz.zeroValue292
 t164 := Tryz.underlying331
 a164 := Tryz.isAgg331
 z164 := Tryz.sizeOf331
 v164 := Tryz.zeroValue331 }
theorem Tryz.Builder_Extra_156 : Builder.Extra Tryz.prog Tryz.lays156_ren := {
 sizeBuilder := by kernel_rfl
 liesBuilder := by kernel_rfl
 t5 := Tryz.underlying5
 a5 := Tryz.isAgg5
 z5 := Tryz.sizeOf5
 v5 := Tryz.zeroValue5
 infoByte := by kernel_rfl
 cellsByte := by kernel_rfl
 sizeByte := by kernel_rfl
 neB5 := by decide }
open Go.RowKit in
theorem Tryz.strings_Join (bk o c : Nat) (xs : List ByteArray) (sep : ByteArray) (w : World) (hcells : ∀ (j : Nat) x, xs[j]? = some x → w.cell? ⟨bk, o + j, none⟩ = some (.string x)) (hbk : bk < w.heap.size) (hN : xs.length ≤ 140737488355328) (hcap : xs.length ≤ c) (hlen : (Lib.join (xs.map (·.data.toList)) sep.data.toList).length ≤ 140737488355328) :
 Calls Tryz.prog 117 #[.slice (some ⟨bk, o, none⟩) xs.length c, .string sep] w fun e w' => e = .returned (.string ⟨(Lib.join (xs.map (·.data.toList)) sep.data.toList).toArray⟩) ∧ Below w.heap.size w w' := Any.strings_Join Tryz.lays156 Tryz.Builder_Extra_156 bk o c xs sep w hcells hbk hN hcap hlen
open Go.RowKit Go.Sort Go.Lib in
end
section
open Go.RowKit Go.Sx
def QS : Bs := [99, 97, 99, 104, 101, 116, 32, 118, 49]
def linesB (h : Hd) (n : Bs) : List Bs := [QS, h.o, n, Qt zr 4 h.root, [], []]
def Qi (h : Hd) (n : Bs) : Bs := Lib.join (linesB h n) [10]
theorem zx (h : Hd) (hr : h.root.length = 32) (hg : h.sig.length = 64) : (hdC h).size = 99 := by simp [hdC, Lib.byteCells_length, hr, hg]
theorem cvSt {C : Cx} {L : List Ent} {s d e : TypeId} {t : ByteArray} {next : Value → List Ent → Prop} (h1 : C.P.underlying s = some .string) (h2 : C.P.underlying d = some (.slice e)) (h3 : C.P.underlying e = some (.int .u8))
 (go : ∀ b cap, next (.slice (some ⟨b, 0, none⟩) t.size cap) (L ++ [⟨b, some (.cells (bytesRow t cap) e ((bytesRow t cap).size, (bytesRow t cap).size + 1)), false, none⟩])) : zY C (convert s d (.string t)) L next :=
 ⟨fun w hs => ⟨_, _, _, run_bytes_of_string w s d e t h1 h2 h3, (hs.drew2 (w.drawn + 1)).alloc _, go _ _⟩⟩
theorem qdK (sg : ByteArray) (k : Nat) (hk : 3 ≤ k) (bs : List UInt8) : (Qt sg k bs).length = (8 * bs.length + k - 1) / k := by
 obtain ⟨hI, hh⟩ := qae sg k hk bs
 have hs := hI.sum
 have h1 : ∀ a r, r < k → a * k + r = 8 * bs.length → (if 0 < r then a + 1 else a) = (8 * bs.length + k - 1) / k := by
  intro a r hr he
  rw [← he]
  split
  · rw [show a * k + r + k - 1 = (r - 1) + k * (a + 1) by rw [Nat.mul_add, Nat.mul_comm k a]; omega, Nat.add_mul_div_left _ _ (by omega), Nat.div_eq_of_lt (by omega)]; omega
  · rw [show a * k + r + k - 1 = (k - 1) + k * a by rw [Nat.mul_comm k a]; omega, Nat.add_mul_div_left _ _ (by omega), Nat.div_eq_of_lt (by omega)]; omega
 rw [← h1 _ _ hh hs]
 unfold Qt
 split <;> simp
theorem qdN (l : Bs) (cap : Nat) : ((bytesRow ⟨l.toArray⟩ cap).toList.drop 0).take (⟨l.toArray⟩ : ByteArray).size = Lib.byteCells l := by
 have hz : (⟨l.toArray⟩ : ByteArray).size = l.length := by simp [ByteArray.size]
 rw [hz, List.drop_zero]
 unfold bytesRow Lib.byteCells
 simp only [Array.toList_append, Array.toList_map]
 exact List.take_left' (by simp)
theorem undSS : Tryz.prog.underlying 142 = some (.slice 9) := by kernel_rfl
theorem infoSt : (Tryz.prog.info? 9).map (fun i => (i.zero, i.size, i.bytes)) = some (some (VS []), 1, 16) := by kernel_rfl
def strC (l : List Bs) : Array Value := (l.map fun x => VS x).toArray
theorem bs6 (a b c d e f : Bs) (w : World) : (Instr.buildSlice 142 6 #[(0, VS a), (1, VS b), (2, VS c), (3, VS d), (4, VS e), (5, VS f)]).run Tryz.prog w = .ok (.slice (some ⟨w.heap.size, 0, none⟩) 6 6) (w.alloc (.cells (strC [a, b, c, d, e, f]) 9)) := by
 obtain ⟨i, hi, hz, hs, hb⟩ := QE infoSt
 exact run_buildSlice w _ _ 6 _ (strC [a, b, c, d, e, f]) i (VS []) undSS hi hz (by rw [hs]; decide) (by rw [hs]; decide) (by rw [hs]; kernel_rfl)
theorem join_any (l : List Bs) (bn c : Nat) (sep : Bs) (w : World) (hw : w.heap[bn]? = some (.cells (strC l) 9 (0, 0))) (hc : l.length ≤ c) (hl : l.length ≤ 1000) (hj : (Lib.join l sep).length ≤ 1000000) :
 Calls Tryz.prog 117 ([.slice (some ⟨bn, 0, none⟩) l.length c, VS sep] : List Value).toArray w fun e w' => e = .returned (VS (Lib.join l sep)) ∧ Below w.heap.size w w' := by
 have hm : ((l.map fun x => (⟨x.toArray⟩ : ByteArray)).map (·.data.toList)) = l := by
  rw [List.map_map]
  exact (List.map_congr_left (fun x _ => by simp)).trans (List.map_id l)
 have h := Tryz.strings_Join bn 0 c (l.map fun x => (⟨x.toArray⟩ : ByteArray)) ⟨sep.toArray⟩ w (fun j x hx => by
  rw [List.getElem?_map] at hx
  cases hq : l[j]? with
  | none => rw [hq] at hx; cases hx
  | some z =>
   rw [hq] at hx
   injection hx with hx
   subst hx
   simp only [World.cell?, hw]
   rw [if_neg (by simp), Nat.zero_add]
   simp [strC, hq]) (Array.getElem?_eq_some_iff.1 hw).1 (by simp; omega) (by simp; omega) (by rw [hm]; show (Lib.join l sep).length ≤ _; omega)
 rw [hm, List.length_map] at h
 exact h
abbrev rowE (b cap : Nat) (l : Bs) : Ent := ⟨b, some (.cells (bytesRow ⟨l.toArray⟩ cap) 5 ((bytesRow ⟨l.toArray⟩ cap).size, (bytesRow ⟨l.toArray⟩ cap).size + 1)), false, none⟩
theorem body_any (h : Hd) (A T : Bs) (hr : h.root.length = 32) (hg : h.sig.length = 64) (hl : h.o.length ≤ 1000) (hn : Ze h.o) (h0 : 0 ≤ h.size) (h1 : h.size ≤ 1048576) (h2 : 0 ≤ h.time) (h3 : h.time ≤ 9007199254740991) (hAl : A.length ≤ 100) (hTl : T.length ≤ 100) (w : World)
 (hA : ∀ w', Below w.heap.size w w' → Calls Tryz.prog 116 ([.int .i64 h.size] : List Value).toArray w' fun e w'' => e = .returned (VS A) ∧ Below w'.heap.size w' w'')
 (hT : ∀ w', Below w.heap.size w w' → Calls Tryz.prog 116 ([.int .i64 h.time] : List Value).toArray w' fun e w'' => e = .returned (VS T) ∧ Below w'.heap.size w' w'') :
 Calls Tryz.prog 83 ([.agg (hdC h)] : List Value).toArray w fun e w' => ∃ x : Nat × Nat, True ∧ e = .returned (.tuple #[.slice (some ⟨x.1, 0, none⟩) (Qi h (A ++ [32] ++ T)).length x.2, .nilIface]) ∧ St [] w w' [rowE x.1 x.2 (Qi h (A ++ [32] ++ T))] := by
 refine (enter qe Tryz.func83 rfl Tryz.ntmps83 rfl (St.start w) (R := fun v w' => ∃ x : Nat × Nat, v = .tuple #[.slice (some ⟨x.1, 0, none⟩) (Qi h (A ++ [32] ++ T)).length x.2, .nilIface] ∧ St [] w w' [rowE x.1 x.2 (Qi h (A ++ [32] ++ T))]) ?_).mono (fun e w' ⟨v, he, x, h1, h2⟩ => ⟨x, trivial, by rw [he, h1], h2⟩)
 have hsz := zx h hr hg
 intro b1
 refine ldN 0 rfl hsz ?_
 refine cv (sound_any h (by omega) hn h0 h1 h2 h3) ?_
 refine cf rfl ?_
 refine dr [cl b1 (hdC h) THd] 99 (.t 0 (.t 1 (.t 4 (.t 5 (.n 2 (.t 3 (.n 6 (.t 7 (.t 8 .nil))))))))) qe qk (by kernel_rfl) (.cons .nil) ?_
 refine ld1 0 rfl rfl ?_
 refine ld1 0 rfl rfl ?_
 refine cvs (fun w' hs => hA w' hs.below) ?_
 refine ⟨.cons .nil, ?_⟩
 refine ⟨by simp [ByteArray.size]; omega, ?_⟩
 rw [show (⟨A.toArray⟩ : ByteArray) ++ ⟨#[32]⟩ = ⟨(A ++ [32]).toArray⟩ from qaV A [32]]
 refine cvs (fun w' hs => hT w' hs.below) ?_
 refine ⟨.cons .nil, ?_⟩
 refine ⟨by simp [ByteArray.size]; omega, ?_⟩
 rw [qaV]
 refine dr [cl b1 (hdC h) THd] 99 (.t 0 (.t 1 (.t 2 (.t 3 (.t 4 (.n 5 (.n 6 (.n 7 (.n 8 (.t 9 (.t 10 .nil))))))))))) qe qk (by kernel_rfl) (.cons .nil) ?_
 refine ld1 0 rfl rfl ?_
 refine ⟨.mk 0 32 32 rfl rfl rfl (by decide) (by decide) (by decide) (by simp) (.on (by decide) ?_)⟩
 have hrd : ∀ w', St [] w w' [cl b1 (hdC h) THd] → Rd w' (.slice (some ⟨b1, 3, none⟩) 32 32) (Lib.byteCells h.root) := fun w' hs => Rd.ent hs 0 (n := 32) (o := 3) rfl (by rw [Lib.byteCells_length, hr]) (by
  show (List.drop 3 (hdC h).toList).take 32 = _
  unfold hdC
  show (Lib.byteCells h.root ++ Lib.byteCells h.sig).take 32 = _
  rw [List.take_left' (by rw [Lib.byteCells_length, hr])])
 refine cvs (fun w' hs => hex_any _ h.root (by omega) w' (hrd w' hs)) ?_
 refine ⟨.cons .nil, ?_⟩
 refine .mk (strC [QS, h.o, A ++ [32] ++ T, Qt zr 4 h.root, [], []]) 9 (fun w => bs6 _ _ _ _ _ _ w) (fun bn => ?_)
 refine ⟨.cons .nil, ?_⟩
 have hjl : (Qi h (A ++ [32] ++ T)).length ≤ 1000000 := by
  have hc : (Qt zr 4 h.root).length = 64 := by rw [qdK _ _ (by decide), hr]
  have e : Qi h (A ++ [32] ++ T) = QS ++ ([10] ++ (h.o ++ ([10] ++ ((A ++ [32] ++ T) ++ ([10] ++ (Qt zr 4 h.root ++ ([10] ++ ([] ++ ([10] ++ []))))))))) := rfl
  rw [e]
  simp only [List.length_append, List.length_cons, List.length_nil, hc, QS]
  omega
 refine cvs (fun w' hs => join_any [QS, h.o, A ++ [32] ++ T, Qt zr 4 h.root, [], []] bn 6 [10] w' (hs.nth (k := 1) rfl) (by simp) (by simp) hjl) ?_
 refine ⟨.cons .nil, ?_⟩
 refine cvSt qdr ZZ undU8 (fun b cap => ?_)
 refine ⟨.cons .nil, ?_⟩
 have hzz : (⟨(Qi h (A ++ [32] ++ T)).toArray⟩ : ByteArray).size = (Qi h (A ++ [32] ++ T)).length := by simp [ByteArray.size]
 refine ⟨fun w1 hs => ⟨(b, cap), ?_, hs.sub (.drop (.drop (.cons .nil)))⟩⟩
 rw [← hzz]; rfl
end
section
open Go.RowKit Go.Sx
theorem cMs {C : Cx} {L : List Ent} {g : FuncId} {vs : List Value} {α : Type} {Φ : α → Prop} {v : α → Value} {es : α → List Ent} {next : Value → List Ent → Prop}
 (h : ∀ w, St C.M C.B w L → Calls C.P g vs.toArray w fun e w' => ∃ x, Φ x ∧ e = .returned (v x) ∧ St [] w w' (es x)) (hA : ∀ x, Φ x → ∀ e ∈ es x, ∀ k, e.A k → e.W k)
 (go : ∀ x, Φ x → next (v x) (L ++ es x)) : zI C g vs L next := by
 refine ⟨fun w hs => (h w hs).mono fun e w' ⟨x, hx, he, h1⟩ => ⟨_, _, he, ?_, go x hx⟩⟩
 have hW : ∀ e ∈ es x, ∀ k, e.W k → w.heap.size ≤ k := fun e he k hk => by
  rcases h1.ownW e he k hk with h4 | ⟨_, h4, _⟩
  · exact h4
  · cases h4
 have h2 : St C.M C.B w' (L ++ [rs (QQ (es x))]) := hs.push h1.below ((rsOk _ _).2 ⟨h1.ok, h1.apart⟩) (fun k hk => by
  obtain ⟨e, he, hk⟩ := (qcN _ _).1 hk
  exact hW e he k hk) (fun k hk => by
  obtain ⟨e, he, hk⟩ := (mresA _ _).1 hk
  exact .inl (hW e he k (hA x hx e he k hk)))
 have h3 : St C.M C.B w' (L ++ es x ++ []) := St.unpack (X := L) (Y := []) (by simpa using h2)
 simpa using h3
theorem hd_sig (h : Hd) (hr : h.root.length = 32) (hg : h.sig.length = 64) : (hdC h).extract 35 (35 + 64) = (Lib.byteCells h.sig).toArray := by
 unfold hdC
 rw [List.extract_toArray]
 have e : (VS h.o :: .int .i64 h.size :: .int .i64 h.time :: (Lib.byteCells h.root ++ Lib.byteCells h.sig)) = ([VS h.o, .int .i64 h.size, .int .i64 h.time] ++ Lib.byteCells h.root) ++ Lib.byteCells h.sig := rfl
 rw [e, List.extract_eq_take_drop, List.drop_left' (by simp [Lib.byteCells_length, hr])]
 rw [List.take_of_length_le (by simp [Lib.byteCells_length, hg])]
theorem qdA (h : Hd) (N : Bs) (hr : h.root.length = 32) (hl : h.o.length ≤ 1000) (hN : N.length ≤ 300) : (Qi h N).length ≤ 2000 := by
 have hc : (Qt zr 4 h.root).length = 64 := by rw [qdK _ _ (by decide), hr]
 have e : Qi h N = QS ++ ([10] ++ (h.o ++ ([10] ++ (N ++ ([10] ++ (Qt zr 4 h.root ++ ([10] ++ ([] ++ ([10] ++ []))))))))) := rfl
 rw [e]
 simp only [List.length_append, List.length_cons, List.length_nil, hc, QS]
 omega
theorem nright_any (h : Hd) (A T : Bs) (p : Nat) (hp : p < 115792089237316195423570985008687907853269984665640564039457584007913129639936) (hr : h.root.length = 32) (hg : h.sig.length = 64) (hl : h.o.length ≤ 1000) (hn : Ze h.o) (h0 : 0 ≤ h.size) (h1 : h.size ≤ 1048576) (h2 : 0 ≤ h.time) (h3 : h.time ≤ 9007199254740991) (hAl : A.length ≤ 100) (hTl : T.length ≤ 100) (w : World)
 (hA : ∀ w', Below w.heap.size w w' → Calls Tryz.prog 116 ([.int .i64 h.size] : List Value).toArray w' fun e w'' => e = .returned (VS A) ∧ Below w'.heap.size w' w'')
 (hT : ∀ w', Below w.heap.size w w' → Calls Tryz.prog 116 ([.int .i64 h.time] : List Value).toArray w' fun e w'' => e = .returned (VS T) ∧ Below w'.heap.size w' w'')
 (hR : qbx p h.sig (Qi h (A ++ [32] ++ T)) = true) :
 Calls Tryz.prog 47 ([.agg (hdC h), .agg (k32 p), VS h.o] : List Value).toArray w fun e w' => e = .returned .nilIface ∧ Below w.heap.size w w' := by
 have hsz := zx h hr hg
 have hoo : (!(ByteArray.mk h.o.toArray).toList == (ByteArray.mk h.o.toArray).toList) = false := by rw [qc9]; simp
 refine qA qe Tryz.func47 rfl Tryz.ntmps47 rfl (St.start w) ?_
 intro b3 b4
 refine ldN 0 rfl hsz ?_
 refine cMs (v := fun x : Nat × Nat => .tuple #[.slice (some ⟨x.1, 0, none⟩) (Qi h (A ++ [32] ++ T)).length x.2, .nilIface]) (es := fun x => [rowE x.1 x.2 (Qi h (A ++ [32] ++ T))]) (fun w' hs => body_any h A T hr hg hl hn h0 h1 h2 h3 hAl hTl w' (fun w'' hb => hA w'' (hs.below.trans (hb.mono hs.below.size))) (fun w'' hb => hT w'' (hs.below.trans (hb.mono hs.below.size)))) (fun x _ e he k hk => by
  obtain rfl : e = rowE x.1 x.2 (Qi h (A ++ [32] ++ T)) := by simpa using he
  simpa using hk) (fun x _ => ?_)
 refine cf rfl ?_
 refine ld1 0 rfl rfl ?_
 refine cf hoo ?_
 refine ldN 1 rfl (qg _) ?_
 refine ldP 0 (d := (Lib.byteCells h.sig).toArray) rfl (by simp [Lib.byteCells_length, hg]) (hd_sig h hr hg) ?_
 refine .mk #[.slice (some ⟨x.1, 0, none⟩) (Qi h (A ++ [32] ++ T)).length x.2] 48 (fun w => bss1 _ _ _ w) (fun bn => ?_)
 have hbl := qdA h (A ++ [32] ++ T) hr hl (by simp; omega)
 have hzz : (⟨(Qi h (A ++ [32] ++ T)).toArray⟩ : ByteArray).size = (Qi h (A ++ [32] ++ T)).length := by simp [ByteArray.size]
 refine cvs (v := .bool true) (fun w' hs => ?_) ?_
 · have hrd : Rd w' (.slice (some ⟨x.1, 0, none⟩) (Qi h (A ++ [32] ++ T)).length x.2) (Lib.byteCells (Qi h (A ++ [32] ++ T))) := Rd.ent hs 2 rfl (by rw [Lib.byteCells_length]) (by have := qdN (Qi h (A ++ [32] ++ T)) x.2; rw [hzz] at this; exact this)
   have hP := Parts.made (bs := Qi h (A ++ [32] ++ T)) hs 3 (vs := [.slice (some ⟨x.1, 0, none⟩) (Qi h (A ++ [32] ++ T)).length x.2]) [Lib.byteCells (Qi h (A ++ [32] ++ T))] 1 rfl rfl rfl (List.append_nil _) (fun i v xs hv hx => by
    cases i with
    | zero => injection hv with hv; injection hx with hx; subst hv; subst hx; exact hrd
    | succ i => simp at hv) (by simp)
   have := right_any p hp h.sig hg _ (Qi h (A ++ [32] ++ T)) w' hP (by omega)
   rw [hR] at this
   exact this
 refine cf rfl ?_
 exact rt rfl
end
end Go.Proofs.YtbgefoamhdgnaaaGreatDoor
