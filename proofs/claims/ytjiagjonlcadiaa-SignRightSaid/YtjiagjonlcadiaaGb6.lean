/- For every seed the law SignPublic returns true; no condition. -/
import Derived.Laws.BytesArg
import Derived.Laws.IdiomStrings
import Derived.Laws.MakeOwn
import Derived.Test.YtjiagjonlcadiaaRows
import Derived.WalkKit
import Derived.ProofKit
import Derived.OpenShut
import Derived.ShutString
import Derived.ChangeOld
import Derived.Below
import Derived.Lib.UnsafeStr
import Derived.Test.YtjiagjonlcadiaaGb5
set_option maxRecDepth 100000
set_option maxHeartbeats 16000000
set_option linter.unusedVariables false
set_option linter.unusedSimpArgs false
namespace Go.Proofs.Ytjiagjonlcadiaa
section
open Go.RowKit Go.Lib
theorem HasN.there2 {w : World} {b n : Nat} {t : TypeId} (h : HasN w b n t) (o k : Nat) (ho : o + k ≤ n) : w.there b o k := fun j hj => by
 obtain ⟨c, hn, h⟩ := h
 exact ⟨by rw [h.cellAt, Array.getElem?_eq_getElem (by omega)]; rfl, h.frozen _⟩
def ptl (x y z : Nat) (b : Bool) : List Value := (pt x y z b).toList
theorem ptl_arr (x y z : Nat) (b : Bool) : pt x y z b = (ptl x y z b).toArray := by simp [ptl]
theorem ZW (x y z : Nat) (b : Bool) : (ptl x y z b).length = 13 := by unfold ptl; rw [Array.length_toList, qs]
structure Rng (w : World) (b o : Nat) (l : List Value) : Prop where
 lt : b < w.heap.size
 at_ : w.rangeAt b o l
theorem Rng.call {w w' : World} {b o : Nat} {l : List Value} (h : Rng w b o l) (hb : Below w.heap.size w w') : Rng w' b o l := ⟨Nat.lt_of_lt_of_le h.lt hb.size, Qv h.at_ hb h.lt⟩
theorem Rng.drew {w : World} {b o : Nat} {l : List Value} (h : Rng w b o l) : Rng w.drew b o l := ⟨h.lt, h.at_⟩
theorem Rng.setRow_other {w : World} {b o : Nat} {l : List Value} (h : Rng w b o l) (g : Nat) (c : Array Value) (hg : b ≠ g) : Rng (w.setRow g c) b o l :=
 ⟨by have := (below_setRow (Below.refl 0 w) g c (Nat.zero_le _)).size; exact Nat.lt_of_lt_of_le h.lt this, fun j v hv => (World.cell?_of_block (w := w) (w' := w.setRow g c) (a := ⟨b, o + j, none⟩) (Go.setRow_other w g b c hg)).trans (h.at_ j v hv)⟩
theorem Rng.setCells_other {w : World} {b o : Nat} {l : List Value} (h : Rng w b o l) (g o' : Nat) (vs : List Value) (hg : b ≠ g ∨ o + l.length ≤ o' ∨ o' + vs.length ≤ o) : Rng (w.setCells g o' vs) b o l :=
 ⟨by have := (zU (Nat.zero_le g) vs o' w (Below.refl 0 w)).size; exact Nat.lt_of_lt_of_le h.lt this, World.rangeAt_setCells_apart h.at_ _ _ _ hg⟩
def PtA (x y z : Nat) (b : Bool) (p : Fin PP × Fin PP) : Prop := ∃ X Y Z, qag x y z b X Y Z ∧ Rep X Y Z p
theorem PtA.on {x y z : Nat} {b : Bool} {p : Fin PP × Fin PP} (h : PtA x y z b p) : OnP fd p := let ⟨_, _, _, _, h⟩ := h; h.2.2.2
theorem zero_pta : PtA 0 0 0 false (0, 1) := ⟨0, 1, 1, ⟨⟨by decide, by decide, by decide⟩, .inr ⟨rfl, by decide +kernel, by decide +kernel, by decide +kernel⟩⟩, qcv⟩
structure Tab (w : World) (B i : Nat) (p : Fin PP × Fin PP) : Prop where
 has : HasN w B 208 53
 rng : ∀ j, j < i → ∃ x y z b, PtA x y z b (qX qP fd p j) ∧ w.rangeAt B (j * 13) (ptl x y z b)
section tab
variable {w w' : World} {B i : Nat} {p : Fin PP × Fin PP}
theorem Tab.lt (h : Tab w B i p) : B < w.heap.size := h.has.lt
theorem Tab.call (h : Tab w B i p) (hb : Below w.heap.size w w') : Tab w' B i p := ⟨h.has.call hb, fun j hj => let ⟨x, y, z, b, h1, h2⟩ := h.rng j hj; ⟨x, y, z, b, h1, Qv h2 hb h.lt⟩⟩
theorem Tab.drew (h : Tab w B i p) : Tab w.drew B i p := ⟨h.has, h.rng⟩
theorem Tab.alloc (h : Tab w B i p) (o : Obj) : Tab (w.alloc o) B i p := h.call ((Below.refl _ _).alloc (Nat.le_refl _) _)
theorem Tab.setRow_other (h : Tab w B i p) (g : Nat) (c : Array Value) (hg : B ≠ g) : Tab (w.setRow g c) B i p :=
 ⟨h.has.setRow_other g c hg, fun j hj => let ⟨x, y, z, b, h1, h2⟩ := h.rng j hj; ⟨x, y, z, b, h1, ((Rng.mk h.lt h2).setRow_other g c hg).at_⟩⟩
theorem Tab.other (h : Tab w B i p) (a : Addr) (v : Value) (hb : B ≠ a.block) : Tab (w.setCell a v) B i p :=
 ⟨h.has.other a v hb, fun j hj => let ⟨x, y, z, b, h1, h2⟩ := h.rng j hj; ⟨x, y, z, b, h1, fun k u hu => (World.cell?_of_block (w := w) (w' := w.setCell a v) (a := ⟨B, j * 13 + k, none⟩) (heap_setCell_other w a B v hb)).trans (h2 k u hu)⟩⟩
theorem Tab.next (h : Tab w B i p) (hi : i < 16) (x y z : Nat) (b : Bool) (hp : PtA x y z b (qX qP fd p i)) : Tab (w.setCells B (i * 13) (ptl x y z b)) B (i + 1) p := by
 refine ⟨h.has.setCells _ _ _, fun j hj => ?_⟩
 by_cases e : j = i
 · subst e
   exact ⟨x, y, z, b, hp, World.rangeAt_setCells_same w B _ _ (h.has.there2 _ _ (by rw [ZW]; omega))⟩
 · obtain ⟨x1, y1, z1, b1, h1, h2⟩ := h.rng j (by omega)
   exact ⟨x1, y1, z1, b1, h1, World.rangeAt_setCells_apart h2 _ _ _ (.inr (.inl (by rw [ZW]; omega)))⟩
theorem Tab.at_ (h : Tab w B i p) (j : Nat) (hj : j < i) : ∃ x y z b, PtA x y z b (qX qP fd p j) ∧ Rng w B (j * 13) (ptl x y z b) := let ⟨x, y, z, b, h1, h2⟩ := h.rng j hj; ⟨x, y, z, b, h1, h.lt, h2⟩
theorem Tab.but {A W : World} {B0 B i : Nat} {p : Fin PP × Fin PP} (h : Tab A B i p) (hb : But B0 A W) (hn : B ≠ B0) : Tab W B i p :=
 ⟨h.has.but hb hn, fun j hj => let ⟨x, y, z, b, h1, h2⟩ := h.rng j hj; ⟨x, y, z, b, h1, fun k u hu => (World.cell?_of_block (w := A) (w' := W) (a := ⟨B, j * 13 + k, none⟩) (hb.block B h.lt hn)).trans (h2 k u hu)⟩⟩
end tab
theorem bkw_call (a : Option Addr) (len cap : Nat) (w : World) : Calls Try.prog 94 #[.slice a len cap] w fun e w' => (e = .returned (.func (.func 111) #[] #[.pointer (some ⟨w.heap.size, 0, none⟩)]) ∧ Has w' w.heap.size #[.slice a len cap] 22) ∧ Below w.heap.size w w' := by
 refine (bkw_any a len cap w).mono ?_
 rintro e w' ⟨rfl, rfl⟩
 exact ⟨⟨rfl, Has.new w _ _⟩, Qc w _⟩
theorem ent111 : ∀ (args : Array Value) (w : World), (callFunc 111 args).run Try.prog w = .ok (.enter 111 args) w := Go.Proofs.enters_of Try.func111 (by kernel_rfl) rfl
theorem ent94 : _root_.Go.Enters Try.prog 94 := ⟨_, Try.func94, by kernel_rfl, by kernel_rfl⟩
def DefAt (W : World) (D : Nat) : Prop := W.heap[D]? = some (.deferred (some []))
theorem DefAt.setRow_other {W : World} {D : Nat} (h : DefAt W D) (g : Nat) (c : Array Value) (hg : D ≠ g) : DefAt (W.setRow g c) D := (Go.setRow_other W g D c hg).trans h
theorem Has.putObj {W : World} {b D : Nat} {c : Array Value} {t : TypeId} (h : Has W b c t) (o : Obj) (hn : b ≠ D) : Has (W.putObj D o) b c t := by
 unfold Has at *
 rw [← h]
 show (W.heap.setIfInBounds D o)[b]? = _
 rw [Array.getElem?_setIfInBounds_ne (fun e => hn e.symm)]
def vl (n : Nat) (l : List Nat) : Nat := l.foldl (fun a x => 256 * a + n / 256 ^ x % 256) 0
theorem vl_snoc (n : Nat) (l : List Nat) (x : Nat) : vl n (l ++ [x]) = 256 * vl n l + n / 256 ^ x % 256 := by unfold vl; rw [List.foldl_append]; rfl
theorem vl_upto (n : Nat) (hn : n < 256 ^ 32) : ∀ k, k ≤ 32 → vl n (qbi (bkf 32) k) = n / 256 ^ (32 - k) := by
 intro k
 induction k with
 | zero => intro _; show 0 = n / 256 ^ 32; rw [Nat.div_eq_of_lt hn]
 | succ k ih =>
  intro hk
  rw [qdy, vl_snoc, ih (by omega)]
  unfold bkf
  obtain ⟨j, hj⟩ : ∃ j, j = 32 - (k + 1) := ⟨_, rfl⟩
  rw [show 32 - 1 - k = j by omega, show 32 - k = j + 1 by omega, ← hj, Nat.pow_succ, ← Nat.div_div_eq_div_mul]
  omega
theorem vl_all (n : Nat) (hn : n < 115792089237316195423570985008687907853269984665640564039457584007913129639936) : vl n (qbi (bkf 32) 32) = n := by
 rw [vl_upto n (by rw [show (256 : Nat) ^ 32 = 115792089237316195423570985008687907853269984665640564039457584007913129639936 by decide +kernel]; exact hn) 32 (Nat.le_refl _), Nat.sub_self, Nat.pow_zero, Nat.div_one]
theorem mk16 (w : World) : (Instr.makeSlice 113 (.int .i64 16) (.int .i64 16)).run Try.prog w = .ok (.slice (some ⟨w.heap.size, 0, none⟩) 16 16) (w.alloc (.cells (madeCells z53 208) 53)) := by
 obtain ⟨i, hi⟩ : ∃ i, Try.prog.info? 53 = some i := Option.isSome_iff_exists.1 (by kernel_rfl)
 have hz : (Try.prog.info? 53).map (·.zero) = some (some (.agg z53)) := by kernel_rfl
 have h1 : (Try.prog.info? 53).map (·.size) = some 13 := by kernel_rfl
 have h2 : (Try.prog.info? 53).map (fun i => decide (i.bytes ≤ 1000)) = some true := by kernel_rfl
 rw [hi] at hz h1 h2
 have hz := Option.some.inj hz
 have h1 := Option.some.inj h1
 have h2 := of_decide_eq_true (Option.some.inj h2)
 dsimp only at hz h1 h2
 have h := run_makeSlice (P := Try.prog) w 113 53 i _ Try.underlying113 hi hz .i64 .i64 16 16 (by decide) (by decide) (by rw [h1]; decide) (by omega) (by decide)
 rw [h1] at h
 exact h
theorem tab_new (w : World) (p : Fin PP × Fin PP) : Tab (w.alloc (.cells (madeCells z53 208) 53)) w.heap.size 1 p := by
 refine ⟨HasN.new w _ _ 208 (size_madeCells _ _), fun j hj => ?_⟩
 obtain rfl : j = 0 := by omega
 refine ⟨0, 0, 0, false, zero_pta, fun k v hv => ?_⟩
 rw [(Has.new w (madeCells z53 208) 53).cellAt]
 have hk : k < 13 := by have := (List.getElem?_eq_some_iff.1 hv).1; rwa [ZW] at this
 rw [← hv, ptl, Array.getElem?_toList]
 rcases (show k = 0 ∨ k = 1 ∨ k = 2 ∨ k = 3 ∨ k = 4 ∨ k = 5 ∨ k = 6 ∨ k = 7 ∨ k = 8 ∨ k = 9 ∨ k = 10 ∨ k = 11 ∨ k = 12 by omega) with rfl | rfl | rfl | rfl | rfl | rfl | rfl | rfl | rfl | rfl | rfl | rfl | rfl <;> (show (_ : Option Value) = _; kernel_rfl)
theorem inf53 : ∃ i : TypeInfo, Try.prog.info? 53 = some i ∧ i.size = 13 := by
 obtain ⟨i, hi⟩ : ∃ i, Try.prog.info? 53 = some i := Option.isSome_iff_exists.1 (by kernel_rfl)
 have h1 : (Try.prog.info? 53).map (·.size) = some 13 := by kernel_rfl
 rw [hi] at h1
 exact ⟨i, hi, Option.some.inj h1⟩
theorem idx53 {ops : Array Oper} {S : World → Prop} {a : Act} {o : Oper} (hw : Region.wanted o (yielded ops a.tmps) = true) (x y : Operand) (ho : o.op = .indexAddr 113 x y) (b len cap : Nat) (hx : a.eval x = .slice (some ⟨b, 0, none⟩) len cap) (kd : IntKind) (i : Int) (hy : a.eval y = .int kd i) (j : Nat) (hj : i = (j : Int)) (hlt : j < len)
 (off : Nat) (hoff : off = j * 13) : YieldsIf Try.prog ops S o (.pointer (some ⟨b, off, none⟩)) a :=
 let ⟨inf, h1, h2⟩ := inf53
 qcw hw 113 x y ho b len cap hx kd i hy j hj hlt 53 Try.underlying113 inf h1 13 h2 off hoff
theorem al111 (w : World) : (Instr.alloc 111 true (.tuple #[])).run Try.prog w = .ok (.pointer (some ⟨w.heap.size, 0, none⟩)) (w.alloc (.cells #[.nilFunc] 111)) := by go_simp
theorem al113 (w : World) : (Instr.alloc 113 true (.tuple #[])).run Try.prog w = .ok (.pointer (some ⟨w.heap.size, 0, none⟩)) (w.alloc (.cells #[.slice none 0 0] 113)) := by go_simp
theorem qbk (d : Nat) (hd : d < 115792089237316195423570985008687907853269984665640564039457584007913129639936) (hdD : d % PP = SL) (x1 y1 z1 : Nat) (b1 : Bool) (p : Fin PP × Fin PP) (h1 : PtA x1 y1 z1 b1 p) (x2 y2 z2 : Nat) (b2 : Bool) (q : Fin PP × Fin PP) (h2 : PtA x2 y2 z2 b2 q) (w : World) :
 Calls Try.prog 92 (#[.agg (e4 d)] ++ [.agg (pt x1 y1 z1 b1), .agg (pt x2 y2 z2 b2)].toArray) w fun e w' => ∃ x y z b, PtA x y z b (QH qP fd p q) ∧ e = .returned (.agg (pt x y z b)) ∧ Below w.heap.size w w' := by
 obtain ⟨X1, Y1, Z1, i1, r1⟩ := h1
 obtain ⟨X2, Y2, Z2, i2, r2⟩ := h2
 refine (add_of d SL hd hdD x1 y1 z1 b1 X1 Y1 Z1 i1 x2 y2 z2 b2 X2 Y2 Z2 i2 w).mono ?_
 rintro e w' ⟨x, y, z, b, hpt, he, hb⟩
 exact ⟨x, y, z, b, ⟨_, _, _, hpt, qbt _ _ _ _ _ _ p q r1 r2⟩, he, hb⟩
theorem pmany_any (x y z n : Nat) (b : Bool) (p : Fin PP × Fin PP) (hp : PtA x y z b p) (hn : n < 115792089237316195423570985008687907853269984665640564039457584007913129639936) (w : World) :
 Calls Try.prog 56 #[.agg (pt x y z b), .agg (k32 n)] w fun e w' => ∃ x2 y2 z2 b2, PtA x2 y2 z2 b2 (qX qP fd p n) ∧ e = .returned (.agg (pt x2 y2 z2 b2)) ∧ Below w.heap.size w w' := by
 have hop : OnP fd p := hp.on
 have Hp := Lib.hid hp; clear hp
 have Hop := Lib.hid hop; clear hop
 have Hn := Lib.hid hn; clear hn
 refine (callsIn_wide (n := 3)).1 (callsIn_of_wp_marks Try.func56 rfl trivial (wpIn_wide.2 ?_) rfl)
 simp only [Try.ntmps56, List.size_toArray, List.length_cons, List.length_nil, Nat.reduceAdd, Nat.reduceSub, Array.replicate_succ, Array.replicate_zero, List.push_toArray, List.append_toArray, List.nil_append, List.cons_append]
 repeat ((fail_if_success (with_reducible (show wpList _ _ _ _ _ _))); go_step)
 iterate 3 (refine wpList_step (fun K hK => ?_); go_simp; (try go_bits); refine hK _ _ ?_; clear hK K)
 refine wpList_nil ?_
 have M2 := Lib.hid (((Has.new w  (pt x y z b) 53).alloc (.cells (k32 n) 24)).alloc (.cells (#[.int .u64 0, .int .u64 0, .int .u64 0, .int .u64 0, .int .u64 0, .int .u64 0, .int .u64 0, .int .u64 0, .int .u64 0, .int .u64 0, .int .u64 0, .int .u64 0, .bool false] : Array Value) 53))
 have M3 := Lib.hid ((Has.new1 w (.cells (pt x y z b) 53) (k32 n) 24).alloc (.cells (#[.int .u64 0, .int .u64 0, .int .u64 0, .int .u64 0, .int .u64 0, .int .u64 0, .int .u64 0, .int .u64 0, .int .u64 0, .int .u64 0, .int .u64 0, .int .u64 0, .bool false] : Array Value) 53))
 have M4 := Lib.hid (HasN.new2 w (.cells (pt x y z b) 53) (.cells (k32 n) 24) (#[.int .u64 0, .int .u64 0, .int .u64 0, .int .u64 0, .int .u64 0, .int .u64 0, .int .u64 0, .int .u64 0, .int .u64 0, .int .u64 0, .int .u64 0, .int .u64 0, .bool false] : Array Value) 53 13 (by kernel_rfl))
 have HB := Lib.hid (QD w (.cells (pt x y z b) 53) (.cells (k32 n) 24) (.cells (#[.int .u64 0, .int .u64 0, .int .u64 0, .int .u64 0, .int .u64 0, .int .u64 0, .int .u64 0, .int .u64 0, .int .u64 0, .int .u64 0, .int .u64 0, .int .u64 0, .bool false] : Array Value) 53))
 obtain ⟨yw1, hwyw1⟩ : ∃ ww, ww = (((w.alloc (.cells (pt x y z b) 53)).alloc (.cells (k32 n) 24)).alloc (.cells (#[.int .u64 0, .int .u64 0, .int .u64 0, .int .u64 0, .int .u64 0, .int .u64 0, .int .u64 0, .int .u64 0, .int .u64 0, .int .u64 0, .int .u64 0, .int .u64 0, .bool false] : Array Value) 53)) := ⟨_, rfl⟩
 rw [← hwyw1] at M2 M3 M4 HB ⊢
 clear hwyw1
 repeat ((fail_if_success (with_reducible (show wpList _ _ _ _ _ _))); go_step)
 refine qm (by rfl) rfl rfl (by rfl) ent91 (by rfl) (qbN _) 13 rfl ?_
 rintro e uw1 ⟨d, hd, hdr, rfl, hb⟩
 replace M2 := Lib.hid (M2.out.call hb)
 replace M3 := Lib.hid (M3.out.call hb)
 replace M4 := Lib.hid (M4.out.call hb)
 replace HB := Lib.hid (qh HB.out hb)
 refine ⟨_, rfl, ?_⟩
 clear hb
 (try simp only [Act.put, sI, sS, sZ])
 (refine wpList_step (fun K hK => ?_); go_simp; (try go_bits); refine hK _ _ ?_; clear hK K)
 refine qJ (by rfl) 111 rfl _ al111 5 rfl ?_
 intro yw2 hw2
 have hlt3 := M2.out.lt
 have hlt4 := M3.out.lt
 have hlt5 := M4.out.lt
 have hsz := HB.out.size
 replace M2 := Lib.hid (M2.out.alloc (.cells #[.nilFunc] 111))
 replace M3 := Lib.hid (M3.out.alloc (.cells #[.nilFunc] 111))
 replace M4 := Lib.hid (M4.out.alloc (.cells #[.nilFunc] 111))
 have M5 := Lib.hid (Has.new uw1 #[.nilFunc] 111)
 replace HB := Lib.hid (HB.out.alloc hsz (.cells #[.nilFunc] 111))
 rw [← hw2] at M2 M3 M4 M5 HB; clear hw2
 (try simp only [Act.put, sI, sS, sZ])
 refine zG (by rfl) 111 _ _ rfl rfl (uw1.heap.size) (.func (.func 92) #[.agg (e4 d)] #[]) rfl rfl _ _ M5.out (by kernel_rfl) rfl rfl ?_
 intro yw6 hw2
 replace M2 := Lib.hid (M2.out.other ⟨uw1.heap.size, 0, none⟩ (.func (.func 92) #[.agg (e4 d)] #[]) (show _ ≠ uw1.heap.size by omega))
 replace M3 := Lib.hid (M3.out.other ⟨uw1.heap.size, 0, none⟩ (.func (.func 92) #[.agg (e4 d)] #[]) (show _ ≠ uw1.heap.size by omega))
 replace M4 := Lib.hid (M4.out.other ⟨uw1.heap.size, 0, none⟩ (.func (.func 92) #[.agg (e4 d)] #[]) (show _ ≠ uw1.heap.size by omega))
 replace M5 := Lib.hid (M5.out.setAt 0 (.func (.func 92) #[.agg (e4 d)] #[]))
 replace HB := Lib.hid (HB.out.setCell (p := ⟨uw1.heap.size, 0, none⟩) (show w.heap.size ≤ uw1.heap.size by omega) (.func (.func 92) #[.agg (e4 d)] #[]))
 rw [← hw2] at M2 M3 M4 M5 HB; clear hw2
 replace M5 : RowKit.Hid (Has yw6 (uw1.heap.size) #[.func (.func 92) #[.agg (e4 d)] #[]] 111) := M5
 refine wpList_nil ?_
 obtain ⟨B5, hB5⟩ : ∃ B, B = uw1.heap.size := ⟨_, rfl⟩
 rw [← hB5] at M5 ⊢
 have gB5 : w.heap.size + 1 + 1 < B5 := by omega
 clear hB5
 repeat ((fail_if_success (with_reducible (show wpList _ _ _ _ _ _))); go_step)
 have gT := M5.out.lt
 refine zJ (by rfl) 113 _ _ rfl _ _ rfl rfl _ _ (mk16 _) 15 rfl ?_
 have hb := Qc yw6 (.cells (madeCells z53 208) 53)
 have nwT := tab_new yw6 p
 obtain ⟨yw7, hwyw7⟩ : ∃ ww, ww = yw6.alloc (.cells (madeCells z53 208) 53) := ⟨_, rfl⟩
 rw [← hwyw7] at hb nwT ⊢
 clear hwyw7
 replace M2 := Lib.hid (M2.out.call hb)
 replace M3 := Lib.hid (M3.out.call hb)
 replace M4 := Lib.hid (M4.out.call hb)
 replace M5 := Lib.hid (M5.out.call hb)
 replace HB := Lib.hid (qh HB.out hb)
 clear hb
 have T := Lib.hid nwT; clear nwT
 (try simp only [Act.put, sI, sS, sZ])
 refine qJ (by rfl) 113 rfl _ al113 6 rfl ?_
 intro yw8 hw2
 have hlt9 := M2.out.lt
 have hlt10 := M3.out.lt
 have hlt11 := M4.out.lt
 have hlt12 := M5.out.lt
 have hlt13 := T.out.lt
 have hsz := HB.out.size
 replace M2 := Lib.hid (M2.out.alloc (.cells #[.slice none 0 0] 113))
 replace M3 := Lib.hid (M3.out.alloc (.cells #[.slice none 0 0] 113))
 replace M4 := Lib.hid (M4.out.alloc (.cells #[.slice none 0 0] 113))
 replace M5 := Lib.hid (M5.out.alloc (.cells #[.slice none 0 0] 113))
 replace T := Lib.hid (T.out.alloc (.cells #[.slice none 0 0] 113))
 have M6 := Lib.hid (Has.new yw7 #[.slice none 0 0] 113)
 replace HB := Lib.hid (HB.out.alloc hsz (.cells #[.slice none 0 0] 113))
 rw [← hw2] at M2 M3 M4 M5 T M6 HB; clear hw2
 (try simp only [Act.put, sI, sS, sZ])
 refine zG (by rfl) 113 _ _ rfl rfl (yw7.heap.size) (.slice (some ⟨yw6.heap.size, 0, none⟩) 16 16) rfl rfl _ _ M6.out (by kernel_rfl) rfl rfl ?_
 intro yw14 hw2
 replace M2 := Lib.hid (M2.out.other ⟨yw7.heap.size, 0, none⟩ (.slice (some ⟨yw6.heap.size, 0, none⟩) 16 16) (show _ ≠ yw7.heap.size by omega))
 replace M3 := Lib.hid (M3.out.other ⟨yw7.heap.size, 0, none⟩ (.slice (some ⟨yw6.heap.size, 0, none⟩) 16 16) (show _ ≠ yw7.heap.size by omega))
 replace M4 := Lib.hid (M4.out.other ⟨yw7.heap.size, 0, none⟩ (.slice (some ⟨yw6.heap.size, 0, none⟩) 16 16) (show _ ≠ yw7.heap.size by omega))
 replace M5 := Lib.hid (M5.out.other ⟨yw7.heap.size, 0, none⟩ (.slice (some ⟨yw6.heap.size, 0, none⟩) 16 16) (show _ ≠ yw7.heap.size by omega))
 replace T := Lib.hid (T.out.other ⟨yw7.heap.size, 0, none⟩ (.slice (some ⟨yw6.heap.size, 0, none⟩) 16 16) (show _ ≠ yw7.heap.size by omega))
 replace M6 := Lib.hid (M6.out.setAt 0 (.slice (some ⟨yw6.heap.size, 0, none⟩) 16 16))
 replace HB := Lib.hid (HB.out.setCell (p := ⟨yw7.heap.size, 0, none⟩) (show w.heap.size ≤ yw7.heap.size by omega) (.slice (some ⟨yw6.heap.size, 0, none⟩) 16 16))
 rw [← hw2] at M2 M3 M4 M5 T M6 HB; clear hw2
 replace M6 : RowKit.Hid (Has yw14 (yw7.heap.size) #[.slice (some ⟨yw6.heap.size, 0, none⟩) 16 16] 113) := M6
 refine wpList_nil ?_
 obtain ⟨TB, hTB⟩ : ∃ B, B = yw6.heap.size := ⟨_, rfl⟩
 rw [← hTB] at T M6 ⊢
 obtain ⟨B6, hB6⟩ : ∃ B, B = yw7.heap.size := ⟨_, rfl⟩
 rw [← hB6] at M6 ⊢
 have gTB : B5 < TB := by omega
 have gB6 : TB < B6 := by omega
 clear hTB hB6
 repeat ((fail_if_success (with_reducible (show wpList _ _ _ _ _ _))); go_step)
 (refine wpList_step (fun K hK => ?_); go_simp; (try go_bits); refine hK _ _ ?_; clear hK K)
 refine wpList_nil ?_
 repeat ((fail_if_success (with_reducible (show wpList _ _ _ _ _ _))); go_step)
 go_loopw [7] (fun i wr => ∃ k : Nat, 1 ≤ k ∧ k ≤ 16 ∧ i = .int .i64 (k : Int) ∧ Has wr w.heap.size (pt x y z b) 53 ∧ Has wr (w.heap.size + 1) (k32 n) 24 ∧ HasN wr (w.heap.size + 1 + 1) 13 53 ∧ Has wr B5 #[.func (.func 92) #[.agg (e4 d)] #[]] 111 ∧ Tab wr TB k p ∧ Has wr B6 #[.slice (some ⟨TB, 0, none⟩) 16 16] 113 ∧ Below w.heap.size w wr) (fun i _ => (16 - intOf i).toNat)
 case atStart => exact ⟨1, by omega, by omega, rfl, M2.out, M3.out, M4.out, M5.out, T.out, M6.out, HB.out⟩
 case round =>
  clear M2 M3 M4 M5 T M6 HB
  obtain ⟨k, hk1, hk2, rfl, m2, m3, m4, m5, t, m6, hB⟩ := hrel
  have M2 := Lib.hid m2; clear m2
  have M3 := Lib.hid m3; clear m3
  have M4 := Lib.hid m4; clear m4
  have M5 := Lib.hid m5; clear m5
  have T := Lib.hid t; clear t
  have M6 := Lib.hid m6; clear m6
  have HB := Lib.hid hB; clear hB
  rcases Nat.lt_or_ge k 16 with hk | hk
  · have kq : (k : Int) < 16 := by omega
    repeat ((fail_if_success (with_reducible (show wpList _ _ _ _ _ _))); go_step)
    (refine wpList_step (fun K hK => ?_); go_simp; (try go_bits); refine hK _ _ ?_; clear hK K)
    refine QI (by rfl) 113 _ rfl (B6) rfl (.slice (some ⟨TB, 0, none⟩) 16 16) _ M6.out.one Try.underlying113 rfl 17 rfl ?_
    (try simp only [Act.put, sI, sS, sZ])
    iterate 2 (refine wpList_step (fun K hK => ?_); go_simp; (try go_bits); refine hK _ _ ?_; clear hK K)
    refine wpList_nil ?_
    repeat ((fail_if_success (with_reducible (show wpList _ _ _ _ _ _))); go_step)
    obtain ⟨j, rfl⟩ : ∃ j, k = j + 1 := ⟨k - 1, by omega⟩
    have hj : j < 16 := by omega
    have kq0 : ((j + 1 : Nat) : Int) = (j : Int) + 1 := by omega
    obtain ⟨x1, y1, z1, b1, hq1, hrg⟩ := T.out.at_ j (by omega)
    have Hq1 := Lib.hid hq1; clear hq1
    have Hrg := Lib.hid hrg; clear hrg
    have Kq0 := Lib.hid kq0; clear kq0
    have hl1 := ZW x1 y1 z1 b1
    refine wp_region_noPanic ?_
    refine q7 (fun w' => Has w' (w.heap.size) (pt x y z b) 53 ∧ Has w' (B5) (#[.func (.func 92) #[.agg (e4 d)] #[]]) 111 ∧ Has w' (B6) (#[.slice (some ⟨TB, 0, none⟩) 16 16]) 113 ∧ Rng w' (TB) (j * 13) (ptl x1 y1 z1 b1)) 99 12 #[ff,ff,ff,ff,ff,ff,ff,ff,ff,ff,ff,ff] (by kernel_rfl) rfl rfl ?_
    replace M2 := Lib.hid (M2.out.drew)
    replace M3 := Lib.hid (M3.out.drew)
    replace M4 := Lib.hid (M4.out.drew)
    replace M5 := Lib.hid (M5.out.drew)
    replace T := Lib.hid (T.out.drew)
    replace M6 := Lib.hid (M6.out.drew)
    replace Hrg := Lib.hid (Hrg.out.drew)
    replace HB := Lib.hid (qN HB.out 1)
    obtain ⟨yw101, hwyw101⟩ : ∃ ww, ww = wr.drew := ⟨_, rfl⟩
    rw [← hwyw101] at M2 M3 M4 M5 T M6 Hrg ⊢
    have kq : Below w.heap.size w yw101 := by rw [hwyw101]; exact HB.out
    clear HB; have HB := Lib.hid kq; clear kq hwyw101
    refine qg 0 22 #[tt,ff,ff,ff,ff,ff,ff,ff,ff,ff,ff,ff] rfl rfl rfl (by kernel_rfl) (Qf (by rfl) 113 _ rfl (B6) rfl (.slice (some ⟨TB, 0, none⟩) 16 16) _ (fun _ h => Has.one (h.2.2.1)) Try.underlying113 rfl) (⟨M2.out, M5.out, M6.out, Hrg.out⟩) ?_
    (try simp only [sI, sS, sZ])
    refine qg 1 23 #[tt,tt,ff,ff,ff,ff,ff,ff,ff,ff,ff,ff] (v := ?uv1) rfl rfl rfl (by kernel_rfl) (Or.inl ⟨by rfl, ?uy1⟩) (⟨M2.out, M5.out, M6.out, Hrg.out⟩) ?urest1
    case uy1 => (intro _ _; go_simp; try with_reducible rfl)
    (try simp only [sI, sS, sZ])
    refine qg 2 24 #[tt,tt,tt,ff,ff,ff,ff,ff,ff,ff,ff,ff] rfl rfl rfl (by kernel_rfl) (Qf (by rfl) 111 _ rfl (B5) rfl (.func (.func 92) #[.agg (e4 d)] #[]) _ (fun _ h => Has.one (h.2.1)) Try.underlying111 rfl) (⟨M2.out, M5.out, M6.out, Hrg.out⟩) ?_
    (try simp only [sI, sS, sZ])
    refine qg 3 25 #[tt,tt,tt,tt,ff,ff,ff,ff,ff,ff,ff,ff] rfl rfl rfl (by kernel_rfl) (Qf (by rfl) 113 _ rfl (B6) rfl (.slice (some ⟨TB, 0, none⟩) 16 16) _ (fun _ h => Has.one (h.2.2.1)) Try.underlying113 rfl) (⟨M2.out, M5.out, M6.out, Hrg.out⟩) ?_
    (try simp only [sI, sS, sZ])
    refine qg 4 26 #[tt,tt,tt,tt,tt,ff,ff,ff,ff,ff,ff,ff] (v := ?uv2) rfl rfl rfl (by kernel_rfl) (Or.inl ⟨by rfl, ?uy2⟩) (⟨M2.out, M5.out, M6.out, Hrg.out⟩) ?urest2
    case uy2 => (intro _ _; go_simp; try with_reducible rfl)
    (try simp only [sI, sS, sZ])
    refine qg 5 27 #[tt,tt,tt,tt,tt,tt,ff,ff,ff,ff,ff,ff] (v := ?uv3) rfl rfl rfl (by kernel_rfl) (Or.inl ⟨by rfl, ?uy3⟩) (⟨M2.out, M5.out, M6.out, Hrg.out⟩) ?urest3
    case uy3 => (intro _ _; go_simp; try with_reducible rfl)
    (try simp only [sI, sS, sZ])
    refine qg 6 28 #[tt,tt,tt,tt,tt,tt,tt,ff,ff,ff,ff,ff] rfl rfl rfl (by kernel_rfl) (idx53 (by rfl) _ _ rfl (TB) _ _ rfl _ _ (by rfl) (j) (by rw [IntKind.wrap_i64]; omega) (by omega) (j * 13) (rfl)) (⟨M2.out, M5.out, M6.out, Hrg.out⟩) ?_
    (try simp only [sI, sS, sZ])
    refine qg 7 29 #[tt,tt,tt,tt,tt,tt,tt,tt,ff,ff,ff,ff] rfl rfl rfl (by kernel_rfl) (qS (by rfl) 53 _ rfl (TB) (j * 13) rfl (ptl x1 y1 z1 b1) (pt x1 y1 z1 b1) (ptl_arr ..) (fun _ h => Rng.at_ (h.2.2.2)) _ Try.underlying53 rfl (by rw [ZW]; kernel_rfl)) (⟨M2.out, M5.out, M6.out, Hrg.out⟩) ?_
    (try simp only [sI, sS, sZ])
    refine qg 8 30 #[tt,tt,tt,tt,tt,tt,tt,tt,tt,ff,ff,ff] rfl rfl rfl (by kernel_rfl) (qj (by rfl) 53 _ rfl (w.heap.size) rfl 53 (pt x y z b) (fun _ h => h.1) Try.underlying53 rfl (by rw [qs]; kernel_rfl)) (⟨M2.out, M5.out, M6.out, Hrg.out⟩) ?_
    (try simp only [sI, sS, sZ])
    refine qk (i := 9) (by kernel_rfl) ?_
    refine qc6 9 31 #[tt,tt,tt,tt,tt,tt,tt,tt,tt,tt,ff,ff] rfl rfl rfl (by rfl) rfl rfl (by rfl) qdQ (by rfl) (qbk d hd hdr x1 y1 z1 b1 _ Hq1.out x y z b _ Hp.out _) ?_
    rintro e uw101 ⟨x3, y3, z3, b3, hq3, rfl, hb⟩
    replace M2 := Lib.hid (M2.out.call hb)
    replace M3 := Lib.hid (M3.out.call hb)
    replace M4 := Lib.hid (M4.out.call hb)
    replace M5 := Lib.hid (M5.out.call hb)
    replace T := Lib.hid (T.out.call hb)
    replace M6 := Lib.hid (M6.out.call hb)
    replace Hrg := Lib.hid (Hrg.out.call hb)
    replace HB := Lib.hid (qh HB.out hb)
    have Hq3 := Lib.hid hq3; clear hq3
    refine ⟨_, rfl, fun _ => ⟨M2.out, M5.out, M6.out, Hrg.out⟩, ?_⟩
    clear hb
    (try simp only [sI, sS, sZ])
    refine qg 10 32 #[tt,tt,tt,tt,tt,tt,tt,tt,tt,tt,tt,ff] rfl rfl rfl (by kernel_rfl) (idx53 (by rfl) _ _ rfl (TB) _ _ rfl _ _ (by rfl) (j + 1) (rfl) (by omega) ((j + 1) * 13) (rfl)) (⟨M2.out, M5.out, M6.out, Hrg.out⟩) ?_
    (try simp only [sI, sS, sZ])
    refine qk (i := 11) (by kernel_rfl) ?_
    refine go_storem 11 #[tt,tt,tt,tt,tt,tt,tt,tt,tt,tt,tt,tt] rfl rfl rfl (by rfl) 53 _ _ rfl (TB) ((j + 1) * 13) (pt x3 y3 z3 b3) rfl rfl (T.out.has.there2 _ _ (by rw [qs]; omega)) (by rw [qs]; kernel_rfl) (QK _ _ _ _) ?_
    intro yw102 hw2
    replace M2 := Lib.hid (M2.out.setCells_other (TB) ((j + 1) * 13) ((pt x3 y3 z3 b3).toList) (by omega))
    replace M3 := Lib.hid (M3.out.setCells_other (TB) ((j + 1) * 13) ((pt x3 y3 z3 b3).toList) (by omega))
    replace M4 := Lib.hid (M4.out.setCells_other (TB) ((j + 1) * 13) ((pt x3 y3 z3 b3).toList) (by omega))
    replace M5 := Lib.hid (M5.out.setCells_other (TB) ((j + 1) * 13) ((pt x3 y3 z3 b3).toList) (by omega))
    replace M6 := Lib.hid (M6.out.setCells_other (TB) ((j + 1) * 13) ((pt x3 y3 z3 b3).toList) (by omega))
    replace Hrg := Lib.hid (Hrg.out.setCells_other (TB) ((j + 1) * 13) ((pt x3 y3 z3 b3).toList) (by omega))
    replace T := Lib.hid ((show Tab (uw101.setCells TB ((j + 1) * 13) (pt x3 y3 z3 b3).toList) TB (j + 1 + 1) p from T.out.next hk x3 y3 z3 b3 Hq3.out))
    replace HB := Lib.hid (zU (show w.heap.size ≤ TB by omega) ((pt x3 y3 z3 b3).toList) ((j + 1) * 13) _ HB.out)
    rw [← hw2] at M2 M3 M4 M5 M6 Hrg T HB; clear hw2
    refine ⟨fun _ => ⟨M2.out, M5.out, M6.out, Hrg.out⟩, ?_⟩
    (try simp only [sI, sS, sZ])
    refine qu (by kernel_rfl) (NoPanic.normal ?_)
    clear Hrg
    repeat ((fail_if_success (with_reducible (show wpList _ _ _ _ _ _))); go_step)
    iterate 3 (refine wpList_step (fun K hK => ?_); go_simp; (try go_bits); refine hK _ _ ?_; clear hK K)
    refine wpList_nil ?_
    go_roundw
    case measure => simp [intOf]; omega
    case rel => exact ⟨_, _, _, _, _, _, _, _, _, _, _, _, _, _, _, _, _, _, ⟨j + 1 + 1, by omega, by omega, rfl, M2.out, M3.out, M4.out, M5.out, T.out, M6.out, HB.out⟩, rfl⟩
  · have hk16 : k = 16 := by omega
    subst hk16
    clear hk hk1 hk2
    repeat ((fail_if_success (with_reducible (show wpList _ _ _ _ _ _))); go_step)
    (refine wpList_step (fun K hK => ?_); go_simp; (try go_bits); refine hK _ _ ?_; clear hK K)
    refine QI (by rfl) 113 _ rfl (B6) rfl (.slice (some ⟨TB, 0, none⟩) 16 16) _ M6.out.one Try.underlying113 rfl 17 rfl ?_
    (try simp only [Act.put, sI, sS, sZ])
    iterate 2 (refine wpList_step (fun K hK => ?_); go_simp; (try go_bits); refine hK _ _ ?_; clear hK K)
    refine wpList_nil ?_
    repeat ((fail_if_success (with_reducible (show wpList _ _ _ _ _ _))); go_step)
    refine qJ (by rfl) 53 rfl _ al53 8 rfl ?_
    intro yw101 hw2
    have hlt102 := M2.out.lt
    have hlt103 := M3.out.lt
    have hlt104 := M4.out.lt
    have hlt105 := M5.out.lt
    have hlt106 := T.out.lt
    have hlt107 := M6.out.lt
    have hsz := HB.out.size
    replace M2 := Lib.hid (M2.out.alloc (.cells z53 53))
    replace M3 := Lib.hid (M3.out.alloc (.cells z53 53))
    replace M4 := Lib.hid (M4.out.alloc (.cells z53 53))
    replace M5 := Lib.hid (M5.out.alloc (.cells z53 53))
    replace T := Lib.hid (T.out.alloc (.cells z53 53))
    replace M6 := Lib.hid (M6.out.alloc (.cells z53 53))
    have M8 := Lib.hid (Has.new wr z53 53)
    replace HB := Lib.hid (HB.out.alloc hsz (.cells z53 53))
    rw [← hw2] at M2 M3 M4 M5 T M6 M8 HB; clear hw2
    (try simp only [Act.put, sI, sS, sZ])
    refine wpList_nil ?_
    obtain ⟨B8, hB8⟩ : ∃ B, B = wr.heap.size := ⟨_, rfl⟩
    have gB8 : B6 < B8 := by omega
    rw [← hB8] at M8 ⊢
    clear hB8
    repeat ((fail_if_success (with_reducible (show wpList _ _ _ _ _ _))); go_step)
    have hl8b := M8.out.lt
    (refine wpList_step (fun K hK => ?_); go_simp; (try go_bits); refine hK _ _ ?_; clear hK K)
    refine qm (by rfl) rfl rfl (by rfl) ent94 (by rfl) (bkw_call _ _ _ _) 34 rfl ?_
    rintro e uw101 ⟨⟨rfl, hbs⟩, hb⟩
    replace M2 := Lib.hid (M2.out.call hb)
    replace M3 := Lib.hid (M3.out.call hb)
    replace M4 := Lib.hid (M4.out.call hb)
    replace M5 := Lib.hid (M5.out.call hb)
    replace T := Lib.hid (T.out.call hb)
    replace M6 := Lib.hid (M6.out.call hb)
    replace M8 := Lib.hid (M8.out.call hb)
    replace HB := Lib.hid (qh HB.out hb)
    have MS := Lib.hid hbs; clear hbs
    refine ⟨_, rfl, ?_⟩
    clear hb
    (try simp only [Act.put, sI, sS, sZ])
    refine wpList_nil ?_
    obtain ⟨BS, hBS⟩ : ∃ B, B = yw101.heap.size := ⟨_, rfl⟩
    rw [← hBS] at MS ⊢
    have gBS : B8 < BS := by omega
    clear hBS
    repeat ((fail_if_success (with_reducible (show wpList _ _ _ _ _ _))); go_step)
    have hlS := MS.out.lt
    have hl3 := M3.out.lt
    have hl8 := M8.out.lt
    have hI := ownI_from (β := List Nat) (A := uw101) (B := B8) (t := 53) (C := fun pre c => ∃ x y z b, c = pt x y z b ∧ PtA x y z b (qX qP fd p (vl n pre))) (by omega)
    have hst := bkw_stops 2 (by decide) BS (w.heap.size + 1) 32 32 (dg 256 n) (by decide) uw101 hlS hl3 MS.out.one (fun j hj => M3.out.cell j hj)
    have hz : OwnI uw101 B8 53 (fun (pre : List Nat) c => ∃ x y z b, c = pt x y z b ∧ PtA x y z b (qX qP fd p (vl n pre))) [] uw101 :=
     ⟨z53, ⟨0, 0, 0, false, by kernel_rfl, zero_pta⟩, M8.out, But.refl _ _⟩
    have hf : ∀ (x : Nat) (t : Array Value), ((#[35, 36] : Array Tmp).zip #[Value.int .i64 (x : Int), Value.int .u8 (dg 256 n x)]).foldl (fun t (p, v) => t.setIfInBounds p v) t = (t.setIfInBounds 35 (.int .i64 x)).setIfInBounds 36 (.int .u8 (dg 256 n x)) := fun x t => by simp
    refine range_wide (α := Nat) (n := 3) (by decide) (gf := 111) (lb := #[.pointer (some ⟨BS, 0, none⟩)]) rfl ent111 hst (fun h k => keep2_t h k) (keep2_b hlS hl3) (Below.refl _ _) (fun _ => rfl) _ hI hz
     (fun x t => t.setIfInBounds 10 (.int .u8 (dg 256 n x))) ?assign ?body ?done
    case assign =>
     intro l x W K hK
     simp only [hf, sI, sS, sZ] at hK ⊢
     gi_wp2
     exact hK
    case body =>
     rintro l pre x0 W ⟨c, ⟨x5, y5, z5, b5, rfl, hq5⟩, m8, hb8⟩ _
     have m5 := M5.out.but hb8 (by omega)
     have t1 := T.out.but hb8 (by omega)
     have m6 := M6.out.but hb8 (by omega)
     have hB := qb5 HB.out hb8 (by omega) HB.out.size
     have kO := But.refl B8 W
     obtain ⟨q, hqv⟩ : ∃ q : Nat, q = n / 256 ^ x0 % 256 := ⟨_, rfl⟩
     have hq256 : q < 256 := by rw [hqv]; exact Nat.mod_lt _ (by decide)
     have hqd : dg 256 n x0 = (q : Int) := by rw [hqv]; rfl
     have hsn := vl_snoc n pre x0
     rw [← hqv] at hsn
     obtain ⟨V, hV⟩ : ∃ V, V = vl n pre := ⟨_, rfl⟩
     rw [← hV] at hsn hq5
     have hlW := Nat.lt_of_lt_of_le hlS hb8.size
     have hW8 := m8
     simp only [hf, hqd, sI, sS, sZ]
     clear hf hz hI hst hlS hl3 hl8 hl8b M2 M3 M4 M5 T M6 M8 MS HB
     have M5 := Lib.hid m5; clear m5
     have T1 := Lib.hid t1; clear t1
     have M6 := Lib.hid m6; clear m6
     have HB := Lib.hid hB; clear hB
     have KO := Lib.hid kO; clear kO
     have M8 := Lib.hid m8; clear m8
     have Hb8 := Lib.hid hb8; clear hb8
     have Hq5 := Lib.hid hq5; clear hq5
     have Hqd := Lib.hid hqd; clear hqd
     have Hqv := Lib.hid hqv; clear hqv
     have HV := Lib.hid hV; clear hV
     have Hsn := Lib.hid hsn; clear hsn
     have HW8 := Lib.hid hW8; clear hW8
     repeat ((fail_if_success (with_reducible (show wpListIn _ _ _ _ _ _ _ _))); gi_step)
     refine Qg (by kernel_rfl) ?_
     iterate 6 (refine wpList_step (fun K hK => ?_); go_simp; (try go_bits); refine hK _ _ ?_; clear hK K)
     refine wpList_nil ?_
     obtain ⟨r1, r2, hr1, hr2, hrq⟩ : ∃ r1 r2 : Nat, r1 < 16 ∧ r2 < 16 ∧ q = 16 * r1 + r2 := ⟨q / 16, q % 16, by omega, by omega, by omega⟩
     have e1 : (q : Int) / 16 = (r1 : Int) := by omega
     have e2 : (q : Int) % 16 = (r2 : Int) := by omega
     rw [e1, e2]
     clear e1 e2
     have Hrq := Lib.hid hrq; clear hrq
     repeat ((fail_if_success (with_reducible (show wpListIn _ _ _ _ _ _ _ _))); gi_step)
     gi_loopw [42] (fun i wr => ∃ m x6 y6 z6 : Nat, ∃ b6, m ≤ 2 ∧ i = .int .i64 (m : Int) ∧ PtA x6 y6 z6 b6 (qX qP fd p (if m = 0 then V else if m = 1 then 16 * V + r1 else 16 * (16 * V + r1) + r2)) ∧ Has wr B8 (pt x6 y6 z6 b6) 53 ∧ Has wr B5 #[.func (.func 92) #[.agg (e4 d)] #[]] 111 ∧ Tab wr TB 16 p ∧ Has wr B6 #[.slice (some ⟨TB, 0, none⟩) 16 16] 113 ∧ But B8 W wr ∧ Below w.heap.size w wr) (fun i _ => (2 - intOf i).toNat)
     case atStart => exact ⟨0, x5, y5, z5, b5, by omega, rfl, Hq5.out, M8.out, M5.out, T1.out, M6.out, KO.out, HB.out⟩
     case round =>
      clear M5 T1 M6 M8 KO HB
      obtain ⟨m, x6, y6, z6, b6, hm, rfl, hq6, m8, m5, t1, m6, kO, hB⟩ := hrel
      have M5 := Lib.hid m5; clear m5
      have T1 := Lib.hid t1; clear t1
      have M6 := Lib.hid m6; clear m6
      have HB := Lib.hid hB; clear hB
      have KO := Lib.hid kO; clear kO
      have M8 := Lib.hid m8; clear m8
      rcases (show m = 0 ∨ m = 1 ∨ m = 2 by omega) with rfl | rfl | rfl
      · have Hq6 := Lib.hid hq6; clear hq6
        obtain ⟨a, ha⟩ : ∃ a, a = if (0 : Nat) = 0 then V else if (0 : Nat) = 1 then 16 * V + r1 else 16 * (16 * V + r1) + r2 := ⟨_, rfl⟩
        rw [← ha] at Hq6
        have Ha := Lib.hid ha; clear ha
        repeat ((fail_if_success (with_reducible (show wpListIn _ _ _ _ _ _ _ _))); gi_step)
        refine Qg (by kernel_rfl) ?_
        (refine wpList_step (fun K hK => ?_); go_simp; (try go_bits); refine hK _ _ ?_; clear hK K)
        refine wpList_nil ?_
        repeat ((fail_if_success (with_reducible (show wpListIn _ _ _ _ _ _ _ _))); gi_step)
        refine Qg (by kernel_rfl) ?_
        iterate 2 (refine wpList_step (fun K hK => ?_); go_simp; (try go_bits); refine hK _ _ ?_; clear hK K)
        refine wpList_nil ?_
        repeat ((fail_if_success (with_reducible (show wpListIn _ _ _ _ _ _ _ _))); gi_step)
        refine Qg (by kernel_rfl) ?_
        (refine wpList_step (fun K hK => ?_); go_simp; (try go_bits); refine hK _ _ ?_; clear hK K)
        refine wpList_nil ?_
        repeat ((fail_if_success (with_reducible (show wpListIn _ _ _ _ _ _ _ _))); gi_step)
        gi_loopw [45] (fun i wr => ∃ s x7 y7 z7 : Nat, ∃ b7, s ≤ 4 ∧ i = .int .i64 (s : Int) ∧ PtA x7 y7 z7 b7 (qX qP fd p (2 ^ s * a)) ∧ Has wr B8 (pt x7 y7 z7 b7) 53 ∧ Has wr B5 #[.func (.func 92) #[.agg (e4 d)] #[]] 111 ∧ Tab wr TB 16 p ∧ Has wr B6 #[.slice (some ⟨TB, 0, none⟩) 16 16] 113 ∧ But B8 W wr ∧ Below w.heap.size w wr) (fun i _ => (4 - intOf i).toNat)
        case atStart => exact ⟨0, x6, y6, z6, b6, by omega, rfl, by rw [Nat.pow_zero, Nat.one_mul]; exact Hq6.out, M8.out, M5.out, T1.out, M6.out, KO.out, HB.out⟩
        case round =>
         clear M5 T1 M6 M8 KO HB Hq6
         rename_i wr2
         obtain ⟨s, x7, y7, z7, b7, hs, rfl, hq7, m8, m5, t1, m6, kO, hB⟩ := hrel
         have M5 := Lib.hid m5; clear m5
         have T1 := Lib.hid t1; clear t1
         have M6 := Lib.hid m6; clear m6
         have HB := Lib.hid hB; clear hB
         have KO := Lib.hid kO; clear kO
         have M8 := Lib.hid m8; clear m8
         have Hq7 := Lib.hid hq7; clear hq7
         rcases Nat.lt_or_ge s 4 with hs4 | hs4
         · have sq : (s : Int) < 4 := by omega
           repeat ((fail_if_success (with_reducible (show wpListIn _ _ _ _ _ _ _ _))); gi_step)
           refine Qg (by kernel_rfl) ?_
           (refine wpList_step (fun K hK => ?_); go_simp; (try go_bits); refine hK _ _ ?_; clear hK K)
           refine wpList_nil ?_
           repeat ((fail_if_success (with_reducible (show wpListIn _ _ _ _ _ _ _ _))); gi_step)
           refine Qg (by kernel_rfl) ?_
           refine QI (by rfl) 111 _ rfl (B5) rfl (.func (.func 92) #[.agg (e4 d)] #[]) _ M5.out.one Try.underlying111 rfl 47 rfl ?_
           (try simp only [Act.put, sI, sS, sZ])
           refine qv (by rfl) 53 _ rfl (B8) rfl 53 (pt x7 y7 z7 b7) M8.out Try.underlying53 rfl (by rw [qs]; kernel_rfl) 48 rfl ?_
           (try simp only [Act.put, sI, sS, sZ])
           refine qv (by rfl) 53 _ rfl (B8) rfl 53 (pt x7 y7 z7 b7) M8.out Try.underlying53 rfl (by rw [qs]; kernel_rfl) 49 rfl ?_
           (try simp only [Act.put, sI, sS, sZ])
           refine qbe (by rfl) rfl rfl (by rfl) qdQ (by rfl) (qbk d hd hdr x7 y7 z7 b7 _ Hq7.out x7 y7 z7 b7 _ Hq7.out _) 50 rfl ?_
           rintro e uw301 ⟨x8, y8, z8, b8, hq8, rfl, hb⟩
           replace M5 := Lib.hid (M5.out.call hb)
           replace T1 := Lib.hid (T1.out.call hb)
           replace M6 := Lib.hid (M6.out.call hb)
           replace M8 := Lib.hid (M8.out.call hb)
           replace KO := Lib.hid (KO.out.call hb)
           replace HB := Lib.hid (qh HB.out hb)
           rw [← fld.mul_add p Hop.out] at hq8
           have Hq8 := Lib.hid hq8; clear hq8
           refine ⟨_, rfl, ?_⟩
           clear hb
           (try simp only [Act.put, sI, sS, sZ])
           first | (obtain ⟨Zq, hZ, mZ⟩ := M8.out) | (obtain ⟨Zq, hZ, mZ⟩ := M8.out.toN (qs ..))
           refine ql (by rfl) 53 _ _ rfl rfl (B8) (pt x8 y8 z8 b8) rfl rfl 53 Zq mZ (by rw [qs]; kernel_rfl) (hZ.trans (qs ..).symm) (QK _ _ _ _) ?_
           intro yw301 hw2
           replace M5 := Lib.hid (M5.out.setRow_other (B8) (pt x8 y8 z8 b8) (by omega))
           replace T1 := Lib.hid (T1.out.setRow_other (B8) (pt x8 y8 z8 b8) (by omega))
           replace M6 := Lib.hid (M6.out.setRow_other (B8) (pt x8 y8 z8 b8) (by omega))
           replace KO := Lib.hid (KO.out.setRow_other (B8) (pt x8 y8 z8 b8) (by omega))
           replace M8 := Lib.hid (mZ.setRow (pt x8 y8 z8 b8))
           replace HB := Lib.hid (below_setRow HB.out (B8) (pt x8 y8 z8 b8) (by omega))
           rw [← hw2] at M5 T1 M6 KO M8 HB; clear mZ hZ hw2
           refine wpList_nil ?_
           repeat ((fail_if_success (with_reducible (show wpListIn _ _ _ _ _ _ _ _))); gi_step)
           refine Qg (by kernel_rfl) ?_
           iterate 2 (refine wpList_step (fun K hK => ?_); go_simp; (try go_bits); refine hK _ _ ?_; clear hK K)
           refine wpList_nil ?_
           go_roundw
           case measure => simp [intOf]; omega
           case rel => exact ⟨_, _, _, _, _, _, _, ⟨s + 1, x8, y8, z8, b8, by omega, rfl, by rw [show 2 ^ (s + 1) * a = 2 ^ s * a + 2 ^ s * a by rw [Nat.pow_succ, Nat.mul_assoc, Nat.mul_comm 2 a, ← Nat.mul_assoc, Nat.mul_two]]; exact Hq8.out, M8.out, M5.out, T1.out, M6.out, KO.out, HB.out⟩, rfl⟩
         · have hs4' : s = 4 := by omega
           subst hs4'
           clear hs hs4
           repeat ((fail_if_success (with_reducible (show wpListIn _ _ _ _ _ _ _ _))); gi_step)
           refine Qg (by kernel_rfl) ?_
           (refine wpList_step (fun K hK => ?_); go_simp; (try go_bits); refine hK _ _ ?_; clear hK K)
           refine wpList_nil ?_
           repeat ((fail_if_success (with_reducible (show wpListIn _ _ _ _ _ _ _ _))); gi_step)
           obtain ⟨x1, y1, z1, b1, hq1, hrg⟩ := T1.out.at_ r1 hr1
           have Hq1 := Lib.hid hq1; clear hq1
           have Hrg := Lib.hid hrg; clear hrg
           refine qak ?_
           refine wpr_goS (fun w' => Has w' (B5) (#[.func (.func 92) #[.agg (e4 d)] #[]]) 111 ∧ Has w' (B8) (pt x7 y7 z7 b7) 53 ∧ Has w' (B6) (#[.slice (some ⟨TB, 0, none⟩) 16 16]) 113 ∧ Rng w' (TB) (r1 * 13) (ptl x1 y1 z1 b1)) 7 8 #[ff,ff,ff,ff,ff,ff,ff,ff] (by kernel_rfl) rfl rfl ?_
           replace M5 := Lib.hid (M5.out.drew)
           replace T1 := Lib.hid (T1.out.drew)
           replace M6 := Lib.hid (M6.out.drew)
           replace M8 := Lib.hid (M8.out.drew)
           replace KO := Lib.hid (KO.out.drew)
           replace Hrg := Lib.hid (Hrg.out.drew)
           replace HB := Lib.hid (qN HB.out 1)
           obtain ⟨yw301, hwyw301⟩ : ∃ ww, ww = wr.drew := ⟨_, rfl⟩
           rw [← hwyw301] at M5 T1 M6 M8 KO Hrg ⊢
           have kq : Below w.heap.size w yw301 := by rw [hwyw301]; exact HB.out
           clear HB; have HB := Lib.hid kq; clear kq hwyw301
           refine qg 0 52 #[tt,ff,ff,ff,ff,ff,ff,ff] rfl rfl rfl (by kernel_rfl) (Qf (by rfl) 111 _ rfl (B5) rfl (.func (.func 92) #[.agg (e4 d)] #[]) _ (fun _ h => Has.one (h.1)) Try.underlying111 rfl) (⟨M5.out, M8.out, M6.out, Hrg.out⟩) ?_
           (try simp only [sI, sS, sZ])
           refine qg 1 53 #[tt,tt,ff,ff,ff,ff,ff,ff] rfl rfl rfl (by kernel_rfl) (qj (by rfl) 53 _ rfl (B8) rfl 53 (pt x7 y7 z7 b7) (fun _ h => h.2.1) Try.underlying53 rfl (by rw [qs]; kernel_rfl)) (⟨M5.out, M8.out, M6.out, Hrg.out⟩) ?_
           (try simp only [sI, sS, sZ])
           refine qg 2 54 #[tt,tt,tt,ff,ff,ff,ff,ff] rfl rfl rfl (by kernel_rfl) (Qf (by rfl) 113 _ rfl (B6) rfl (.slice (some ⟨TB, 0, none⟩) 16 16) _ (fun _ h => Has.one (h.2.2.1)) Try.underlying113 rfl) (⟨M5.out, M8.out, M6.out, Hrg.out⟩) ?_
           (try simp only [sI, sS, sZ])
           refine qg 3 55 #[tt,tt,tt,tt,ff,ff,ff,ff] (v := ?uv4) rfl rfl rfl (by kernel_rfl) (Or.inl ⟨by rfl, ?uy4⟩) (⟨M5.out, M8.out, M6.out, Hrg.out⟩) ?urest4
           case uy4 => (intro _ _; go_simp; try with_reducible rfl)
           (try simp only [sI, sS, sZ])
           refine qg 4 56 #[tt,tt,tt,tt,tt,ff,ff,ff] rfl rfl rfl (by kernel_rfl) (idx53 (by rfl) _ _ rfl (TB) _ _ rfl _ _ (by rfl) (r1) (rfl) (by omega) (r1 * 13) (rfl)) (⟨M5.out, M8.out, M6.out, Hrg.out⟩) ?_
           (try simp only [sI, sS, sZ])
           refine qg 5 57 #[tt,tt,tt,tt,tt,tt,ff,ff] rfl rfl rfl (by kernel_rfl) (qS (by rfl) 53 _ rfl (TB) (r1 * 13) rfl (ptl x1 y1 z1 b1) (pt x1 y1 z1 b1) (ptl_arr ..) (fun _ h => Rng.at_ (h.2.2.2)) _ Try.underlying53 rfl (by rw [ZW]; kernel_rfl)) (⟨M5.out, M8.out, M6.out, Hrg.out⟩) ?_
           (try simp only [sI, sS, sZ])
           refine qk (i := 6) (by kernel_rfl) ?_
           refine qc6 6 58 #[tt,tt,tt,tt,tt,tt,tt,ff] rfl rfl rfl (by rfl) rfl rfl (by rfl) qdQ (by rfl) (qbk d hd hdr x7 y7 z7 b7 _ Hq7.out x1 y1 z1 b1 _ Hq1.out _) ?_
           rintro e uw301 ⟨x8, y8, z8, b8, hq8, rfl, hb⟩
           replace M5 := Lib.hid (M5.out.call hb)
           replace T1 := Lib.hid (T1.out.call hb)
           replace M6 := Lib.hid (M6.out.call hb)
           replace M8 := Lib.hid (M8.out.call hb)
           replace KO := Lib.hid (KO.out.call hb)
           replace Hrg := Lib.hid (Hrg.out.call hb)
           replace HB := Lib.hid (qh HB.out hb)
           rw [← fld.mul_add p Hop.out] at hq8
           have Hq8 := Lib.hid hq8; clear hq8
           refine ⟨_, rfl, fun _ => ⟨M5.out, M8.out, M6.out, Hrg.out⟩, ?_⟩
           clear hb
           (try simp only [sI, sS, sZ])
           refine qk (i := 7) (by kernel_rfl) ?_
           first | (obtain ⟨Zq, hZ, mZ⟩ := M8.out) | (obtain ⟨Zq, hZ, mZ⟩ := M8.out.toN (qs ..))
           refine qZ 7 #[tt,tt,tt,tt,tt,tt,tt,tt] rfl rfl rfl (by rfl) 53 _ _ rfl (B8) (pt x8 y8 z8 b8) rfl rfl 53 Zq mZ (by rw [qs]; kernel_rfl) (hZ.trans (qs ..).symm) (QK _ _ _ _) ?_
           intro yw302 hw2
           replace M5 := Lib.hid (M5.out.setRow_other (B8) (pt x8 y8 z8 b8) (by omega))
           replace T1 := Lib.hid (T1.out.setRow_other (B8) (pt x8 y8 z8 b8) (by omega))
           replace M6 := Lib.hid (M6.out.setRow_other (B8) (pt x8 y8 z8 b8) (by omega))
           replace KO := Lib.hid (KO.out.setRow_other (B8) (pt x8 y8 z8 b8) (by omega))
           replace Hrg := Lib.hid (Hrg.out.setRow_other (B8) (pt x8 y8 z8 b8) (by omega))
           replace M8 := Lib.hid (mZ.setRow (pt x8 y8 z8 b8))
           replace HB := Lib.hid (below_setRow HB.out (B8) (pt x8 y8 z8 b8) (by omega))
           rw [← hw2] at M5 T1 M6 KO Hrg M8 HB; clear mZ hZ hw2
           refine ⟨fun h => (h rfl).elim, ?_⟩
           (try simp only [sI, sS, sZ])
           refine qu (by kernel_rfl) (NoPanic.normal ?_)
           clear Hrg
           repeat ((fail_if_success (with_reducible (show wpListIn _ _ _ _ _ _ _ _))); gi_step)
           refine Qg (by kernel_rfl) ?_
           iterate 2 (refine wpList_step (fun K hK => ?_); go_simp; (try go_bits); refine hK _ _ ?_; clear hK K)
           refine wpList_nil ?_
           go_roundw
           case measure => simp [intOf]
           case rel => exact ⟨_, _, _, _, _, _, _, _, _, _, _, _, _, _, _, _, _, _, _, ⟨1, x8, y8, z8, b8, by omega, rfl, by have h := Hq8.out; rw [Ha.out] at h; exact h, M8.out, M5.out, T1.out, M6.out, KO.out, HB.out⟩, rfl⟩
      · have Hq6 := Lib.hid hq6; clear hq6
        obtain ⟨a, ha⟩ : ∃ a, a = if (1 : Nat) = 0 then V else if (1 : Nat) = 1 then 16 * V + r1 else 16 * (16 * V + r1) + r2 := ⟨_, rfl⟩
        rw [← ha] at Hq6
        have Ha := Lib.hid ha; clear ha
        repeat ((fail_if_success (with_reducible (show wpListIn _ _ _ _ _ _ _ _))); gi_step)
        refine Qg (by kernel_rfl) ?_
        (refine wpList_step (fun K hK => ?_); go_simp; (try go_bits); refine hK _ _ ?_; clear hK K)
        refine wpList_nil ?_
        repeat ((fail_if_success (with_reducible (show wpListIn _ _ _ _ _ _ _ _))); gi_step)
        refine Qg (by kernel_rfl) ?_
        iterate 2 (refine wpList_step (fun K hK => ?_); go_simp; (try go_bits); refine hK _ _ ?_; clear hK K)
        refine wpList_nil ?_
        repeat ((fail_if_success (with_reducible (show wpListIn _ _ _ _ _ _ _ _))); gi_step)
        refine Qg (by kernel_rfl) ?_
        (refine wpList_step (fun K hK => ?_); go_simp; (try go_bits); refine hK _ _ ?_; clear hK K)
        refine wpList_nil ?_
        repeat ((fail_if_success (with_reducible (show wpListIn _ _ _ _ _ _ _ _))); gi_step)
        gi_loopw [45] (fun i wr => ∃ s x7 y7 z7 : Nat, ∃ b7, s ≤ 4 ∧ i = .int .i64 (s : Int) ∧ PtA x7 y7 z7 b7 (qX qP fd p (2 ^ s * a)) ∧ Has wr B8 (pt x7 y7 z7 b7) 53 ∧ Has wr B5 #[.func (.func 92) #[.agg (e4 d)] #[]] 111 ∧ Tab wr TB 16 p ∧ Has wr B6 #[.slice (some ⟨TB, 0, none⟩) 16 16] 113 ∧ But B8 W wr ∧ Below w.heap.size w wr) (fun i _ => (4 - intOf i).toNat)
        case atStart => exact ⟨0, x6, y6, z6, b6, by omega, rfl, by rw [Nat.pow_zero, Nat.one_mul]; exact Hq6.out, M8.out, M5.out, T1.out, M6.out, KO.out, HB.out⟩
        case round =>
         clear M5 T1 M6 M8 KO HB Hq6
         rename_i wr2
         obtain ⟨s, x7, y7, z7, b7, hs, rfl, hq7, m8, m5, t1, m6, kO, hB⟩ := hrel
         have M5 := Lib.hid m5; clear m5
         have T1 := Lib.hid t1; clear t1
         have M6 := Lib.hid m6; clear m6
         have HB := Lib.hid hB; clear hB
         have KO := Lib.hid kO; clear kO
         have M8 := Lib.hid m8; clear m8
         have Hq7 := Lib.hid hq7; clear hq7
         rcases Nat.lt_or_ge s 4 with hs4 | hs4
         · have sq : (s : Int) < 4 := by omega
           repeat ((fail_if_success (with_reducible (show wpListIn _ _ _ _ _ _ _ _))); gi_step)
           refine Qg (by kernel_rfl) ?_
           (refine wpList_step (fun K hK => ?_); go_simp; (try go_bits); refine hK _ _ ?_; clear hK K)
           refine wpList_nil ?_
           repeat ((fail_if_success (with_reducible (show wpListIn _ _ _ _ _ _ _ _))); gi_step)
           refine Qg (by kernel_rfl) ?_
           refine QI (by rfl) 111 _ rfl (B5) rfl (.func (.func 92) #[.agg (e4 d)] #[]) _ M5.out.one Try.underlying111 rfl 47 rfl ?_
           (try simp only [Act.put, sI, sS, sZ])
           refine qv (by rfl) 53 _ rfl (B8) rfl 53 (pt x7 y7 z7 b7) M8.out Try.underlying53 rfl (by rw [qs]; kernel_rfl) 48 rfl ?_
           (try simp only [Act.put, sI, sS, sZ])
           refine qv (by rfl) 53 _ rfl (B8) rfl 53 (pt x7 y7 z7 b7) M8.out Try.underlying53 rfl (by rw [qs]; kernel_rfl) 49 rfl ?_
           (try simp only [Act.put, sI, sS, sZ])
           refine qbe (by rfl) rfl rfl (by rfl) qdQ (by rfl) (qbk d hd hdr x7 y7 z7 b7 _ Hq7.out x7 y7 z7 b7 _ Hq7.out _) 50 rfl ?_
           rintro e uw301 ⟨x8, y8, z8, b8, hq8, rfl, hb⟩
           replace M5 := Lib.hid (M5.out.call hb)
           replace T1 := Lib.hid (T1.out.call hb)
           replace M6 := Lib.hid (M6.out.call hb)
           replace M8 := Lib.hid (M8.out.call hb)
           replace KO := Lib.hid (KO.out.call hb)
           replace HB := Lib.hid (qh HB.out hb)
           rw [← fld.mul_add p Hop.out] at hq8
           have Hq8 := Lib.hid hq8; clear hq8
           refine ⟨_, rfl, ?_⟩
           clear hb
           (try simp only [Act.put, sI, sS, sZ])
           first | (obtain ⟨Zq, hZ, mZ⟩ := M8.out) | (obtain ⟨Zq, hZ, mZ⟩ := M8.out.toN (qs ..))
           refine ql (by rfl) 53 _ _ rfl rfl (B8) (pt x8 y8 z8 b8) rfl rfl 53 Zq mZ (by rw [qs]; kernel_rfl) (hZ.trans (qs ..).symm) (QK _ _ _ _) ?_
           intro yw301 hw2
           replace M5 := Lib.hid (M5.out.setRow_other (B8) (pt x8 y8 z8 b8) (by omega))
           replace T1 := Lib.hid (T1.out.setRow_other (B8) (pt x8 y8 z8 b8) (by omega))
           replace M6 := Lib.hid (M6.out.setRow_other (B8) (pt x8 y8 z8 b8) (by omega))
           replace KO := Lib.hid (KO.out.setRow_other (B8) (pt x8 y8 z8 b8) (by omega))
           replace M8 := Lib.hid (mZ.setRow (pt x8 y8 z8 b8))
           replace HB := Lib.hid (below_setRow HB.out (B8) (pt x8 y8 z8 b8) (by omega))
           rw [← hw2] at M5 T1 M6 KO M8 HB; clear mZ hZ hw2
           refine wpList_nil ?_
           repeat ((fail_if_success (with_reducible (show wpListIn _ _ _ _ _ _ _ _))); gi_step)
           refine Qg (by kernel_rfl) ?_
           iterate 2 (refine wpList_step (fun K hK => ?_); go_simp; (try go_bits); refine hK _ _ ?_; clear hK K)
           refine wpList_nil ?_
           go_roundw
           case measure => simp [intOf]; omega
           case rel => exact ⟨_, _, _, _, _, _, _, ⟨s + 1, x8, y8, z8, b8, by omega, rfl, by rw [show 2 ^ (s + 1) * a = 2 ^ s * a + 2 ^ s * a by rw [Nat.pow_succ, Nat.mul_assoc, Nat.mul_comm 2 a, ← Nat.mul_assoc, Nat.mul_two]]; exact Hq8.out, M8.out, M5.out, T1.out, M6.out, KO.out, HB.out⟩, rfl⟩
         · have hs4' : s = 4 := by omega
           subst hs4'
           clear hs hs4
           repeat ((fail_if_success (with_reducible (show wpListIn _ _ _ _ _ _ _ _))); gi_step)
           refine Qg (by kernel_rfl) ?_
           (refine wpList_step (fun K hK => ?_); go_simp; (try go_bits); refine hK _ _ ?_; clear hK K)
           refine wpList_nil ?_
           repeat ((fail_if_success (with_reducible (show wpListIn _ _ _ _ _ _ _ _))); gi_step)
           obtain ⟨x1, y1, z1, b1, hq1, hrg⟩ := T1.out.at_ r2 hr2
           have Hq1 := Lib.hid hq1; clear hq1
           have Hrg := Lib.hid hrg; clear hrg
           refine qak ?_
           refine wpr_goS (fun w' => Has w' (B5) (#[.func (.func 92) #[.agg (e4 d)] #[]]) 111 ∧ Has w' (B8) (pt x7 y7 z7 b7) 53 ∧ Has w' (B6) (#[.slice (some ⟨TB, 0, none⟩) 16 16]) 113 ∧ Rng w' (TB) (r2 * 13) (ptl x1 y1 z1 b1)) 7 8 #[ff,ff,ff,ff,ff,ff,ff,ff] (by kernel_rfl) rfl rfl ?_
           replace M5 := Lib.hid (M5.out.drew)
           replace T1 := Lib.hid (T1.out.drew)
           replace M6 := Lib.hid (M6.out.drew)
           replace M8 := Lib.hid (M8.out.drew)
           replace KO := Lib.hid (KO.out.drew)
           replace Hrg := Lib.hid (Hrg.out.drew)
           replace HB := Lib.hid (qN HB.out 1)
           obtain ⟨yw301, hwyw301⟩ : ∃ ww, ww = wr.drew := ⟨_, rfl⟩
           rw [← hwyw301] at M5 T1 M6 M8 KO Hrg ⊢
           have kq : Below w.heap.size w yw301 := by rw [hwyw301]; exact HB.out
           clear HB; have HB := Lib.hid kq; clear kq hwyw301
           refine qg 0 52 #[tt,ff,ff,ff,ff,ff,ff,ff] rfl rfl rfl (by kernel_rfl) (Qf (by rfl) 111 _ rfl (B5) rfl (.func (.func 92) #[.agg (e4 d)] #[]) _ (fun _ h => Has.one (h.1)) Try.underlying111 rfl) (⟨M5.out, M8.out, M6.out, Hrg.out⟩) ?_
           (try simp only [sI, sS, sZ])
           refine qg 1 53 #[tt,tt,ff,ff,ff,ff,ff,ff] rfl rfl rfl (by kernel_rfl) (qj (by rfl) 53 _ rfl (B8) rfl 53 (pt x7 y7 z7 b7) (fun _ h => h.2.1) Try.underlying53 rfl (by rw [qs]; kernel_rfl)) (⟨M5.out, M8.out, M6.out, Hrg.out⟩) ?_
           (try simp only [sI, sS, sZ])
           refine qg 2 54 #[tt,tt,tt,ff,ff,ff,ff,ff] rfl rfl rfl (by kernel_rfl) (Qf (by rfl) 113 _ rfl (B6) rfl (.slice (some ⟨TB, 0, none⟩) 16 16) _ (fun _ h => Has.one (h.2.2.1)) Try.underlying113 rfl) (⟨M5.out, M8.out, M6.out, Hrg.out⟩) ?_
           (try simp only [sI, sS, sZ])
           refine qg 3 55 #[tt,tt,tt,tt,ff,ff,ff,ff] (v := ?uv5) rfl rfl rfl (by kernel_rfl) (Or.inl ⟨by rfl, ?uy5⟩) (⟨M5.out, M8.out, M6.out, Hrg.out⟩) ?urest5
           case uy5 => (intro _ _; go_simp; try with_reducible rfl)
           (try simp only [sI, sS, sZ])
           refine qg 4 56 #[tt,tt,tt,tt,tt,ff,ff,ff] rfl rfl rfl (by kernel_rfl) (idx53 (by rfl) _ _ rfl (TB) _ _ rfl _ _ (by rfl) (r2) (rfl) (by omega) (r2 * 13) (rfl)) (⟨M5.out, M8.out, M6.out, Hrg.out⟩) ?_
           (try simp only [sI, sS, sZ])
           refine qg 5 57 #[tt,tt,tt,tt,tt,tt,ff,ff] rfl rfl rfl (by kernel_rfl) (qS (by rfl) 53 _ rfl (TB) (r2 * 13) rfl (ptl x1 y1 z1 b1) (pt x1 y1 z1 b1) (ptl_arr ..) (fun _ h => Rng.at_ (h.2.2.2)) _ Try.underlying53 rfl (by rw [ZW]; kernel_rfl)) (⟨M5.out, M8.out, M6.out, Hrg.out⟩) ?_
           (try simp only [sI, sS, sZ])
           refine qk (i := 6) (by kernel_rfl) ?_
           refine qc6 6 58 #[tt,tt,tt,tt,tt,tt,tt,ff] rfl rfl rfl (by rfl) rfl rfl (by rfl) qdQ (by rfl) (qbk d hd hdr x7 y7 z7 b7 _ Hq7.out x1 y1 z1 b1 _ Hq1.out _) ?_
           rintro e uw301 ⟨x8, y8, z8, b8, hq8, rfl, hb⟩
           replace M5 := Lib.hid (M5.out.call hb)
           replace T1 := Lib.hid (T1.out.call hb)
           replace M6 := Lib.hid (M6.out.call hb)
           replace M8 := Lib.hid (M8.out.call hb)
           replace KO := Lib.hid (KO.out.call hb)
           replace Hrg := Lib.hid (Hrg.out.call hb)
           replace HB := Lib.hid (qh HB.out hb)
           rw [← fld.mul_add p Hop.out] at hq8
           have Hq8 := Lib.hid hq8; clear hq8
           refine ⟨_, rfl, fun _ => ⟨M5.out, M8.out, M6.out, Hrg.out⟩, ?_⟩
           clear hb
           (try simp only [sI, sS, sZ])
           refine qk (i := 7) (by kernel_rfl) ?_
           first | (obtain ⟨Zq, hZ, mZ⟩ := M8.out) | (obtain ⟨Zq, hZ, mZ⟩ := M8.out.toN (qs ..))
           refine qZ 7 #[tt,tt,tt,tt,tt,tt,tt,tt] rfl rfl rfl (by rfl) 53 _ _ rfl (B8) (pt x8 y8 z8 b8) rfl rfl 53 Zq mZ (by rw [qs]; kernel_rfl) (hZ.trans (qs ..).symm) (QK _ _ _ _) ?_
           intro yw302 hw2
           replace M5 := Lib.hid (M5.out.setRow_other (B8) (pt x8 y8 z8 b8) (by omega))
           replace T1 := Lib.hid (T1.out.setRow_other (B8) (pt x8 y8 z8 b8) (by omega))
           replace M6 := Lib.hid (M6.out.setRow_other (B8) (pt x8 y8 z8 b8) (by omega))
           replace KO := Lib.hid (KO.out.setRow_other (B8) (pt x8 y8 z8 b8) (by omega))
           replace Hrg := Lib.hid (Hrg.out.setRow_other (B8) (pt x8 y8 z8 b8) (by omega))
           replace M8 := Lib.hid (mZ.setRow (pt x8 y8 z8 b8))
           replace HB := Lib.hid (below_setRow HB.out (B8) (pt x8 y8 z8 b8) (by omega))
           rw [← hw2] at M5 T1 M6 KO Hrg M8 HB; clear mZ hZ hw2
           refine ⟨fun h => (h rfl).elim, ?_⟩
           (try simp only [sI, sS, sZ])
           refine qu (by kernel_rfl) (NoPanic.normal ?_)
           clear Hrg
           repeat ((fail_if_success (with_reducible (show wpListIn _ _ _ _ _ _ _ _))); gi_step)
           refine Qg (by kernel_rfl) ?_
           iterate 2 (refine wpList_step (fun K hK => ?_); go_simp; (try go_bits); refine hK _ _ ?_; clear hK K)
           refine wpList_nil ?_
           go_roundw
           case measure => simp [intOf]
           case rel => exact ⟨_, _, _, _, _, _, _, _, _, _, _, _, _, _, _, _, _, _, _, ⟨2, x8, y8, z8, b8, by omega, rfl, by have h := Hq8.out; rw [Ha.out] at h; exact h, M8.out, M5.out, T1.out, M6.out, KO.out, HB.out⟩, rfl⟩
      · repeat ((fail_if_success (with_reducible (show wpListIn _ _ _ _ _ _ _ _))); gi_step)
        refine Qg (by kernel_rfl) ?_
        (refine wpList_step (fun K hK => ?_); go_simp; (try go_bits); refine hK _ _ ?_; clear hK K)
        refine wpList_nil ?_
        repeat ((fail_if_success (with_reducible (show wpListIn _ _ _ _ _ _ _ _))); gi_step)
        refine ⟨KO.out.others HW8.out, KO.out.keep2 (by omega) (by omega) hlW (by omega), _, ⟨x6, y6, z6, b6, rfl, ?_⟩, M8.out, But.trans Hb8.out KO.out⟩
        have h := hq6
        rw [Hsn.out, show 256 * V + q = 16 * (16 * V + r1) + r2 by rw [Hrq.out]; omega]
        exact h
    case done =>
     rintro D xs W hD rfl ⟨c, ⟨x2, y2, z2, b2, rfl, hq2⟩, m8, hb8⟩ hK
     rw [vl_all n Hn.out] at hq2
     have m4 := M4.out.but hb8 (by omega)
     have hB := qb5 HB.out hb8 (by omega) HB.out.size
     have gD : B8 < D := by omega
     have hD2 : DefAt W D := hK
     clear hf hz hI hst hlS hl3 hl8 hl8b M2 M3 M4 M5 T M6 M8 MS HB hK hb8
     have M4 := Lib.hid m4; clear m4
     have HB := Lib.hid hB; clear hB
     have M8 := Lib.hid m8; clear m8
     have HD2 := Lib.hid hD2; clear hD2
     have Hq2 := Lib.hid hq2; clear hq2
     repeat ((fail_if_success (with_reducible (show wpList _ _ _ _ _ _))); go_step)
     refine qv (by rfl) 53 _ rfl (B8) rfl 53 (pt x2 y2 z2 b2) M8.out Try.underlying53 rfl (by rw [qs]; kernel_rfl) 60 rfl ?_
     (try simp only [Act.put, sI, sS, sZ])
     first | (obtain ⟨Zq, hZ, mZ⟩ := M4.out) | (obtain ⟨Zq, hZ, mZ⟩ := M4.out.toN (qs ..))
     refine ql (by rfl) 53 _ _ rfl rfl (w.heap.size + 1 + 1) (pt x2 y2 z2 b2) rfl rfl 53 Zq mZ (by rw [qs]; kernel_rfl) (hZ.trans (qs ..).symm) (QK _ _ _ _) ?_
     intro yw201 hw2
     replace M8 := Lib.hid (M8.out.setRow_other (w.heap.size + 1 + 1) (pt x2 y2 z2 b2) (by omega))
     replace HD2 := Lib.hid (HD2.out.setRow_other (w.heap.size + 1 + 1) (pt x2 y2 z2 b2) (by omega))
     replace M4 := Lib.hid (mZ.setRow (pt x2 y2 z2 b2))
     replace HB := Lib.hid (below_setRow HB.out (w.heap.size + 1 + 1) (pt x2 y2 z2 b2) (by omega))
     rw [← hw2] at M8 HD2 M4 HB; clear mZ hZ hw2
     refine wpList_nil ?_
     repeat ((fail_if_success (with_reducible (show wpList _ _ _ _ _ _))); go_step)
     refine ⟨by simp, .inl ⟨_, _, rfl, run_takeDeferred HD2.out, ?_⟩⟩
     have m4' := M4.out.putObj (D := D) (.deferred none) (by omega)
     have hBD : Below w.heap.size w (World.putObj yw201 D (.deferred none)) := HB.out.trans (belowK_b (w := w) (Nat.le_refl _) _ D _ _ (by omega) HD2.out rfl rfl)
     refine ⟨.agg (pt x2 y2 z2 b2), results_cell_row (t := 53) (by rfl) _ _ (w.heap.size + 1 + 1) _ _ _ rfl m4' Try.underlying53 rfl (by rw [qs]; kernel_rfl), x2, y2, z2, b2, Hq2.out, rfl, hBD⟩
end
section
open Go.RowKit Go.Lib
theorem dg0_tm (r b : Nat) (h : r % 2 = b) : (dg 4096 r 0).tmod 2 = (b : Int) := by
 rw [Int.tmod_eq_emod_of_nonneg (qah r 0)]
 have hz0 : dg 4096 r 0 % 2 = ((r % 2 : Nat) : Int) := by unfold dg; rw [Nat.pow_zero, Nat.div_one]; omega
 rw [hz0, h]
theorem add_128 (c : Nat) (h : c < 128) : ((c : Int) + 128) % 256 = (c : Int) + 128 := by omega
theorem rkeyp_any (X Y Z T : Nat) (hX : X < PP) (hY : Y < PP) (hZ : Z < PP) (w : World) :
 Calls Try.prog 50 #[.agg (rp X Y Z T)] w fun e w' => e = .returned (.agg (k32 (qbZ X Y Z))) ∧ Below w.heap.size w w' := by
 have hov1 := fun w => qbP Y Z hY hZ w
 have hov2 := fun w => qbP X Z hX hZ w
 obtain ⟨QY, hQY⟩ : ∃ q, q = Y * pwm Z (PP - 2) % PP := ⟨_, rfl⟩
 obtain ⟨QX, hQX⟩ : ∃ q, q = X * pwm Z (PP - 2) % PP := ⟨_, rfl⟩
 rw [← hQY] at hov1
 rw [← hQX] at hov2
 have hQp : QY < PP := by rw [hQY]; exact Nat.mod_lt _ qH
 have hQl : QY < 57896044618658097711785492504343953926634992332820282019728792003956564819968 := Nat.lt_trans hQp PP_255
 have hkey := fun w => rkey_any QY (PP_256 QY hQp) w
 obtain ⟨R, hR⟩ : ∃ r, r = qbZ X Y Z := ⟨_, rfl⟩
 have hodd : QX % 2 = 1 → QY + 57896044618658097711785492504343953926634992332820282019728792003956564819968 = R := by intro h; rw [hQY, hR]; rw [hQX] at h; exact keyn_odd X Y Z h
 have heven : QX % 2 = 0 → QY = R := by intro h; rw [hQY, hR]; rw [hQX] at h; exact qdJ X Y Z h
 rw [← hR]
 clear hR hQY hQX hQp hX hY hZ
 have Hov1 := Lib.hid hov1; clear hov1
 have Hov2 := Lib.hid hov2; clear hov2
 have Hkey := Lib.hid hkey; clear hkey
 have HQl := Lib.hid hQl; clear hQl
 have Hodd := Lib.hid hodd; clear hodd
 have Heven := Lib.hid heven; clear heven
 go_enter Try.func50, Try.ntmps50
 repeat ((fail_if_success (with_reducible (show wpList _ _ _ _ _ _))); go_step)
 iterate 2 (refine wpList_step (fun K hK => ?_); go_simp; (try go_bits); refine hK _ _ ?_; clear hK K)
 refine wpList_nil ?_
 have M1 := Lib.hid ((Has.new w  (rp X Y Z T) 57).alloc (.cells (#[.int .u8 0, .int .u8 0, .int .u8 0, .int .u8 0, .int .u8 0, .int .u8 0, .int .u8 0, .int .u8 0, .int .u8 0, .int .u8 0, .int .u8 0, .int .u8 0, .int .u8 0, .int .u8 0, .int .u8 0, .int .u8 0, .int .u8 0, .int .u8 0, .int .u8 0, .int .u8 0, .int .u8 0, .int .u8 0, .int .u8 0, .int .u8 0, .int .u8 0, .int .u8 0, .int .u8 0, .int .u8 0, .int .u8 0, .int .u8 0, .int .u8 0, .int .u8 0] : Array Value) 24))
 have M2 := Lib.hid (HasN.new1 w (.cells (rp X Y Z T) 57) (#[.int .u8 0, .int .u8 0, .int .u8 0, .int .u8 0, .int .u8 0, .int .u8 0, .int .u8 0, .int .u8 0, .int .u8 0, .int .u8 0, .int .u8 0, .int .u8 0, .int .u8 0, .int .u8 0, .int .u8 0, .int .u8 0, .int .u8 0, .int .u8 0, .int .u8 0, .int .u8 0, .int .u8 0, .int .u8 0, .int .u8 0, .int .u8 0, .int .u8 0, .int .u8 0, .int .u8 0, .int .u8 0, .int .u8 0, .int .u8 0, .int .u8 0, .int .u8 0] : Array Value) 24 32 (by kernel_rfl))
 have HB := Lib.hid (Qx w (.cells (rp X Y Z T) 57) (.cells (#[.int .u8 0, .int .u8 0, .int .u8 0, .int .u8 0, .int .u8 0, .int .u8 0, .int .u8 0, .int .u8 0, .int .u8 0, .int .u8 0, .int .u8 0, .int .u8 0, .int .u8 0, .int .u8 0, .int .u8 0, .int .u8 0, .int .u8 0, .int .u8 0, .int .u8 0, .int .u8 0, .int .u8 0, .int .u8 0, .int .u8 0, .int .u8 0, .int .u8 0, .int .u8 0, .int .u8 0, .int .u8 0, .int .u8 0, .int .u8 0, .int .u8 0, .int .u8 0] : Array Value) 24))
 obtain ⟨yw1, hwyw1⟩ : ∃ ww, ww = ((w.alloc (.cells (rp X Y Z T) 57)).alloc (.cells (#[.int .u8 0, .int .u8 0, .int .u8 0, .int .u8 0, .int .u8 0, .int .u8 0, .int .u8 0, .int .u8 0, .int .u8 0, .int .u8 0, .int .u8 0, .int .u8 0, .int .u8 0, .int .u8 0, .int .u8 0, .int .u8 0, .int .u8 0, .int .u8 0, .int .u8 0, .int .u8 0, .int .u8 0, .int .u8 0, .int .u8 0, .int .u8 0, .int .u8 0, .int .u8 0, .int .u8 0, .int .u8 0, .int .u8 0, .int .u8 0, .int .u8 0, .int .u8 0] : Array Value) 24)) := ⟨_, rfl⟩
 rw [← hwyw1] at M1 M2 HB ⊢
 clear hwyw1
 repeat ((fail_if_success (with_reducible (show wpList _ _ _ _ _ _))); go_step)
 (refine wpList_step (fun K hK => ?_); go_simp; (try go_bits); refine hK _ _ ?_; clear hK K)
 refine qW (by rfl) 40 _ rfl (w.heap.size) 22 rfl (Qa Y) (r22 Y) rfl (rp_y M1.out) _ Try.underlying40 rfl (by rw [qM]; kernel_rfl) 5 rfl ?_
 (try simp only [Act.put, sI, sS, sZ])
 (refine wpList_step (fun K hK => ?_); go_simp; (try go_bits); refine hK _ _ ?_; clear hK K)
 refine qW (by rfl) 40 _ rfl (w.heap.size) 44 rfl (Qa Z) (r22 Z) rfl (rp_z M1.out) _ Try.underlying40 rfl (by rw [qM]; kernel_rfl) 7 rfl ?_
 (try simp only [Act.put, sI, sS, sZ])
 refine qm (by rfl) rfl rfl (by rfl) ent43 (by rfl) (Hov1.out _) 8 rfl ?_
 rintro e uw1 ⟨rfl, hb⟩
 replace M1 := Lib.hid (M1.out.call hb)
 replace M2 := Lib.hid (M2.out.call hb)
 replace HB := Lib.hid (qh HB.out hb)
 refine ⟨_, rfl, ?_⟩
 clear hb
 (try simp only [Act.put, sI, sS, sZ])
 refine qm (by rfl) rfl rfl (by rfl) ent74 (by rfl) (Hkey.out _) 9 rfl ?_
 rintro e uw2 ⟨rfl, hb⟩
 replace M1 := Lib.hid (M1.out.call hb)
 replace M2 := Lib.hid (M2.out.call hb)
 replace HB := Lib.hid (qh HB.out hb)
 refine ⟨_, rfl, ?_⟩
 clear hb
 (try simp only [Act.put, sI, sS, sZ])
 refine qJ (by rfl) 24 rfl _ al24 3 rfl ?_
 intro yw2 hw2
 have hlt3 := M1.out.lt
 have hlt4 := M2.out.lt
 have hsz := HB.out.size
 replace M1 := Lib.hid (M1.out.alloc (.cells z24 24))
 replace M2 := Lib.hid (M2.out.alloc (.cells z24 24))
 have M3 := Lib.hid (HasN.new uw2 z24 24 32 (by kernel_rfl))
 replace HB := Lib.hid (HB.out.alloc hsz (.cells z24 24))
 rw [← hw2] at M1 M2 M3 HB; clear hw2
 (try simp only [Act.put, sI, sS, sZ])
 first | (obtain ⟨Zq, hZ, mZ⟩ := M3.out) | (obtain ⟨Zq, hZ, mZ⟩ := M3.out.toN (qf ..))
 refine ql (by rfl) 24 _ _ rfl rfl (uw2.heap.size) (k32 QY) rfl rfl 24 Zq mZ (by rw [qf]; kernel_rfl) (hZ.trans (qf ..).symm) (qp _ _ _) ?_
 intro yw5 hw2
 replace M1 := Lib.hid (M1.out.setRow_other (uw2.heap.size) (k32 QY) (by omega))
 replace M2 := Lib.hid (M2.out.setRow_other (uw2.heap.size) (k32 QY) (by omega))
 replace M3 := Lib.hid (mZ.setRow (k32 QY))
 replace HB := Lib.hid (below_setRow HB.out (uw2.heap.size) (k32 QY) (by omega))
 rw [← hw2] at M1 M2 M3 HB; clear mZ hZ hw2
 refine wpList_nil ?_
 repeat ((fail_if_success (with_reducible (show wpList _ _ _ _ _ _))); go_step)
 have hix := fun w => ze w 40 3 22 .i64 Try.underlying40 Try.underlying3 sz_int (dg 4096 QX) 0 (by omega)
 rw [show row .i64 22 (dg 4096 QX) = r22 QX from rfl, show (((0 : Nat) : Int)) = 0 from rfl] at hix
 rcases Nat.mod_two_eq_zero_or_one QX with hp | hp
 · have hE := Heven.out hp
   have htm := dg0_tm QX 0 hp
   obtain ⟨z, hz⟩ : ∃ z, z = dg 4096 QX 0 := ⟨_, rfl⟩
   rw [← hz] at htm hix
   have htm : z.tmod 2 = 0 := htm
   have HE := Lib.hid hE; clear hE
   have Hp := Lib.hid hp; clear hp
   have Hz := Lib.hid hz; clear hz
   (refine wpList_step (fun K hK => ?_); go_simp; (try go_bits); refine hK _ _ ?_; clear hK K)
   refine qW (by rfl) 40 _ rfl (w.heap.size) 0 rfl (Qa X) (r22 X) rfl (rp_x M1.out) _ Try.underlying40 rfl (by rw [qM]; kernel_rfl) 11 rfl ?_
   (try simp only [Act.put, sI, sS, sZ])
   (refine wpList_step (fun K hK => ?_); go_simp; (try go_bits); refine hK _ _ ?_; clear hK K)
   refine qW (by rfl) 40 _ rfl (w.heap.size) 44 rfl (Qa Z) (r22 Z) rfl (rp_z M1.out) _ Try.underlying40 rfl (by rw [qM]; kernel_rfl) 13 rfl ?_
   (try simp only [Act.put, sI, sS, sZ])
   refine qm (by rfl) rfl rfl (by rfl) ent43 (by rfl) (Hov2.out _) 14 rfl ?_
   rintro e uw3 ⟨rfl, hb⟩
   replace M1 := Lib.hid (M1.out.call hb)
   replace M2 := Lib.hid (M2.out.call hb)
   replace M3 := Lib.hid (M3.out.call hb)
   replace HB := Lib.hid (qh HB.out hb)
   refine ⟨_, rfl, ?_⟩
   clear hb
   (try simp only [Act.put, sI, sS, sZ])
   iterate 3 (refine wpList_step (fun K hK => ?_); go_simp; (try go_bits); refine hK _ _ ?_; clear hK K)
   refine wpList_nil ?_
   clear hix htm
   repeat ((fail_if_success (with_reducible (show wpList _ _ _ _ _ _))); go_step)
   refine qv (by rfl) 24 _ rfl (uw2.heap.size) rfl 24 (k32 QY) M3.out Try.underlying24 rfl (by rw [qf]; kernel_rfl) 22 rfl ?_
   (try simp only [Act.put, sI, sS, sZ])
   first | (obtain ⟨Zq, hZ, mZ⟩ := M2.out) | (obtain ⟨Zq, hZ, mZ⟩ := M2.out.toN (qf ..))
   refine ql (by rfl) 24 _ _ rfl rfl (w.heap.size + 1) (k32 QY) rfl rfl 24 Zq mZ (by rw [qf]; kernel_rfl) (hZ.trans (qf ..).symm) (qp _ _ _) ?_
   intro yw6 hw2
   replace M1 := Lib.hid (M1.out.setRow_other (w.heap.size + 1) (k32 QY) (by omega))
   replace M3 := Lib.hid (M3.out.setRow_other (w.heap.size + 1) (k32 QY) (by omega))
   replace M2 := Lib.hid (mZ.setRow (k32 QY))
   replace HB := Lib.hid (below_setRow HB.out (w.heap.size + 1) (k32 QY) (by omega))
   rw [← hw2] at M1 M3 M2 HB; clear mZ hZ hw2
   refine wpList_nil ?_
   go_wp2_with fail
   exact bodyPost_ret (v := .agg (k32 QY)) (results_cell_row (t := 24) (by rfl) _ _ (w.heap.size + 1) _ _ _ rfl M2.out Try.underlying24 rfl (by rw [qf]; kernel_rfl)) rfl ⟨by rw [HE.out], HB.out⟩
 · have hE := Hodd.out hp
   have htm := dg0_tm QX 1 hp
   obtain ⟨z, hz⟩ : ∃ z, z = dg 4096 QX 0 := ⟨_, rfl⟩
   rw [← hz] at htm hix
   have htm : z.tmod 2 = 1 := htm
   obtain ⟨c, hc, hcl⟩ := qdc QY HQl.out
   have hadd := add_128 c hcl
   have hkt := key_top QY HQl.out ((c : Int) + 128) (by rw [hc])
   have HE := Lib.hid hE; clear hE
   have Hp := Lib.hid hp; clear hp
   have Hz := Lib.hid hz; clear hz
   have Hkt := Lib.hid hkt; clear hkt
   have Hc := Lib.hid hc; clear hc
   (refine wpList_step (fun K hK => ?_); go_simp; (try go_bits); refine hK _ _ ?_; clear hK K)
   refine qW (by rfl) 40 _ rfl (w.heap.size) 0 rfl (Qa X) (r22 X) rfl (rp_x M1.out) _ Try.underlying40 rfl (by rw [qM]; kernel_rfl) 11 rfl ?_
   (try simp only [Act.put, sI, sS, sZ])
   (refine wpList_step (fun K hK => ?_); go_simp; (try go_bits); refine hK _ _ ?_; clear hK K)
   refine qW (by rfl) 40 _ rfl (w.heap.size) 44 rfl (Qa Z) (r22 Z) rfl (rp_z M1.out) _ Try.underlying40 rfl (by rw [qM]; kernel_rfl) 13 rfl ?_
   (try simp only [Act.put, sI, sS, sZ])
   refine qm (by rfl) rfl rfl (by rfl) ent43 (by rfl) (Hov2.out _) 14 rfl ?_
   rintro e uw3 ⟨rfl, hb⟩
   replace M1 := Lib.hid (M1.out.call hb)
   replace M2 := Lib.hid (M2.out.call hb)
   replace M3 := Lib.hid (M3.out.call hb)
   replace HB := Lib.hid (qh HB.out hb)
   refine ⟨_, rfl, ?_⟩
   clear hb
   (try simp only [Act.put, sI, sS, sZ])
   iterate 3 (refine wpList_step (fun K hK => ?_); go_simp; (try go_bits); refine hK _ _ ?_; clear hK K)
   refine wpList_nil ?_
   clear hix htm
   repeat ((fail_if_success (with_reducible (show wpList _ _ _ _ _ _))); go_step)
   have h1 := M3.out.cell 31 (by omega)
   rw [Hc.out] at h1
   have hfz := M3.out.frozen 31
   iterate 5 (refine wpList_step (fun K hK => ?_); go_simp; (try go_bits); refine hK _ _ ?_; clear hK K)
   refine wpList_nil ?_
   clear h1 hfz
   have kq := M3.out.set (31) ((c : Int) + 128); rw [Hkt.out] at kq; clear M3; have M3 := Lib.hid kq; clear kq
   have kq := M1.out.other ⟨uw2.heap.size, 31, none⟩ (.int .u8 ((c : Int) + 128)) (by simp <;> omega); clear M1; have M1 := Lib.hid kq; clear kq
   have kq := M2.out.other ⟨uw2.heap.size, 31, none⟩ (.int .u8 ((c : Int) + 128)) (by simp <;> omega); clear M2; have M2 := Lib.hid kq; clear kq
   replace HB := Lib.hid (HB.out.setCell (p := ⟨uw2.heap.size, 31, none⟩) (show w.heap.size ≤ uw2.heap.size by omega) (.int .u8 ((c : Int) + 128)))
   obtain ⟨yw6, hwyw6⟩ : ∃ ww, ww = uw3.setCell ⟨uw2.heap.size, 31, none⟩ (.int .u8 ((c : Int) + 128)) := ⟨_, rfl⟩
   rw [← hwyw6] at M1 M2 M3 HB ⊢
   clear hwyw6
   repeat ((fail_if_success (with_reducible (show wpList _ _ _ _ _ _))); go_step)
   refine qv (by rfl) 24 _ rfl (uw2.heap.size) rfl 24 (k32 (QY + 57896044618658097711785492504343953926634992332820282019728792003956564819968)) M3.out Try.underlying24 rfl (by rw [qf]; kernel_rfl) 22 rfl ?_
   (try simp only [Act.put, sI, sS, sZ])
   first | (obtain ⟨Zq, hZ, mZ⟩ := M2.out) | (obtain ⟨Zq, hZ, mZ⟩ := M2.out.toN (qf ..))
   refine ql (by rfl) 24 _ _ rfl rfl (w.heap.size + 1) (k32 (QY + 57896044618658097711785492504343953926634992332820282019728792003956564819968)) rfl rfl 24 Zq mZ (by rw [qf]; kernel_rfl) (hZ.trans (qf ..).symm) (qp _ _ _) ?_
   intro yw7 hw2
   replace M1 := Lib.hid (M1.out.setRow_other (w.heap.size + 1) (k32 (QY + 57896044618658097711785492504343953926634992332820282019728792003956564819968)) (by omega))
   replace M3 := Lib.hid (M3.out.setRow_other (w.heap.size + 1) (k32 (QY + 57896044618658097711785492504343953926634992332820282019728792003956564819968)) (by omega))
   replace M2 := Lib.hid (mZ.setRow (k32 (QY + 57896044618658097711785492504343953926634992332820282019728792003956564819968)))
   replace HB := Lib.hid (below_setRow HB.out (w.heap.size + 1) (k32 (QY + 57896044618658097711785492504343953926634992332820282019728792003956564819968)) (by omega))
   rw [← hw2] at M1 M3 M2 HB; clear mZ hZ hw2
   refine wpList_nil ?_
   go_wp2_with fail
   exact bodyPost_ret (v := .agg (k32 (QY + 57896044618658097711785492504343953926634992332820282019728792003956564819968))) (results_cell_row (t := 24) (by rfl) _ _ (w.heap.size + 1) _ _ _ rfl M2.out Try.underlying24 rfl (by rw [qf]; kernel_rfl)) rfl ⟨by rw [HE.out], HB.out⟩
end
section
open Go.RowKit Go.Lib
def ZD (p : Fin PP × Fin PP) : Fin PP × Fin PP := (-p.1, p.2)
def PtG (p : Fin PP × Fin PP) (w : World) (e : Ending) (w' : World) : Prop := ∃ x y z b, PtA x y z b p ∧ e = .returned (.agg (pt x y z b)) ∧ Below w.heap.size w w'
def RqG (p : Fin PP × Fin PP) (w : World) (e : Ending) (w' : World) : Prop := ∃ X Y Z T : Nat, Rq X Y Z T p ∧ e = .returned (.agg (rp X Y Z T)) ∧ Below w.heap.size w w'
theorem ptp_g {X Y Z : Nat} {p : Fin PP × Fin PP} (h : Rep X Y Z p) {w w' : World} {e : Ending} (hp : PtP X Y Z w e w') : PtG p w e w' :=
 let ⟨x, y, z, b, h1, h2, h3⟩ := hp; ⟨x, y, z, b, ⟨X, Y, Z, h1, h⟩, h2, h3⟩
theorem g_gen (w : World) : Calls Try.prog 58 #[] w (PtG gG w) := (gen_any w).mono fun _ _ h => ptp_g qbC h
theorem ispt_lt {x y z : Nat} {b : Bool} {X Y Z : Nat} (h : qag x y z b X Y Z) : X < PP := by
 obtain ⟨_, ⟨_, hx, _⟩ | ⟨_, hx, _⟩⟩ := h <;> (rw [← hx]; exact Nat.mod_lt _ qH)
theorem g_minus (x1 y1 z1 : Nat) (b1 : Bool) (p : Fin PP × Fin PP) (h1 : PtA x1 y1 z1 b1 p) (x2 y2 z2 : Nat) (b2 : Bool) (q : Fin PP × Fin PP) (h2 : PtA x2 y2 z2 b2 q) (w : World) :
 Calls Try.prog 53 #[.agg (pt x1 y1 z1 b1), .agg (pt x2 y2 z2 b2)] w (PtG (QH qP fd p (ZD q)) w) := by
 obtain ⟨X1, Y1, Z1, i1, r1⟩ := h1
 obtain ⟨X2, Y2, Z2, i2, r2⟩ := h2
 exact (pminus_any x1 y1 z1 b1 X1 Y1 Z1 i1 x2 y2 z2 b2 X2 Y2 Z2 i2 w).mono fun _ _ h => ptp_g (qbt _ _ _ _ _ _ p (ZD q) r1 (neg_rep X2 Y2 Z2 q r2 (ispt_lt i2))) h
theorem g_key (x y z : Nat) (b : Bool) (p : Fin PP × Fin PP) (h : PtA x y z b p) (w : World) :
 Calls Try.prog 49 #[.agg (pt x y z b)] w fun e w' => e = .returned (.agg (k32 (Z0 p))) ∧ Below w.heap.size w w' := by
 obtain ⟨X, Y, Z, i, r⟩ := h
 have := pkey_any x y z b X Y Z i w
 rw [qc4 X Y Z p r] at this
 exact this
theorem qaP (p : Fin PP × Fin PP) : Z0 p < 115792089237316195423570985008687907853269984665640564039457584007913129639936 := by
 have h1 := p.2.isLt
 have h2 : p.1.val % 2 < 2 := Nat.mod_lt _ (by decide)
 have := PP_255
 unfold Z0; omega
def qaj (n : Nat) : Fin PP × Fin PP := (fi (cof n).2.1, fi (cof n).2.2)
theorem cofP_key (p : Fin PP × Fin PP) (h : OnP fd p) : qaj (Z0 p) = p := by
 unfold qaj; rw [cof_keyP p h]; exact Prod.ext (QZ _) (QZ _)
theorem g_of (n : Nat) (hn : n < 115792089237316195423570985008687907853269984665640564039457584007913129639936) (w : World) :
 Calls Try.prog 47 #[.agg (k32 n)] w fun e w' => ∃ x y z b, PtA x y z b (qaj n) ∧ e = .returned (.tuple #[.agg (pt x y z b), .bool (cof n).1]) ∧ Below w.heap.size w w' := by
 refine (pof_any n hn w).mono ?_
 rintro e w' ⟨x, y, z, b, h1, h2, h3⟩
 rw [ZC] at h1
 exact ⟨x, y, z, b, ⟨_, _, _, h1, cof_rep n⟩, h2, h3⟩
theorem g_many (x y z n : Nat) (b : Bool) (p : Fin PP × Fin PP) (hp : PtA x y z b p) (hn : n < 115792089237316195423570985008687907853269984665640564039457584007913129639936) (w : World) :
 Calls Try.prog 56 #[.agg (pt x y z b), .agg (k32 n)] w (PtG (qX qP fd p n) w) := pmany_any x y z n b p hp hn w
theorem gr_key (X Y Z T : Nat) (p : Fin PP × Fin PP) (h : Rq X Y Z T p) (w : World) :
 Calls Try.prog 50 #[.agg (rp X Y Z T)] w fun e w' => e = .returned (.agg (k32 (Z0 p))) ∧ Below w.heap.size w w' := by
 obtain ⟨⟨r, _⟩, x, y, z, _⟩ := h
 have := rkeyp_any X Y Z T x y z w
 rw [qc4 X Y Z p r] at this
 exact this
theorem qcs (X Y Z T n : Nat) (p : Fin PP × Fin PP) (hp : Rq X Y Z T p) (hn : n < 115792089237316195423570985008687907853269984665640564039457584007913129639936) (w : World) :
 Calls Try.prog 57 #[.agg (rp X Y Z T), .agg (k32 n)] w (RqG (qX qP fd p n) w) := rmany_any X Y Z T n p hp hn w
theorem qc7 : OnP fd gG := qbC.2.2.2
theorem mul_LL : qX qP fd gG LL = (0, 1) := by
 have h := pmul_rep (GX, GY, 1) gG qbC 253 LL (by decide +kernel)
 obtain ⟨hx, hy, hz, _⟩ := h
 obtain ⟨o1, o2⟩ := order_val
 have e1 : fi (qat (GX, GY, 1) 253 LL).1 = 0 := by rw [← zZ]; exact (Zy _ _).2 (o1.trans (Nat.zero_mod _).symm)
 have e2 : fi (qat (GX, GY, 1) 253 LL).2.1 = fi (qat (GX, GY, 1) 253 LL).2.2 := (Zy _ _).2 o2
 rw [e1] at hx
 rw [e2] at hy
 refine Prod.ext ?_ ?_
 · exact (fld.dom _ _ hx.symm).resolve_right hz
 · exact fld.cancel _ _ _ hz (by rw [← hy]; grind)
theorem mul_rest (n : Nat) : qX qP fd gG (n % LL) = qX qP fd gG n := by
 have h : qX qP fd gG n = QH qP fd (qX qP fd gG (LL * (n / LL))) (qX qP fd gG (n % LL)) := by
  rw [← fld.mul_add gG qc7, Nat.div_add_mod]
 rw [h, ← fld.mul_mul gG qc7, mul_LL]
 have h0 : ∀ k, qX qP fd ((0, 1) : Fin PP × Fin PP) k = (0, 1) := by
  intro k
  induction k with
  | zero => rfl
  | succ k ih => show QH qP fd (qX qP fd (0, 1) k) (0, 1) = (0, 1); rw [ih, fld.add_zero _ qbw]
 rw [h0, fld.zero_add _ (fld.on_mul gG qc7 _)]
end
section
open Go.RowKit Go.Lib
theorem info34 : (Try.prog.info? 34).map (fun i => (i.zero, i.size, i.bytes)) = some (some (.int .u64 0), 1, 8) := by kernel_rfl
theorem mkW (w : World) : (Instr.makeSlice 94 (.int .i64 34) (.int .i64 34)).run Try.prog w = .ok (.slice (some ⟨w.heap.size, 0, none⟩) 34 34) (w.alloc (.cells (row .u64 34 fun _ => 0) 34)) := by
 obtain ⟨i0, hi, hz0, hz1, hz2⟩ := info_parts info34
 have h := run_makeSlice (P := Try.prog) w 94 34 i0 _ Try.underlying94 hi hz0 .i64 .i64 34 34 (by decide) (by decide) (by rw [hz1]; decide) (by rw [hz2]; decide) (by decide)
 rw [hz1] at h
 have e : madeCells (Value.int .u64 0).cells 34 = row .u64 34 fun _ => 0 := by
  apply Array.ext_getElem?
  intro j
  by_cases hj : j < 34
  · rw [QJ _ _ _ _ hj]; simp [madeCells, Value.cells, hj, Nat.mod_one]
  · rw [Zg _ _ _ _ hj]; simp [madeCells]; omega
 have h2 : madeCells (Value.int .u64 0).cells ((34 : Int).toNat * 1) = row .u64 34 fun _ => 0 := e
 rw [h2] at h
 exact h
theorem sumf_16 (n : Nat) (hn : n < 65536 ^ 16) : qr 65536 (dg 65536 n) 16 = n := by
 have := Q7 65536 n 16
 rw [Nat.mod_eq_of_lt hn] at this
 exact this
theorem mul16 (x y : Int) (hx0 : 0 ≤ x) (hx : x < 65536) (hy0 : 0 ≤ y) (hy : y < 65536) : 0 ≤ x * y ∧ x * y ≤ 4294836225 :=
 ⟨Int.mul_nonneg hx0 hy0, by have := Int.mul_le_mul (show x ≤ 65535 by omega) (show y ≤ 65535 by omega) hy0 (by decide); omega⟩
theorem carried (V : Nat) (h o : Nat → Int) (c : Int) (hc : 0 ≤ c) (ho : ∀ j, j < 34 → 0 ≤ o j ∧ o j < 65536) (hV : V < 65536 ^ 34) (hs : qr 65536 h 34 = V) (he : qr 65536 h 34 = c * 65536 ^ 34 + qr 65536 o 34) : row .u32 34 o = row .u32 34 (dg 65536 V) := by
 have h0 := Qk 65536 (by decide) o 34 (fun i hi => (ho i hi).1)
 have hp : ((65536 : Int) ^ 34) = ((65536 ^ 34 : Nat) : Int) := by rw [Int.natCast_pow]; rfl
 have hc0 : c = 0 := by
  rcases Int.lt_or_le 0 c with h1 | h1
  · have h2 : 1 * (65536 : Int) ^ 34 ≤ c * 65536 ^ 34 := Int.mul_le_mul_of_nonneg_right (by omega) (Int.le_of_lt (Int.pow_pos (by decide)))
    rw [hs] at he
    rw [hp] at h2 he
    generalize 65536 ^ 34 = P at *
    omega
  · omega
 rw [hc0, Int.zero_mul, Int.zero_add, hs] at he
 refine Qb _ _ _ _ (zo 65536 o V 34 ho he.symm)
theorem carry16 (h o : Nat → Int) (k : Nat) (c n : Int) (he : qr 65536 h k = c * 65536 ^ k + qr 65536 o k) (hn : n = h k + c) : qr 65536 h (k + 1) = n / 65536 * 65536 ^ (k + 1) + qr 65536 (upd o k (n % 65536)) (k + 1) := by
 show qr 65536 h k + h k * 65536 ^ k = n / 65536 * 65536 ^ (k + 1) + (qr 65536 (upd o k (n % 65536)) k + upd o k (n % 65536) k * 65536 ^ k)
 rw [qU _ _ _ _ _ (Nat.le_refl k), qw, he, Int.pow_succ]
 have e : n = 65536 * (n / 65536) + n % 65536 := by omega
 generalize n / 65536 = q at *
 generalize n % 65536 = r at *
 have e2 : h k = 65536 * q + r - c := by omega
 rw [e2]
 generalize (65536 : Int) ^ k = P
 grind
theorem qb3 (a : Option Addr) (n : Nat) (hn : n < 115792089237316195423570985008687907853269984665640564039457584007913129639936) (w : World) (hb : Byts w a 32 n) :
 Calls Try.prog 70 #[.slice a 32 32] w fun e w' => (∃ F, w.heap.size ≤ F ∧ e = .returned (.slice (some ⟨F, 0, none⟩) 16 16) ∧ Has w' F (row .u32 16 (dg 65536 n)) 91) ∧ Below w.heap.size w w' :=
 qaz a 32 32 n (by decide) (by rw [p256_32]; exact hn) w hb
theorem mkK34 (w : World) : (Instr.makeSlice 86 (.int .i64 34) (.int .i64 34)).run Try.prog w = .ok (.slice (some ⟨w.heap.size, 0, none⟩) 34 34) (w.alloc (.cells (row .u32 34 fun _ => 0) 91)) := mkK w 34 (by decide)
theorem p16_34 : (65536 : Nat) ^ 34 = 57586096570152913699974892898380567793532123114264532903689671329431521032595044740083720782129802971518987656109067457577065805510327036019308994315074097345724416 := by decide +kernel
theorem times3_any (A B C : Nat) (hA : A < 115792089237316195423570985008687907853269984665640564039457584007913129639936) (hB : B < 115792089237316195423570985008687907853269984665640564039457584007913129639936) (hC : C < 115792089237316195423570985008687907853269984665640564039457584007913129639936) (w : World) :
 Calls Try.prog 26 #[.agg (k32 A), .agg (k32 B), .agg (k32 C)] w fun e w' => e = .returned (.agg (k32 ((A * B + C) % L0))) ∧ Below w.heap.size w w' := by
 have hfA := fun a w h => qb3 a A hA w h
 have hfB := fun a w h => qb3 a B hB w h
 have hfC := fun a w h => qb3 a C hC w h
 have hsA := sumf_16 A (by rw [qco]; exact hA)
 have hsB := sumf_16 B (by rw [qco]; exact hB)
 have hsC := sumf_16 C (by rw [qco]; exact hC)
 have hV : A * B + C < 65536 ^ 34 := by
  rw [p16_34]
  have h1 : A * B < 115792089237316195423570985008687907853269984665640564039457584007913129639936 * 115792089237316195423570985008687907853269984665640564039457584007913129639936 := Nat.mul_lt_mul'' hA hB
  omega
 have hdi := fun F w h => qdb F 34 34 (A * B + C) (by decide) hV w h
 have hdA := fun j => dg65 A j
 have hdB := fun j => dg65 B j
 have hdC := fun j => dg65 C j
 have HfA := Lib.hid hfA; clear hfA
 have HfB := Lib.hid hfB; clear hfB
 have HfC := Lib.hid hfC; clear hfC
 have HsA := Lib.hid hsA; clear hsA
 have HsB := Lib.hid hsB; clear hsB
 have HsC := Lib.hid hsC; clear hsC
 have HV := Lib.hid hV; clear hV
 have Hdi := Lib.hid hdi; clear hdi
 have HdA := Lib.hid hdA; clear hdA
 have HdB := Lib.hid hdB; clear hdB
 have HdC := Lib.hid hdC; clear hdC
 clear hA hB hC
 go_enter Try.func26, Try.ntmps26
 repeat ((fail_if_success (with_reducible (show wpList _ _ _ _ _ _))); go_step)
 iterate 4 (refine wpList_step (fun K hK => ?_); go_simp; (try go_bits); refine hK _ _ ?_; clear hK K)
 refine wpList_nil ?_
 have M3 := Lib.hid ((((Has.new w  (k32 A) 24).alloc (.cells (k32 B) 24)).alloc (.cells (k32 C) 24)).alloc (.cells (#[.int .u8 0, .int .u8 0, .int .u8 0, .int .u8 0, .int .u8 0, .int .u8 0, .int .u8 0, .int .u8 0, .int .u8 0, .int .u8 0, .int .u8 0, .int .u8 0, .int .u8 0, .int .u8 0, .int .u8 0, .int .u8 0, .int .u8 0, .int .u8 0, .int .u8 0, .int .u8 0, .int .u8 0, .int .u8 0, .int .u8 0, .int .u8 0, .int .u8 0, .int .u8 0, .int .u8 0, .int .u8 0, .int .u8 0, .int .u8 0, .int .u8 0, .int .u8 0] : Array Value) 24))
 have M4 := Lib.hid (((Has.new1 w (.cells (k32 A) 24) (k32 B) 24).alloc (.cells (k32 C) 24)).alloc (.cells (#[.int .u8 0, .int .u8 0, .int .u8 0, .int .u8 0, .int .u8 0, .int .u8 0, .int .u8 0, .int .u8 0, .int .u8 0, .int .u8 0, .int .u8 0, .int .u8 0, .int .u8 0, .int .u8 0, .int .u8 0, .int .u8 0, .int .u8 0, .int .u8 0, .int .u8 0, .int .u8 0, .int .u8 0, .int .u8 0, .int .u8 0, .int .u8 0, .int .u8 0, .int .u8 0, .int .u8 0, .int .u8 0, .int .u8 0, .int .u8 0, .int .u8 0, .int .u8 0] : Array Value) 24))
 have M5 := Lib.hid ((Has.new2 w (.cells (k32 A) 24) (.cells (k32 B) 24) (k32 C) 24).alloc (.cells (#[.int .u8 0, .int .u8 0, .int .u8 0, .int .u8 0, .int .u8 0, .int .u8 0, .int .u8 0, .int .u8 0, .int .u8 0, .int .u8 0, .int .u8 0, .int .u8 0, .int .u8 0, .int .u8 0, .int .u8 0, .int .u8 0, .int .u8 0, .int .u8 0, .int .u8 0, .int .u8 0, .int .u8 0, .int .u8 0, .int .u8 0, .int .u8 0, .int .u8 0, .int .u8 0, .int .u8 0, .int .u8 0, .int .u8 0, .int .u8 0, .int .u8 0, .int .u8 0] : Array Value) 24))
 have M6 := Lib.hid (HasN.new3 w (.cells (k32 A) 24) (.cells (k32 B) 24) (.cells (k32 C) 24) (#[.int .u8 0, .int .u8 0, .int .u8 0, .int .u8 0, .int .u8 0, .int .u8 0, .int .u8 0, .int .u8 0, .int .u8 0, .int .u8 0, .int .u8 0, .int .u8 0, .int .u8 0, .int .u8 0, .int .u8 0, .int .u8 0, .int .u8 0, .int .u8 0, .int .u8 0, .int .u8 0, .int .u8 0, .int .u8 0, .int .u8 0, .int .u8 0, .int .u8 0, .int .u8 0, .int .u8 0, .int .u8 0, .int .u8 0, .int .u8 0, .int .u8 0, .int .u8 0] : Array Value) 24 32 (by kernel_rfl))
 have HB := Lib.hid (qae w (.cells (k32 A) 24) (.cells (k32 B) 24) (.cells (k32 C) 24) (.cells (#[.int .u8 0, .int .u8 0, .int .u8 0, .int .u8 0, .int .u8 0, .int .u8 0, .int .u8 0, .int .u8 0, .int .u8 0, .int .u8 0, .int .u8 0, .int .u8 0, .int .u8 0, .int .u8 0, .int .u8 0, .int .u8 0, .int .u8 0, .int .u8 0, .int .u8 0, .int .u8 0, .int .u8 0, .int .u8 0, .int .u8 0, .int .u8 0, .int .u8 0, .int .u8 0, .int .u8 0, .int .u8 0, .int .u8 0, .int .u8 0, .int .u8 0, .int .u8 0] : Array Value) 24))
 obtain ⟨yw1, hwyw1⟩ : ∃ ww, ww = ((((w.alloc (.cells (k32 A) 24)).alloc (.cells (k32 B) 24)).alloc (.cells (k32 C) 24)).alloc (.cells (#[.int .u8 0, .int .u8 0, .int .u8 0, .int .u8 0, .int .u8 0, .int .u8 0, .int .u8 0, .int .u8 0, .int .u8 0, .int .u8 0, .int .u8 0, .int .u8 0, .int .u8 0, .int .u8 0, .int .u8 0, .int .u8 0, .int .u8 0, .int .u8 0, .int .u8 0, .int .u8 0, .int .u8 0, .int .u8 0, .int .u8 0, .int .u8 0, .int .u8 0, .int .u8 0, .int .u8 0, .int .u8 0, .int .u8 0, .int .u8 0, .int .u8 0, .int .u8 0] : Array Value) 24)) := ⟨_, rfl⟩
 rw [← hwyw1] at M3 M4 M5 M6 HB ⊢
 clear hwyw1
 repeat ((fail_if_success (with_reducible (show wpList _ _ _ _ _ _))); go_step)
 have gW := M6.out.lt
 refine zJ (by rfl) 94 _ _ rfl _ _ rfl rfl _ _ (mkW _) 18 rfl ?_
 have hb := Qc yw1 (.cells (row .u64 34 fun _ => 0) 34)
 have nwMW := Has.new yw1 (row .u64 34 fun _ => 0) 34
 obtain ⟨yw2, hwyw2⟩ : ∃ ww, ww = yw1.alloc (.cells (row .u64 34 fun _ => 0) 34) := ⟨_, rfl⟩
 rw [← hwyw2] at hb nwMW ⊢
 clear hwyw2
 replace M3 := Lib.hid (M3.out.call hb)
 replace M4 := Lib.hid (M4.out.call hb)
 replace M5 := Lib.hid (M5.out.call hb)
 replace M6 := Lib.hid (M6.out.call hb)
 replace HB := Lib.hid (qh HB.out hb)
 clear hb
 have MW := Lib.hid nwMW; clear nwMW
 (try simp only [Act.put, sI, sS, sZ])
 (refine wpList_step (fun K hK => ?_); go_simp; (try go_bits); refine hK _ _ ?_; clear hK K)
 refine wpList_nil ?_
 obtain ⟨BW, hBW⟩ : ∃ B, B = yw1.heap.size := ⟨_, rfl⟩
 rw [← hBW] at MW gW ⊢
 clear hBW
 repeat ((fail_if_success (with_reducible (show wpList _ _ _ _ _ _))); go_step)
 have gB0 := MW.out.lt
 refine wp_region_noPanic ?_
 refine q7 (fun _ => True) 99 6 #[ff,ff,ff,ff,ff,ff] (by kernel_rfl) rfl rfl ?_
 replace M3 := Lib.hid (M3.out.drew)
 replace M4 := Lib.hid (M4.out.drew)
 replace M5 := Lib.hid (M5.out.drew)
 replace M6 := Lib.hid (M6.out.drew)
 replace MW := Lib.hid (MW.out.drew)
 replace HB := Lib.hid (qN HB.out 1)
 obtain ⟨yw3, hwyw3⟩ : ∃ ww, ww = yw2.drew := ⟨_, rfl⟩
 rw [← hwyw3] at M3 M4 M5 M6 MW ⊢
 have kq : Below w.heap.size w yw3 := by rw [hwyw3]; exact HB.out
 clear HB; have HB := Lib.hid kq; clear kq hwyw3
 refine qg 0 19 #[tt,ff,ff,ff,ff,ff] (v := ?uv1) rfl rfl rfl (by kernel_rfl) (Or.inl ⟨by rfl, ?uy1⟩) (trivial) ?urest1
 case uy1 => (intro _ _; go_simp; try with_reducible rfl)
 (try simp only [sI, sS, sZ])
 refine qg 2 21 #[tt,ff,tt,ff,ff,ff] (v := ?uv2) rfl rfl rfl (by kernel_rfl) (Or.inl ⟨by rfl, ?uy2⟩) (trivial) ?urest2
 case uy2 => (intro _ _; go_simp; try with_reducible rfl)
 (try simp only [sI, sS, sZ])
 refine qk (i := 1) (by kernel_rfl) ?_
 have ltW := MW.out.lt
 refine qE 1 20 #[tt,tt,tt,ff,ff,ff] rfl rfl rfl (by rfl) rfl rfl (by rfl) ent70 (by rfl) (HfA.out _ _ M3.out.byts) ?_
 rintro e uw1 ⟨⟨FX, hFX, rfl, mF⟩, hb⟩
 replace M3 := Lib.hid (M3.out.call hb)
 replace M4 := Lib.hid (M4.out.call hb)
 replace M5 := Lib.hid (M5.out.call hb)
 replace M6 := Lib.hid (M6.out.call hb)
 replace MW := Lib.hid (MW.out.call hb)
 replace HB := Lib.hid (qh HB.out hb)
 have gX : BW < FX := by omega
 clear ltW; have MX := Lib.hid mF; clear mF
 refine ⟨_, rfl, fun _ => trivial, ?_⟩
 clear hb
 (try simp only [sI, sS, sZ])
 refine qk (i := 3) (by kernel_rfl) ?_
 have ltW := MW.out.lt
 refine qE 3 22 #[tt,tt,tt,tt,ff,ff] rfl rfl rfl (by rfl) rfl rfl (by rfl) ent70 (by rfl) (HfB.out _ _ M4.out.byts) ?_
 rintro e uw2 ⟨⟨FY, hFY, rfl, mF⟩, hb⟩
 replace M3 := Lib.hid (M3.out.call hb)
 replace M4 := Lib.hid (M4.out.call hb)
 replace M5 := Lib.hid (M5.out.call hb)
 replace M6 := Lib.hid (M6.out.call hb)
 replace MW := Lib.hid (MW.out.call hb)
 replace MX := Lib.hid (MX.out.call hb)
 replace HB := Lib.hid (qh HB.out hb)
 have gY : BW < FY := by omega
 clear ltW; have MY := Lib.hid mF; clear mF
 refine ⟨_, rfl, fun _ => trivial, ?_⟩
 clear hb
 (try simp only [sI, sS, sZ])
 refine qg 4 8 #[tt,tt,tt,tt,tt,ff] (v := ?uv3) rfl rfl rfl (by kernel_rfl) (Or.inl ⟨by rfl, ?uy3⟩) (trivial) ?urest3
 case uy3 => (intro _ _; go_simp; try with_reducible rfl)
 (try simp only [sI, sS, sZ])
 refine qg 5 9 #[tt,tt,tt,tt,tt,tt] (v := ?uv4) rfl rfl rfl (by kernel_rfl) (Or.inl ⟨by rfl, ?uy4⟩) (trivial) ?urest4
 case uy4 => (intro _ _; go_simp; try with_reducible rfl)
 (try simp only [sI, sS, sZ])
 refine qu (by kernel_rfl) (NoPanic.normal ?_)
 clear HfA HfB M3 M4
 repeat ((fail_if_success (with_reducible (show wpList _ _ _ _ _ _))); go_step)
 (refine wpList_step (fun K hK => ?_); go_simp; (try go_bits); refine hK _ _ ?_; clear hK K)
 have ltW := MW.out.lt
 refine qm (by rfl) rfl rfl (by rfl) ent70 (by rfl) (HfC.out _ _ M5.out.byts) 24 rfl ?_
 rintro e uw3 ⟨⟨FC, hFC, rfl, mF⟩, hb⟩
 replace M5 := Lib.hid (M5.out.call hb)
 replace M6 := Lib.hid (M6.out.call hb)
 replace MW := Lib.hid (MW.out.call hb)
 replace MX := Lib.hid (MX.out.call hb)
 replace MY := Lib.hid (MY.out.call hb)
 replace HB := Lib.hid (qh HB.out hb)
 have gC : BW < FC := by omega
 clear ltW; have MC := Lib.hid mF; clear mF
 refine ⟨_, rfl, ?_⟩
 clear hb
 (try simp only [Act.put, sI, sS, sZ])
 iterate 2 (refine wpList_step (fun K hK => ?_); go_simp; (try go_bits); refine hK _ _ ?_; clear hK K)
 refine wpList_nil ?_
 clear HfC M5
 repeat ((fail_if_success (with_reducible (show wpList _ _ _ _ _ _))); go_step)
 go_loopw [26] (fun i wr => ∃ (k : Nat) (h : Nat → Int), k ≤ 16 ∧ i = .int .i64 (k : Int) ∧ RowKit.Hid (∀ j, j < 34 → 0 ≤ h j ∧ h j ≤ 65535) ∧ RowKit.Hid (∀ j, k ≤ j → h j = 0) ∧ RowKit.Hid (qr 65536 h 34 = qr 65536 (dg 65536 C) k) ∧ Has wr FC (row .u32 16 (dg 65536 C)) 91 ∧ HasN wr (w.heap.size + 1 + 1 + 1) 32 24 ∧ Has wr FX (row .u32 16 (dg 65536 A)) 91 ∧ Has wr FY (row .u32 16 (dg 65536 B)) 91 ∧ Has wr BW (row .u64 34 h) 34 ∧ Below w.heap.size w wr) (fun i _ => (16 - (intOf i).toNat))
 case atStart => exact ⟨0, fun _ => 0, by omega, rfl, Lib.hid (fun j _ => ⟨Int.le_refl 0, (by decide : (0 : Int) ≤ 65535)⟩), Lib.hid (fun _ _ => rfl), Lib.hid (by rw [Q6 _ _ _ (fun _ _ => rfl)]; rfl), MC.out, M6.out, MX.out, MY.out, MW.out, HB.out⟩
 case round =>
  clear M6 MX MY MW HB
  clear MC
  obtain ⟨k, h, hk, rfl, Hbd, Hz, Hs, mC, m6, mX, mY, mW, hB⟩ := hrel
  have M6 := Lib.hid m6; clear m6
  have MX := Lib.hid mX; clear mX
  have MY := Lib.hid mY; clear mY
  have MW := Lib.hid mW; clear mW
  have HB := Lib.hid hB; clear hB
  have MC := Lib.hid mC; clear mC
  rcases Nat.lt_or_ge k 16 with hlt | hge
  · have kq : (k : Int) < 16 := by omega
    have kq2 : (k : Int) < 34 := by omega
    have hc1 := MC.out.cell k hlt
    have hd1 := (HdC.out k).1
    have hd2 := (HdC.out k).2
    obtain ⟨x, hx⟩ : ∃ x, x = dg 65536 C k := ⟨_, rfl⟩
    rw [← hx] at hc1 hd1 hd2
    have hc2 := MW.out.cell k (by omega)
    rw [Hz.out k (Nat.le_refl _)] at hc2
    have hfz := MW.out.frozen k
    obtain ⟨h2, hh2⟩ : ∃ g, g = upd h k x := ⟨_, rfl⟩
    have Hs2 : RowKit.Hid (qr 65536 h2 34 = qr 65536 (dg 65536 C) (k + 1)) := by
     refine Lib.hid ?_
     rw [hh2, Qs _ _ _ _ _ (by omega), Hz.out k (Nat.le_refl _), Hs.out, Int.sub_zero]
     show _ = qr 65536 (dg 65536 C) k + dg 65536 C k * 65536 ^ k
     rw [hx]
    have Hbd2 : RowKit.Hid (∀ j, j < 34 → 0 ≤ h2 j ∧ h2 j ≤ 65535) := by
     refine Lib.hid (fun j hj => ?_)
     rw [hh2]; unfold upd
     by_cases e : j = k
     · rw [if_pos e]; omega
     · rw [if_neg e]; exact Hbd.out j hj
    have Hz2 : RowKit.Hid (∀ j, k + 1 ≤ j → h2 j = 0) := by
     refine Lib.hid (fun j hj => ?_)
     rw [hh2]; unfold upd
     rw [if_neg (by omega)]; exact Hz.out j (by omega)
    clear hx Hbd Hz Hs
    have Hh2 := Lib.hid hh2; clear hh2
    repeat ((fail_if_success (with_reducible (show wpList _ _ _ _ _ _))); go_step)
    (refine wpList_step (fun K hK => ?_); go_simp; (try go_bits); refine hK _ _ ?_; clear hK K)
    refine wpList_nil ?_
    repeat ((fail_if_success (with_reducible (show wpList _ _ _ _ _ _))); go_step)
    iterate 5 (refine wpList_step (fun K hK => ?_); go_simp; (try go_bits); refine hK _ _ ?_; clear hK K)
    refine wpList_nil ?_
    repeat ((fail_if_success (with_reducible (show wpList _ _ _ _ _ _))); go_step)
    iterate 6 (refine wpList_step (fun K hK => ?_); go_simp; (try go_bits); refine hK _ _ ?_; clear hK K)
    have kq := MW.out.set (k) (x); rw [← Hh2.out] at kq; clear MW; have MW := Lib.hid kq; clear kq
    have kq := M6.out.other ⟨BW, k, none⟩ (.int .u64 (x)) (by simp <;> omega); clear M6; have M6 := Lib.hid kq; clear kq
    have kq := MX.out.other ⟨BW, k, none⟩ (.int .u64 (x)) (by simp <;> omega); clear MX; have MX := Lib.hid kq; clear kq
    have kq := MY.out.other ⟨BW, k, none⟩ (.int .u64 (x)) (by simp <;> omega); clear MY; have MY := Lib.hid kq; clear kq
    have kq := MC.out.other ⟨BW, k, none⟩ (.int .u64 (x)) (by simp <;> omega); clear MC; have MC := Lib.hid kq; clear kq
    replace HB := Lib.hid (HB.out.setCell (p := ⟨BW, k, none⟩) (show w.heap.size ≤ BW by omega) (.int .u64 (x)))
    obtain ⟨yw101, hwyw101⟩ : ∃ ww, ww = wr.setCell ⟨BW, k, none⟩ (.int .u64 (x)) := ⟨_, rfl⟩
    rw [← hwyw101] at M6 MX MY MW MC HB ⊢
    clear hwyw101
    refine wpList_nil ?_
    clear hc1 hc2 hfz hd1 hd2
    repeat ((fail_if_success (with_reducible (show wpList _ _ _ _ _ _))); go_step)
    iterate 2 (refine wpList_step (fun K hK => ?_); go_simp; (try go_bits); refine hK _ _ ?_; clear hK K)
    refine wpList_nil ?_
    go_roundw
    case measure => simp [intOf]; omega
    case rel => (repeat apply Exists.intro); exact ⟨⟨k + 1, h2, by omega, by go_num, Hbd2, Hz2, Hs2, MC.out, M6.out, MX.out, MY.out, MW.out, HB.out⟩, rfl⟩
  · have hk16 : k = 16 := by omega
    subst hk16
    clear hk hge MC Hz
    have hs0 := Hs.out
    rw [HsC.out] at hs0
    clear Hs
    have Hs0 := Lib.hid hs0; clear hs0
    repeat ((fail_if_success (with_reducible (show wpList _ _ _ _ _ _))); go_step)
    (refine wpList_step (fun K hK => ?_); go_simp; (try go_bits); refine hK _ _ ?_; clear hK K)
    refine wpList_nil ?_
    repeat ((fail_if_success (with_reducible (show wpList _ _ _ _ _ _))); go_step)
    iterate 3 (refine wpList_step (fun K hK => ?_); go_simp; (try go_bits); refine hK _ _ ?_; clear hK K)
    refine wpList_nil ?_
    repeat ((fail_if_success (with_reducible (show wpList _ _ _ _ _ _))); go_step)
    obtain ⟨w1, rfl⟩ : ∃ W, W = wr := ⟨_, rfl⟩
    go_loopw [39] (fun i wr => ∃ (k : Nat) (h : Nat → Int), k ≤ 16 ∧ i = .int .i64 (k : Int) ∧ RowKit.Hid (∀ j, j < 34 → 0 ≤ h j ∧ h j ≤ 65535 + 16 * (k : Int) * 4294836225) ∧ RowKit.Hid (qr 65536 h 34 = C + qr 65536 (dg 65536 A) k * B) ∧ HasN wr (w.heap.size + 1 + 1 + 1) 32 24 ∧ Has wr FX (row .u32 16 (dg 65536 A)) 91 ∧ Has wr FY (row .u32 16 (dg 65536 B)) 91 ∧ Has wr BW (row .u64 34 h) 34 ∧ Below w.heap.size w wr) (fun i _ => (16 - (intOf i).toNat))
    case atStart => exact ⟨0, h, by omega, rfl, Lib.hid (fun j hj => by have := Hbd.out j hj; omega), Lib.hid (by rw [Hs0.out]; show _ = (C : Int) + 0 * B; omega), M6.out, MX.out, MY.out, MW.out, HB.out⟩
    case round =>
     clear M6 MX MY MW HB
     clear Hbd Hs0
     obtain ⟨i, h, hi, rfl, Hbd, Hs, m6, mX, mY, mW, hB⟩ := hrel
     have M6 := Lib.hid m6; clear m6
     have MX := Lib.hid mX; clear mX
     have MY := Lib.hid mY; clear mY
     have MW := Lib.hid mW; clear mW
     have HB := Lib.hid hB; clear hB
     rcases Nat.lt_or_ge i 16 with hilt | hige
     · have iq : (i : Int) < 16 := by omega
       repeat ((fail_if_success (with_reducible (show wpList _ _ _ _ _ _))); go_step)
       (refine wpList_step (fun K hK => ?_); go_simp; (try go_bits); refine hK _ _ ?_; clear hK K)
       refine wpList_nil ?_
       repeat ((fail_if_success (with_reducible (show wpList _ _ _ _ _ _))); go_step)
       iterate 2 (refine wpList_step (fun K hK => ?_); go_simp; (try go_bits); refine hK _ _ ?_; clear hK K)
       refine wpList_nil ?_
       repeat ((fail_if_success (with_reducible (show wpList _ _ _ _ _ _))); go_step)
       iterate 3 (refine wpList_step (fun K hK => ?_); go_simp; (try go_bits); refine hK _ _ ?_; clear hK K)
       refine wpList_nil ?_
       repeat ((fail_if_success (with_reducible (show wpList _ _ _ _ _ _))); go_step)
       obtain ⟨w2, rfl⟩ : ∃ W, W = wr := ⟨_, rfl⟩
       go_loopw [44] (fun q wr => ∃ (k : Nat) (h : Nat → Int), k ≤ 16 ∧ q = .int .i64 (k : Int) ∧ RowKit.Hid (∀ j, j < 34 → 0 ≤ h j ∧ h j ≤ 65535 + (16 * (i : Int) + k) * 4294836225) ∧ RowKit.Hid (qr 65536 h 34 = C + qr 65536 (dg 65536 A) i * B + dg 65536 A i * 65536 ^ i * qr 65536 (dg 65536 B) k) ∧ HasN wr (w.heap.size + 1 + 1 + 1) 32 24 ∧ Has wr FX (row .u32 16 (dg 65536 A)) 91 ∧ Has wr FY (row .u32 16 (dg 65536 B)) 91 ∧ Has wr BW (row .u64 34 h) 34 ∧ Below w.heap.size w wr) (fun q _ => (16 - (intOf q).toNat))
       case atStart => exact ⟨0, h, by omega, rfl, Lib.hid (fun j hj => by have := Hbd.out j hj; omega), Lib.hid (by rw [Hs.out]; show _ = _ + dg 65536 A i * 65536 ^ i * 0; omega), M6.out, MX.out, MY.out, MW.out, HB.out⟩
       case round =>
        clear M6 MX MY MW HB
        clear Hbd Hs
        obtain ⟨k, h, hk, rfl, Hbd, Hs, m6, mX, mY, mW, hB⟩ := hrel
        have M6 := Lib.hid m6; clear m6
        have MX := Lib.hid mX; clear mX
        have MY := Lib.hid mY; clear mY
        have MW := Lib.hid mW; clear mW
        have HB := Lib.hid hB; clear hB
        rcases Nat.lt_or_ge k 16 with hklt | hkge
        · have kq : (k : Int) < 16 := by omega
          obtain ⟨x0, x1⟩ := HdA.out i
          obtain ⟨y0, y1⟩ := HdB.out k
          obtain ⟨x, hx⟩ : ∃ x, x = dg 65536 A i := ⟨_, rfl⟩
          obtain ⟨y, hy⟩ : ∃ y, y = dg 65536 B k := ⟨_, rfl⟩
          rw [← hx] at x0 x1
          rw [← hy] at y0 y1
          obtain ⟨xy0, xy1⟩ := mul16 x y x0 x1 y0 y1
          obtain ⟨p, hp⟩ : ∃ p, p = x * y := ⟨_, rfl⟩
          rw [← hp] at xy0 xy1
          obtain ⟨s, hs⟩ : ∃ s, s = i + k := ⟨_, rfl⟩
          have hs34 : s < 34 := by omega
          have sq : (s : Int) < 34 := by omega
          obtain ⟨z0, z1⟩ := Hbd.out s hs34
          obtain ⟨z, hz⟩ : ∃ z, z = h s := ⟨_, rfl⟩
          rw [← hz] at z0 z1
          obtain ⟨t, ht⟩ : ∃ t, t = z + p := ⟨_, rfl⟩
          have hwik : IntKind.i64.wrap ((i : Int) + (k : Int)) = (s : Int) := by rw [IntKind.wrap_i64]; omega
          have hwx : IntKind.u64.wrap x = x := by rw [IntKind.wrap_u64]; omega
          have hwy : IntKind.u64.wrap y = y := by rw [IntKind.wrap_u64]; omega
          have hwp : IntKind.u64.wrap (x * y) = p := by rw [← hp, IntKind.wrap_u64]; omega
          have hwt : IntKind.u64.wrap (z + p) = t := by rw [← ht, IntKind.wrap_u64]; omega
          obtain ⟨h2, hh2⟩ : ∃ g, g = upd h s t := ⟨_, rfl⟩
          have Hs2 : RowKit.Hid (qr 65536 h2 34 = C + qr 65536 (dg 65536 A) i * B + dg 65536 A i * 65536 ^ i * qr 65536 (dg 65536 B) (k + 1)) := by
           refine Lib.hid ?_
           rw [hh2, Qs _ _ _ _ _ hs34, Hs.out]
           show _ = _ + dg 65536 A i * 65536 ^ i * (qr 65536 (dg 65536 B) k + dg 65536 B k * 65536 ^ k)
           rw [← hx, ← hy, ← hz, ht, hs, Int.pow_add, hp]
           generalize (65536 : Int) ^ i = P
           generalize (65536 : Int) ^ k = R
           grind
          have Hbd2 : RowKit.Hid (∀ j, j < 34 → 0 ≤ h2 j ∧ h2 j ≤ 65535 + (16 * (i : Int) + (k + 1 : Nat)) * 4294836225) := by
           refine Lib.hid (fun j hj => ?_)
           rw [hh2]; unfold upd
           by_cases e : j = s
           · rw [if_pos e]; omega
           · rw [if_neg e]; have := Hbd.out j hj; omega
          have Hx := Lib.hid hx
          have Hy := Lib.hid hy
          have Hz := Lib.hid hz
          clear hx hy hz hp ht hs Hs Hbd z1
          have Hh2 := Lib.hid hh2; clear hh2
          repeat ((fail_if_success (with_reducible (show wpList _ _ _ _ _ _))); go_step)
          (refine wpList_step (fun K hK => ?_); go_simp; (try go_bits); refine hK _ _ ?_; clear hK K)
          refine wpList_nil ?_
          repeat ((fail_if_success (with_reducible (show wpList _ _ _ _ _ _))); go_step)
          iterate 2 (refine wpList_step (fun K hK => ?_); go_simp; (try go_bits); refine hK _ _ ?_; clear hK K)
          refine wpList_nil ?_
          repeat ((fail_if_success (with_reducible (show wpList _ _ _ _ _ _))); go_step)
          refine wp_region_noPanic ?_
          refine q7 (fun w' => Has w' (BW) (row .u64 34 h) 34 ∧ Has w' (FX) (row .u32 16 (dg 65536 A)) 91 ∧ Has w' (FY) (row .u32 16 (dg 65536 B)) 91) 19 20 #[ff,ff,ff,ff,ff,ff,ff,ff,ff,ff,ff,ff,ff,ff,ff,ff,ff,ff,ff,ff] (by kernel_rfl) rfl rfl ?_
          replace M6 := Lib.hid (M6.out.drew)
          replace MX := Lib.hid (MX.out.drew)
          replace MY := Lib.hid (MY.out.drew)
          replace MW := Lib.hid (MW.out.drew)
          replace HB := Lib.hid (qN HB.out 1)
          obtain ⟨yw301, hwyw301⟩ : ∃ ww, ww = wr.drew := ⟨_, rfl⟩
          rw [← hwyw301] at M6 MX MY MW ⊢
          have kq : Below w.heap.size w yw301 := by rw [hwyw301]; exact HB.out
          clear HB; have HB := Lib.hid kq; clear kq hwyw301
          refine qg 0 47 #[tt,ff,ff,ff,ff,ff,ff,ff,ff,ff,ff,ff,ff,ff,ff,ff,ff,ff,ff,ff] (v := ?uv5) rfl rfl rfl (by kernel_rfl) (Or.inl ⟨by rfl, ?uy5⟩) (⟨MW.out, MX.out, MY.out⟩) ?urest5
          case uy5 => (intro _ _; go_simp; try with_reducible rfl)
          (try simp only [sI, sS, sZ])
          refine qg 1 48 #[tt,tt,ff,ff,ff,ff,ff,ff,ff,ff,ff,ff,ff,ff,ff,ff,ff,ff,ff,ff] (v := ?uv6) rfl rfl rfl (by kernel_rfl) (Or.inl ⟨by rfl, ?uy6⟩) (⟨MW.out, MX.out, MY.out⟩) ?urest6
          case uy6 => (intro _ _; go_simp; try with_reducible rfl)
          (try simp only [sI, sS, sZ])
          refine qg 2 49 #[tt,tt,tt,ff,ff,ff,ff,ff,ff,ff,ff,ff,ff,ff,ff,ff,ff,ff,ff,ff] (v := ?uv7) rfl rfl rfl (by kernel_rfl) (Or.inl ⟨by rfl, ?uy7⟩) (⟨MW.out, MX.out, MY.out⟩) ?urest7
          case uy7 => (intro _ _; go_simp; try with_reducible rfl)
          (try simp only [sI, sS, sZ])
          refine qg 3 50 #[tt,tt,tt,tt,ff,ff,ff,ff,ff,ff,ff,ff,ff,ff,ff,ff,ff,ff,ff,ff] (v := ?uv8) rfl rfl rfl (by kernel_rfl) (Or.inl ⟨by rfl, ?uy8⟩) (⟨MW.out, MX.out, MY.out⟩) ?urest8
          case uy8 => (intro _ _; go_simp; try with_reducible rfl)
          (try simp only [sI, sS, sZ])
          refine qg 4 51 #[tt,tt,tt,tt,tt,ff,ff,ff,ff,ff,ff,ff,ff,ff,ff,ff,ff,ff,ff,ff] (v := ?uv9) rfl rfl rfl (by kernel_rfl) (Or.inl ⟨by rfl, ?uy9⟩) (⟨MW.out, MX.out, MY.out⟩) ?urest9
          case uy9 => (intro _ _; go_simp; try with_reducible rfl)
          (try simp only [sI, sS, sZ])
          refine qg 5 52 #[tt,tt,tt,tt,tt,tt,ff,ff,ff,ff,ff,ff,ff,ff,ff,ff,ff,ff,ff,ff] rfl rfl rfl (by kernel_rfl) (qT (by rfl) 34 _ rfl (BW) (s) rfl (.int .u64 z) _ (fun _ h => (by rw [Has.cell h.1 s hs34, Hz.out])) Try.underlying34 rfl) (⟨MW.out, MX.out, MY.out⟩) ?_
          (try simp only [sI, sS, sZ])
          refine qg 6 53 #[tt,tt,tt,tt,tt,tt,tt,ff,ff,ff,ff,ff,ff,ff,ff,ff,ff,ff,ff,ff] (v := ?uv10) rfl rfl rfl (by kernel_rfl) (Or.inl ⟨by rfl, ?uy10⟩) (⟨MW.out, MX.out, MY.out⟩) ?urest10
          case uy10 => (intro _ _; go_simp; try with_reducible rfl)
          (try simp only [sI, sS, sZ])
          refine qg 7 54 #[tt,tt,tt,tt,tt,tt,tt,tt,ff,ff,ff,ff,ff,ff,ff,ff,ff,ff,ff,ff] (v := ?uv11) rfl rfl rfl (by kernel_rfl) (Or.inl ⟨by rfl, ?uy11⟩) (⟨MW.out, MX.out, MY.out⟩) ?urest11
          case uy11 => (intro _ _; go_simp; try with_reducible rfl)
          (try simp only [sI, sS, sZ])
          refine qg 8 55 #[tt,tt,tt,tt,tt,tt,tt,tt,tt,ff,ff,ff,ff,ff,ff,ff,ff,ff,ff,ff] (v := ?uv12) rfl rfl rfl (by kernel_rfl) (Or.inl ⟨by rfl, ?uy12⟩) (⟨MW.out, MX.out, MY.out⟩) ?urest12
          case uy12 => (intro _ _; go_simp; try with_reducible rfl)
          (try simp only [sI, sS, sZ])
          refine qg 9 56 #[tt,tt,tt,tt,tt,tt,tt,tt,tt,tt,ff,ff,ff,ff,ff,ff,ff,ff,ff,ff] rfl rfl rfl (by kernel_rfl) (qT (by rfl) 91 _ rfl (FX) (i) rfl (.int .u32 x) _ (fun _ h => (by rw [Has.cell h.2.1 i hilt, Hx.out])) Try.underlying91 rfl) (⟨MW.out, MX.out, MY.out⟩) ?_
          (try simp only [sI, sS, sZ])
          refine qg 10 57 #[tt,tt,tt,tt,tt,tt,tt,tt,tt,tt,tt,ff,ff,ff,ff,ff,ff,ff,ff,ff] (v := ?uv13) rfl rfl rfl (by kernel_rfl) (Or.inl ⟨by rfl, ?uy13⟩) (⟨MW.out, MX.out, MY.out⟩) ?urest13
          case uy13 => (intro _ _; go_simp; try with_reducible rfl)
          (try simp only [sI, sS, sZ])
          refine qg 11 58 #[tt,tt,tt,tt,tt,tt,tt,tt,tt,tt,tt,tt,ff,ff,ff,ff,ff,ff,ff,ff] (v := ?uv14) rfl rfl rfl (by kernel_rfl) (Or.inl ⟨by rfl, ?uy14⟩) (⟨MW.out, MX.out, MY.out⟩) ?urest14
          case uy14 => (intro _ _; go_simp; try with_reducible rfl)
          (try simp only [sI, sS, sZ])
          refine qg 12 59 #[tt,tt,tt,tt,tt,tt,tt,tt,tt,tt,tt,tt,tt,ff,ff,ff,ff,ff,ff,ff] (v := ?uv15) rfl rfl rfl (by kernel_rfl) (Or.inl ⟨by rfl, ?uy15⟩) (⟨MW.out, MX.out, MY.out⟩) ?urest15
          case uy15 => (intro _ _; go_simp; try with_reducible rfl)
          (try simp only [sI, sS, sZ])
          refine qg 13 60 #[tt,tt,tt,tt,tt,tt,tt,tt,tt,tt,tt,tt,tt,tt,ff,ff,ff,ff,ff,ff] (v := ?uv16) rfl rfl rfl (by kernel_rfl) (Or.inl ⟨by rfl, ?uy16⟩) (⟨MW.out, MX.out, MY.out⟩) ?urest16
          case uy16 => (intro _ _; go_simp; try with_reducible rfl)
          (try simp only [sI, sS, sZ])
          refine qg 14 61 #[tt,tt,tt,tt,tt,tt,tt,tt,tt,tt,tt,tt,tt,tt,tt,ff,ff,ff,ff,ff] rfl rfl rfl (by kernel_rfl) (qT (by rfl) 91 _ rfl (FY) (k) rfl (.int .u32 y) _ (fun _ h => (by rw [Has.cell h.2.2 k hklt, Hy.out])) Try.underlying91 rfl) (⟨MW.out, MX.out, MY.out⟩) ?_
          (try simp only [sI, sS, sZ])
          refine qg 15 62 #[tt,tt,tt,tt,tt,tt,tt,tt,tt,tt,tt,tt,tt,tt,tt,tt,ff,ff,ff,ff] (v := ?uv17) rfl rfl rfl (by kernel_rfl) (Or.inl ⟨by rfl, ?uy17⟩) (⟨MW.out, MX.out, MY.out⟩) ?urest17
          case uy17 => (intro _ _; go_simp; try with_reducible rfl)
          (try simp only [sI, sS, sZ])
          refine qg 16 63 #[tt,tt,tt,tt,tt,tt,tt,tt,tt,tt,tt,tt,tt,tt,tt,tt,tt,ff,ff,ff] (v := ?uv18) rfl rfl rfl (by kernel_rfl) (Or.inl ⟨by rfl, ?uy18⟩) (⟨MW.out, MX.out, MY.out⟩) ?urest18
          case uy18 => (intro _ _; go_simp; try with_reducible rfl)
          (try simp only [sI, sS, sZ])
          refine qg 17 64 #[tt,tt,tt,tt,tt,tt,tt,tt,tt,tt,tt,tt,tt,tt,tt,tt,tt,tt,ff,ff] (v := ?uv19) rfl rfl rfl (by kernel_rfl) (Or.inl ⟨by rfl, ?uy19⟩) (⟨MW.out, MX.out, MY.out⟩) ?urest19
          case uy19 => (intro _ _; go_simp; try with_reducible rfl)
          (try simp only [sI, sS, sZ])
          refine qg 18 65 #[tt,tt,tt,tt,tt,tt,tt,tt,tt,tt,tt,tt,tt,tt,tt,tt,tt,tt,tt,ff] (v := ?uv20) rfl rfl rfl (by kernel_rfl) (Or.inl ⟨by rfl, ?uy20⟩) (⟨MW.out, MX.out, MY.out⟩) ?urest20
          case uy20 => (intro _ _; go_simp; try with_reducible rfl)
          (try simp only [sI, sS, sZ])
          refine qk (i := 19) (by kernel_rfl) ?_
          refine z9 19 #[tt,tt,tt,tt,tt,tt,tt,tt,tt,tt,tt,tt,tt,tt,tt,tt,tt,tt,tt,tt] rfl rfl rfl (by rfl) 34 _ _ rfl (BW) (s) (.int .u64 (t)) rfl rfl (by rw [MW.out.cell s hs34]; rfl) (MW.out.frozen _) (by kernel_rfl) rfl rfl ⟨fun h => (h rfl).elim, ?_⟩
          have kq := MW.out.set (s) (t); rw [← Hh2.out] at kq; clear MW; have MW := Lib.hid kq; clear kq
          have kq := M6.out.other ⟨BW, s, none⟩ (.int .u64 (t)) (by simp <;> omega); clear M6; have M6 := Lib.hid kq; clear kq
          have kq := MX.out.other ⟨BW, s, none⟩ (.int .u64 (t)) (by simp <;> omega); clear MX; have MX := Lib.hid kq; clear kq
          have kq := MY.out.other ⟨BW, s, none⟩ (.int .u64 (t)) (by simp <;> omega); clear MY; have MY := Lib.hid kq; clear kq
          replace HB := Lib.hid (HB.out.setCell (p := ⟨BW, s, none⟩) (show w.heap.size ≤ BW by omega) (.int .u64 (t)))
          obtain ⟨yw302, hwyw302⟩ : ∃ ww, ww = yw301.setCell ⟨BW, s, none⟩ (.int .u64 (t)) := ⟨_, rfl⟩
          rw [← hwyw302] at M6 MX MY MW HB ⊢
          clear hwyw302
          (try simp only [sI, sS, sZ])
          refine qu (by kernel_rfl) (NoPanic.normal ?_)
          clear hwik hwx hwy hwp hwt x0 x1 y0 y1 xy0 xy1 z0
          repeat ((fail_if_success (with_reducible (show wpList _ _ _ _ _ _))); go_step)
          iterate 2 (refine wpList_step (fun K hK => ?_); go_simp; (try go_bits); refine hK _ _ ?_; clear hK K)
          refine wpList_nil ?_
          go_roundw
          case measure => simp [intOf]; omega
          case rel => (repeat apply Exists.intro); exact ⟨⟨k + 1, h2, by omega, by go_num, Hbd2, Hs2, M6.out, MX.out, MY.out, MW.out, HB.out⟩, rfl⟩
        · have hk16 : k = 16 := by omega
          subst hk16
          clear hk hkge
          have Hs2 : RowKit.Hid (qr 65536 h 34 = C + qr 65536 (dg 65536 A) (i + 1) * B) := by
           refine Lib.hid ?_
           rw [Hs.out, HsB.out]
           show _ = (C : Int) + (qr 65536 (dg 65536 A) i + dg 65536 A i * 65536 ^ i) * B
           rw [Int.add_mul]; omega
          have Hbd2 : RowKit.Hid (∀ j, j < 34 → 0 ≤ h j ∧ h j ≤ 65535 + 16 * ((i + 1 : Nat) : Int) * 4294836225) := Lib.hid (fun j hj => by have := Hbd.out j hj; omega)
          clear Hs Hbd
          repeat ((fail_if_success (with_reducible (show wpList _ _ _ _ _ _))); go_step)
          (refine wpList_step (fun K hK => ?_); go_simp; (try go_bits); refine hK _ _ ?_; clear hK K)
          refine wpList_nil ?_
          repeat ((fail_if_success (with_reducible (show wpList _ _ _ _ _ _))); go_step)
          iterate 2 (refine wpList_step (fun K hK => ?_); go_simp; (try go_bits); refine hK _ _ ?_; clear hK K)
          refine wpList_nil ?_
          go_roundw
          case measure => simp [intOf]; omega
          case rel => (repeat apply Exists.intro); exact ⟨⟨i + 1, h, by omega, by go_num, Hbd2, Hs2, M6.out, MX.out, MY.out, MW.out, HB.out⟩, rfl⟩
     · have hi16 : i = 16 := by omega
       subst hi16
       clear hi hige
       have hsum := Hs.out
       rw [HsA.out] at hsum
       obtain ⟨V, hVe⟩ : ∃ V, V = A * B + C := ⟨_, rfl⟩
       have hsV : qr 65536 h 34 = (V : Int) := by rw [hsum, hVe]; push_cast; omega
       clear Hs hsum
       have HsV := Lib.hid hsV; clear hsV
       have HVe := Lib.hid hVe; clear hVe
       repeat ((fail_if_success (with_reducible (show wpList _ _ _ _ _ _))); go_step)
       (refine wpList_step (fun K hK => ?_); go_simp; (try go_bits); refine hK _ _ ?_; clear hK K)
       refine wpList_nil ?_
       repeat ((fail_if_success (with_reducible (show wpList _ _ _ _ _ _))); go_step)
       clear MX MY
       iterate 2 (refine wpList_step (fun K hK => ?_); go_simp; (try go_bits); refine hK _ _ ?_; clear hK K)
       have gO := MW.out.lt
       refine zJ (by rfl) 86 _ _ rfl _ _ rfl rfl _ _ (mkK34 _) 70 rfl ?_
       have hb := Qc wr (.cells (row .u32 34 fun _ => 0) 91)
       have nwMO := Has.new wr (row .u32 34 fun _ => 0) 91
       obtain ⟨yw201, hwyw201⟩ : ∃ ww, ww = wr.alloc (.cells (row .u32 34 fun _ => 0) 91) := ⟨_, rfl⟩
       rw [← hwyw201] at hb nwMO ⊢
       clear hwyw201
       replace M6 := Lib.hid (M6.out.call hb)
       replace MW := Lib.hid (MW.out.call hb)
       replace HB := Lib.hid (qh HB.out hb)
       clear hb
       have MO := Lib.hid nwMO; clear nwMO
       (try simp only [Act.put, sI, sS, sZ])
       (refine wpList_step (fun K hK => ?_); go_simp; (try go_bits); refine hK _ _ ?_; clear hK K)
       refine wpList_nil ?_
       obtain ⟨BO, hBO⟩ : ∃ B, B = wr.heap.size := ⟨_, rfl⟩
       rw [← hBO] at MO gO ⊢
       clear hBO
       repeat ((fail_if_success (with_reducible (show wpList _ _ _ _ _ _))); go_step)
       (refine wpList_step (fun K hK => ?_); go_simp; (try go_bits); refine hK _ _ ?_; clear hK K)
       refine wpList_nil ?_
       repeat ((fail_if_success (with_reducible (show wpList _ _ _ _ _ _))); go_step)
       iterate 3 (refine wpList_step (fun K hK => ?_); go_simp; (try go_bits); refine hK _ _ ?_; clear hK K)
       refine wpList_nil ?_
       repeat ((fail_if_success (with_reducible (show wpList _ _ _ _ _ _))); go_step)
       obtain ⟨w3, rfl⟩ : ∃ W, W = wr := ⟨_, rfl⟩
       go_loopw [73, 15] (fun i c wr => ∃ (k : Nat) (cc : Int) (o : Nat → Int), k ≤ 34 ∧ i = .int .i64 (k : Int) ∧ c = .int .u64 cc ∧ 0 ≤ cc ∧ cc ≤ 1099511627776 ∧ RowKit.Hid (∀ j, j < 34 → 0 ≤ o j ∧ o j < 65536) ∧ RowKit.Hid (qr 65536 h k = cc * 65536 ^ k + qr 65536 o k) ∧ HasN wr (w.heap.size + 1 + 1 + 1) 32 24 ∧ Has wr BW (row .u64 34 h) 34 ∧ Has wr BO (row .u32 34 o) 91 ∧ Below w.heap.size w wr) (fun i _ _ => (34 - (intOf i).toNat))
       case atStart => exact ⟨0, 0, fun _ => 0, by omega, rfl, rfl, by omega, by omega, Lib.hid (fun j _ => ⟨Int.le_refl 0, (by decide : (0 : Int) < 65536)⟩), Lib.hid (by show (0 : Int) = 0 * 65536 ^ 0 + 0; rfl), M6.out, MW.out, MO.out, HB.out⟩
       case round =>
        clear M6 MW MO HB
        obtain ⟨k, cc, o, hk, rfl, rfl, hcc0, hcc1, Hob, Hos, m6, mW, mO, hB⟩ := hrel
        have M6 := Lib.hid m6; clear m6
        have MW := Lib.hid mW; clear mW
        have MO := Lib.hid mO; clear mO
        have HB := Lib.hid hB; clear hB
        rcases Nat.lt_or_ge k 34 with hklt | hkge
        · have kq : (k : Int) < 34 := by omega
          obtain ⟨z0, z1⟩ := Hbd.out k hklt
          have hc1 := MW.out.cell k hklt
          obtain ⟨z, hz⟩ : ∃ z, z = h k := ⟨_, rfl⟩
          rw [← hz] at z0 z1 hc1
          obtain ⟨n, hn⟩ : ∃ n, n = z + cc := ⟨_, rfl⟩
          have hst := carry16 h o k cc n Hos.out (by rw [hn, hz])
          obtain ⟨N, hN⟩ := Int.eq_ofNat_of_zero_le (show 0 ≤ n by omega)
          have hz2 : z ≤ 2199023255552 := by omega
          clear z1
          have hN2 : N < 4398046511104 := by omega
          obtain ⟨r, hr⟩ : ∃ r, r = N % 65536 := ⟨_, rfl⟩
          obtain ⟨q, hq⟩ : ∃ q, q = N / 65536 := ⟨_, rfl⟩
          have hr2 : n % 65536 = (r : Int) := by omega
          have hq2 : n / 65536 = (q : Int) := by omega
          have lr : r < 65536 := by omega
          have lq : (q : Int) ≤ 1099511627776 := by omega
          rw [hr2, hq2] at hst
          obtain ⟨o2, ho2⟩ : ∃ g, g = upd o k (r : Int) := ⟨_, rfl⟩
          rw [← ho2] at hst
          have Hob2 : RowKit.Hid (∀ j, j < 34 → 0 ≤ o2 j ∧ o2 j < 65536) := by
           refine Lib.hid (fun j hj => ?_)
           rw [ho2]; unfold upd
           by_cases e : j = k
           · rw [if_pos e]; omega
           · rw [if_neg e]; exact Hob.out j hj
          have hc2 : (wr.cell? ⟨BO, k, none⟩) = some (.int .u32 (o k)) := MO.out.cell k hklt
          have hfz := MO.out.frozen k
          have hsN : z + cc = (N : Int) := by omega
          have hand : bits .and .u64 (N : Int) 65535 = (r : Int) := by
           have h := bits_mask .u64 64 (by decide) (fun n h0 h1 => by rw [IntKind.wrap_u64]; omega) 16 (by decide) (N : Int) (by omega) (by omega)
           rw [show ((2 : Int) ^ 16 - 1) = 65535 by decide] at h
           rw [h]; omega
          have hshr : (N : Int) / 65536 = (q : Int) := by omega
          have Hst := Lib.hid hst
          clear hz hn hst hN hr hq hr2 hq2 Hob Hos
          have Ho2 := Lib.hid ho2; clear ho2
          repeat ((fail_if_success (with_reducible (show wpList _ _ _ _ _ _))); go_step)
          (refine wpList_step (fun K hK => ?_); go_simp; (try go_bits); refine hK _ _ ?_; clear hK K)
          refine wpList_nil ?_
          repeat ((fail_if_success (with_reducible (show wpList _ _ _ _ _ _))); go_step)
          iterate 5 (refine wpList_step (fun K hK => ?_); go_simp; (try go_bits); refine hK _ _ ?_; clear hK K)
          refine wpList_nil ?_
          repeat ((fail_if_success (with_reducible (show wpList _ _ _ _ _ _))); go_step)
          iterate 4 (refine wpList_step (fun K hK => ?_); go_simp; (try go_bits); refine hK _ _ ?_; clear hK K)
          refine wpList_nil ?_
          repeat ((fail_if_success (with_reducible (show wpList _ _ _ _ _ _))); go_step)
          iterate 9 (refine wpList_step (fun K hK => ?_); go_simp; (try go_bits); refine hK _ _ ?_; clear hK K)
          have kq := MO.out.set (k) ((r : Int)); rw [← Ho2.out] at kq; clear MO; have MO := Lib.hid kq; clear kq
          have kq := M6.out.other ⟨BO, k, none⟩ (.int .u32 ((r : Int))) (by simp <;> omega); clear M6; have M6 := Lib.hid kq; clear kq
          have kq := MW.out.other ⟨BO, k, none⟩ (.int .u32 ((r : Int))) (by simp <;> omega); clear MW; have MW := Lib.hid kq; clear kq
          replace HB := Lib.hid (HB.out.setCell (p := ⟨BO, k, none⟩) (show w.heap.size ≤ BO by omega) (.int .u32 ((r : Int))))
          obtain ⟨yw501, hwyw501⟩ : ∃ ww, ww = wr.setCell ⟨BO, k, none⟩ (.int .u32 ((r : Int))) := ⟨_, rfl⟩
          rw [← hwyw501] at M6 MW MO HB ⊢
          clear hwyw501
          (refine wpList_step (fun K hK => ?_); go_simp; (try go_bits); refine hK _ _ ?_; clear hK K)
          refine wpList_nil ?_
          clear hc1 hc2 hfz hand hshr hsN
          repeat ((fail_if_success (with_reducible (show wpList _ _ _ _ _ _))); go_step)
          iterate 2 (refine wpList_step (fun K hK => ?_); go_simp; (try go_bits); refine hK _ _ ?_; clear hK K)
          refine wpList_nil ?_
          go_roundw
          case measure => simp [intOf]; omega
          case rel => (repeat apply Exists.intro); exact ⟨⟨k + 1, (q : Int), o2, by omega, by go_num, rfl, by omega, lq, Hob2, Hst, M6.out, MW.out, MO.out, HB.out⟩, rfl⟩
        · have hk34 : k = 34 := by omega
          subst hk34
          clear hk hkge
          have hrow := carried V h o cc hcc0 Hob.out (by rw [HVe.out]; exact HV.out) HsV.out Hos.out
          rw [hrow] at MO
          have hfg := Has.figs MO.out
          clear hrow Hob Hos Hbd HsV MW MO
          rw [← HVe.out] at Hdi
          have Hfg := Lib.hid hfg; clear hfg
          repeat ((fail_if_success (with_reducible (show wpList _ _ _ _ _ _))); go_step)
          (refine wpList_step (fun K hK => ?_); go_simp; (try go_bits); refine hK _ _ ?_; clear hK K)
          refine wpList_nil ?_
          repeat ((fail_if_success (with_reducible (show wpList _ _ _ _ _ _))); go_step)
          (refine wpList_step (fun K hK => ?_); go_simp; (try go_bits); refine hK _ _ ?_; clear hK K)
          refine qm (by rfl) rfl rfl (by rfl) ent69 (by rfl) (Hdi.out BO _ Hfg.out) 91 rfl ?_
          rintro e uw501 ⟨rfl, hb⟩
          replace M6 := Lib.hid (M6.out.call hb)
          replace HB := Lib.hid (qh HB.out hb)
          refine ⟨_, rfl, ?_⟩
          clear hb
          (try simp only [Act.put, sI, sS, sZ])
          first | (obtain ⟨Zq, hZ, mZ⟩ := M6.out) | (obtain ⟨Zq, hZ, mZ⟩ := M6.out.toN (qf ..))
          refine ql (by rfl) 24 _ _ rfl rfl (w.heap.size + 1 + 1 + 1) (k32 (V % L0)) rfl rfl 24 Zq mZ (by rw [qf]; kernel_rfl) (hZ.trans (qf ..).symm) (qp _ _ _) ?_
          intro yw501 hw2
          replace M6 := Lib.hid (mZ.setRow (k32 (V % L0)))
          replace HB := Lib.hid (below_setRow HB.out (w.heap.size + 1 + 1 + 1) (k32 (V % L0)) (by omega))
          rw [← hw2] at M6 HB; clear mZ hZ hw2
          refine wpList_nil ?_
          go_wp2_with fail
          exact bodyPost_ret (v := .agg (k32 (V % L0))) (results_cell_row (t := 24) (by rfl) _ _ (w.heap.size + 1 + 1 + 1) _ _ _ rfl M6.out Try.underlying24 rfl (by rw [qf]; kernel_rfl)) rfl ⟨by rw [HVe.out], HB.out⟩
end
section
open Go.RowKit Go.Sx
theorem pg {g : FuncId} {vs : Array Value} {w : World} {p : Fin PP × Fin PP} (h : Calls Try.prog g vs w (PtG p w)) : Calls Try.prog g vs w fun e w' => ∃ x : Nat × Nat × Nat × Bool, PtA x.1 x.2.1 x.2.2.1 x.2.2.2 p ∧ e = .returned (.agg (pt x.1 x.2.1 x.2.2.1 x.2.2.2)) ∧ Below w.heap.size w w' :=
 h.mono fun e w' ⟨x, y, z, b, h1, h2, h3⟩ => ⟨(x, y, z, b), h1, h2, h3⟩
theorem qF (n : Nat) : (k32 n).toList.all (·.oneCell') = true := by rw [zl]; exact QS _
def resN (bs : List UInt8) : Nat := leN (zt bs) % L0
theorem qbl (w : World) (v : Value) (bs : List UInt8) (h : Parts w v bs) (hn : bs.length ≤ 1000000) : Calls Try.prog 99 ([v] : List Value).toArray w fun e w' => e = .returned (.agg (k32 (resN bs))) ∧ Below w.heap.size w w' := by
 have hlen := zL bs
 refine q9 qi Try.func99 rfl Try.ntmps99 rfl (St.start w) ?_
 intro b2
 refine cvs (fun w' hs => long_p (h.below hs.below) hn) ?_
 unfold resN
 generalize zt bs = D at *
 have hl : (Lib.byteCells D).length = 64 := by rw [Lib.byteCells_length, hlen]
 intro b3
 refine sN 1 rfl (by simp [hl]) (QS D) ?_ (by kernel_rfl)
 refine ⟨.mk 0 64 64 rfl rfl rfl (by decide) (by decide) (by decide) (by simp) (.on (by decide) ?_)⟩
 refine cvs (v := .tuple #[.agg (k32 (leN D % L0)), .bool true]) (fun w' hs => ?_) ?_
 · have hrd : Rd w' (.slice (some ⟨b3, 0, none⟩) 64 64) (Lib.byteCells D) := Rd.ent hs 1 rfl hl.symm (by rw [List.drop_zero, List.take_of_length_le (by simpa using Nat.le_of_eq hl)])
   obtain ⟨a, c, hv, hb⟩ := byts_of hrd
   rw [hlen] at hv hb
   injection hv with h1 h2 h3
   subst h1 h3
   exact residue_any _ 64 64 (leN D) (by decide) (by rw [← hlen]; exact qaw D) w' hb
 intro b4
 refine sN 2 rfl (by rw [qf]; rfl) (qF _) ?_ (by kernel_rfl)
 refine ldN 2 rfl (qf _) ?_
 refine sN 0 rfl (by rw [qf]; rfl) (qF _) ?_ (by kernel_rfl)
 refine ldN 0 rfl (qf _) ?_
 exact rt rfl
theorem und123 : Try.prog.underlying 123 = some (.slice 22) := by kernel_rfl
theorem info_sl : (Try.prog.info? 22).map (fun i => (i.zero, i.size, i.bytes)) = some (some (.slice none 0 0), 1, 24) := by kernel_rfl
theorem Zw (a : Option Addr) (l c : Nat) (w : World) : (Instr.buildSlice 123 1 #[(0, .slice a l c)]).run Try.prog w = .ok (.slice (some ⟨w.heap.size, 0, none⟩) 1 1) (w.alloc (.cells #[.slice a l c] 22)) := by
 obtain ⟨i, hi, hz, hs, hb⟩ := zm info_sl
 exact run_buildSlice w _ _ 1 _ #[.slice a l c] i (.slice none 0 0) und123 hi hz (by rw [hs]; decide) (by rw [hs]; decide) (by rw [hs]; kernel_rfl)
theorem bss2 (a a2 : Option Addr) (l c l2 c2 : Nat) (w : World) : (Instr.buildSlice 123 2 #[(0, .slice a l c), (1, .slice a2 l2 c2)]).run Try.prog w = .ok (.slice (some ⟨w.heap.size, 0, none⟩) 2 2) (w.alloc (.cells #[.slice a l c, .slice a2 l2 c2] 22)) := by
 obtain ⟨i, hi, hz, hs, hb⟩ := zm info_sl
 exact run_buildSlice w _ _ 2 _ #[.slice a l c, .slice a2 l2 c2] i (.slice none 0 0) und123 hi hz (by rw [hs]; decide) (by rw [hs]; decide) (by rw [hs]; kernel_rfl)
theorem bss3 (a a2 a3 : Option Addr) (l c l2 c2 l3 c3 : Nat) (w : World) : (Instr.buildSlice 123 3 #[(0, .slice a l c), (1, .slice a2 l2 c2), (2, .slice a3 l3 c3)]).run Try.prog w = .ok (.slice (some ⟨w.heap.size, 0, none⟩) 3 3) (w.alloc (.cells #[.slice a l c, .slice a2 l2 c2, .slice a3 l3 c3] 22)) := by
 obtain ⟨i, hi, hz, hs, hb⟩ := zm info_sl
 exact run_buildSlice w _ _ 3 _ #[.slice a l c, .slice a2 l2 c2, .slice a3 l3 c3] i (.slice none 0 0) und123 hi hz (by rw [hs]; decide) (by rw [hs]; decide) (by rw [hs]; kernel_rfl)
theorem QA {M : Bks} {B w : World} {L : List Ent} (hs : St M B w L) (k : Nat) {b n : Nat} {t : TypeId} {fz : Nat × Nat} {ro : Bool} (hk : L[k]? = some ⟨b, some (.cells (k32 n) t fz), ro, none⟩) : Rd w (.slice (some ⟨b, 0, none⟩) 32 32) (Lib.byteCells (qC n)) := by
 have hl : (Lib.byteCells (qC n)).length = 32 := by rw [Lib.byteCells_length, qo]
 rw [zl] at hk
 exact Rd.ent hs k hk hl.symm (by rw [List.drop_zero, List.take_of_length_le (by simpa using Nat.le_of_eq hl)])
def zr (a p : Nat) (bs : List UInt8) : Nat := resN (qC a ++ qC p ++ bs)
theorem chal_any (w : World) (a p : Nat) (v : Value) (bs : List UInt8) (hrd : Rd w v (Lib.byteCells bs)) (hn : bs.length ≤ 100000) : Calls Try.prog 100 ([.agg (k32 a), .agg (k32 p), v] : List Value).toArray w fun e w' => e = .returned (.agg (k32 (zr a p bs))) ∧ Below w.heap.size w w' := by
 have hrd0 := hrd
 obtain ⟨va, vc, hv, _⟩ := hrd0
 rw [Lib.byteCells_length] at hv
 refine q9 qi Try.func100 rfl Try.ntmps100 rfl (St.start w) ?_
 intro b3 b4 b6
 refine drs [] [5] (.t 0 (.t 1 (.t 2 (.n 3 (.n 4 (.n 5 .nil)))))) qi qq (by kernel_rfl) .nil ?_
 refine ⟨.mk 0 32 32 rfl rfl rfl (by decide) (by decide) (by decide) (by simp) (.on (by decide) ?_)⟩
 refine ⟨.mk 0 32 32 rfl rfl rfl (by decide) (by decide) (by decide) (by simp) (.on (by decide) ?_)⟩
 rw [hv]
 refine .mk #[.slice (some ⟨b3, 0, none⟩) 32 32, .slice (some ⟨b4, 0, none⟩) 32 32, .slice va bs.length vc] 22 (fun w => bss3 _ _ _ _ _ _ _ _ _ w) (fun bn => ?_)
 refine ⟨.nil, ?_⟩
 refine cvs (v := .agg (k32 (zr a p bs))) (fun w' hs => qbl w' _ (qC a ++ qC p ++ bs) (Parts.made hs 3 [Lib.byteCells (qC a), Lib.byteCells (qC p), Lib.byteCells bs] 3 rfl rfl rfl (by simp [Lib.byteCells_append]) (fun i u xs hu hx => ?_) (by simp)) (by simp [qo]; omega)) ?_
 · match i, hu, hx with
   | 0, hu, hx => simp at hu hx; subst hu hx; exact QA hs 0 rfl
   | 1, hu, hx => simp at hu hx; subst hu hx; exact QA hs 1 rfl
   | 2, hu, hx => simp at hu hx; subst hu hx; rw [← hv]; exact hrd.below hs.below
 refine ⟨.nil, ?_⟩
 refine sN 2 rfl (by rw [qf]; rfl) (qF _) ?_ (by kernel_rfl)
 refine ldN 2 rfl (qf _) ?_
 exact rt rfl
end
section
open Go.RowKit Go.Sx
theorem an7_dec : ∀ c < 256, Zt .andNot .u8 ((c : Nat) : Int) 7 = ((c - c % 8 : Nat) : Int) := by decide +kernel
theorem an128_dec : ∀ c < 256, Zt .andNot .u8 ((c : Nat) : Int) 128 = ((c % 128 : Nat) : Int) := by decide +kernel
theorem or64_dec : ∀ c < 128, Zt .or .u8 ((c : Nat) : Int) 64 = ((c % 64 + 64 : Nat) : Int) := by decide +kernel
def ZF (l : List UInt8) : List UInt8 := (l.set 0 (UInt8.ofNat ((l.getD 0 0).toNat - (l.getD 0 0).toNat % 8))).set 31 (UInt8.ofNat ((l.getD 31 0).toNat % 64 + 64))
theorem qdf (l : List UInt8) : (ZF l).length = l.length := by simp [ZF]
def ZH (n : Nat) : List UInt8 := ZF ((zt (qC n)).take 32)
def ZA (n : Nat) : Nat := leN (ZH n)
def qa0 (n : Nat) : List UInt8 := (zt (qC n)).drop 32
theorem qao (n : Nat) : (ZH n).length = 32 := by unfold ZH; rw [qdf, List.length_take, zL]; rfl
theorem qaI (n : Nat) : (qa0 n).length = 32 := by unfold qa0; rw [List.length_drop, zL]
theorem qbn (n : Nat) : ZA n < 115792089237316195423570985008687907853269984665640564039457584007913129639936 := by
 have := qaw (ZH n)
 rw [qao] at this
 exact this
def qch (n : Nat) : Fin PP × Fin PP := qX qP fd gG (ZA n)
def Ql (n : Nat) : Nat := Z0 (qch n)
def sgC (s p : List Value) (v : Value) : Array Value := (s ++ p ++ [v]).toArray
theorem sg_set0 (s p : List Value) (v x : Value) (i : Nat) (hi : i < s.length) : (sgC s p v).setIfInBounds i x = sgC (s.set i x) p v := by
 unfold sgC; rw [List.setIfInBounds_toArray, List.append_assoc, List.set_append_left _ _ hi, List.append_assoc]
theorem sg_put0 (s p d : List Value) (v : Value) (hs : s.length = 32) (hd : d.length = 32) : ((sgC s p v).toList.take 0 ++ d.toArray.toList ++ (sgC s p v).toList.drop (0 + d.toArray.size)).toArray = sgC d p v := by
 unfold sgC
 simp [hd, hs]
theorem sg_put1 (s p d : List Value) (v : Value) (hs : s.length = 32) (hp : p.length = 32) (hd : d.length = 32) : ((sgC s p v).toList.take 32 ++ d.toArray.toList ++ (sgC s p v).toList.drop (32 + d.toArray.size)).toArray = sgC s d v := by
 unfold sgC
 have h1 : (s ++ p ++ [v]).take 32 = s := by rw [List.append_assoc, List.take_left' hs]
 have h2 : (s ++ p ++ [v]).drop (32 + 32) = [v] := List.drop_left' (by rw [List.length_append, hs, hp])
 simp only [List.size_toArray, hd, h1, h2]
theorem qaH (s p : List Value) (v : Value) : (sgC s p v).size = s.length + p.length + 1 := by simp [sgC]; omega
theorem sg_set2 (s p : List Value) (v x : Value) (hs : s.length = 32) (hp : p.length = 32) : (sgC s p v).setIfInBounds 64 x = sgC s p x := by
 unfold sgC; rw [List.setIfInBounds_toArray, List.set_append_right _ _ (by rw [List.length_append]; omega), List.length_append, hs, hp]; rfl
theorem sg_at (l : List UInt8) (p : List Value) (v : Value) (i : Nat) (hi : i < l.length) : (sgC (Lib.byteCells l) p v)[i]? = some (.int .u8 (l.getD i 0).toNat) := by
 unfold sgC
 rw [List.getElem?_toArray, List.append_assoc, List.getElem?_append_left (by rw [Lib.byteCells_length]; exact hi), qaD l i hi]
theorem sg_setb (l : List UInt8) (p : List Value) (v : Value) (i : Nat) (hi : i < l.length) (b : UInt8) (x : Int) (hx : x = b.toNat) : (sgC (Lib.byteCells l) p v).setIfInBounds i (.int .u8 x) = sgC (Lib.byteCells (l.set i b)) p v := by
 rw [hx, sg_set0 _ _ _ _ _ (by rw [Lib.byteCells_length]; exact hi)]
 unfold Lib.byteCells; rw [List.map_set]
theorem sg_x0 (s p : List Value) (v : Value) (hs : s.length = 32) : (sgC s p v).extract 0 (0 + 32) = s.toArray := by
 unfold sgC; rw [List.append_assoc]; simp [hs]
theorem sg_x1 (s p : List Value) (v : Value) (hs : s.length = 32) (hp : p.length = 32) : (sgC s p v).extract 32 (32 + 32) = p.toArray := by
 unfold sgC
 apply Array.ext'
 simp only [List.extract_toArray, List.extract_eq_take_drop, List.append_assoc, List.drop_left' hs]
 exact List.take_left' hp
theorem bytes_set (l : List UInt8) (i : Nat) (b : UInt8) : (Lib.byteCells l).set i (.int .u8 b.toNat) = Lib.byteCells (l.set i b) := by unfold Lib.byteCells; rw [List.map_set]
theorem sof_any (n : Nat) (w : World) : Calls Try.prog 95 ([.agg (k32 n)] : List Value).toArray w fun e w' => ∃ b, e = .returned (.agg (sgC (Lib.byteCells (ZH n)) (Lib.byteCells (qC (Ql n))) (.slice (some ⟨b, 32, none⟩) 32 32))) ∧ w.heap.size ≤ b ∧ w'.heap[b]? = some (.cells (Lib.byteCells (zt (qC n))).toArray 74 (0, 0)) ∧ Below w.heap.size w w' := by
 have hlen := zL (qC n)
 have hm := fun x y z b h w => pg (g_many x y z (ZA n) b gG h (qbn n) w)
 have hk := fun x y z b h w => g_key x y z b (qch n) h w
 have hsl := qao n
 have hsN : k32 (ZA n) = (Lib.byteCells (ZH n)).toArray := (Q9 _ hsl).symm
 have hkp : k32 (Z0 (qch n)) = (Lib.byteCells (qC (Ql n))).toArray := zl _
 refine (enter qi Try.func95 rfl Try.ntmps95 rfl (St.start w) (R := fun v w' => ∃ b, v = .agg (sgC (Lib.byteCells (ZH n)) (Lib.byteCells (qC (Ql n))) (.slice (some ⟨b, 32, none⟩) 32 32)) ∧ w.heap.size ≤ b ∧ w'.heap[b]? = some (.cells (Lib.byteCells (zt (qC n))).toArray 74 (0, 0)) ∧ Below w.heap.size w w') ?_).mono (fun e w' ⟨v, he, r, hv, h⟩ => ⟨r, by rw [he, hv], h⟩)
 intro b1 b2
 refine ⟨.mk 0 32 32 rfl rfl rfl (by decide) (by decide) (by decide) (by simp) (.on (by decide) ?_)⟩
 refine .mk #[.slice (some ⟨b1, 0, none⟩) 32 32] 22 (fun w => Zw _ _ _ w) (fun bn => ?_)
 refine cvs (v := Qr (zt (qC n))) (fun w' hs => long_p (Parts.made hs 2 [Lib.byteCells (qC n)] 1 rfl rfl rfl (by simp) (fun i u xs hu hx => ?_) (by simp)) (by rw [qo]; decide)) ?_
 · match i, hu, hx with
   | 0, hu, hx => simp at hu hx; subst hu hx; exact QA hs 0 rfl
 have hse : ZH n = ZF ((zt (qC n)).take 32) := rfl
 generalize zt (qC n) = D at *
 have hl : (Lib.byteCells D).length = 64 := by rw [Lib.byteCells_length, hlen]
 intro b3
 refine sN 3 rfl (by simp [hl]) (QS D) ?_ (by kernel_rfl)
 obtain ⟨H, hH⟩ : ∃ H, H = D.take 32 := ⟨_, rfl⟩
 have hHl : H.length = 32 := by rw [hH, List.length_take, hlen]; rfl
 have hHc : (Lib.byteCells H).length = 32 := by rw [Lib.byteCells_length, hHl]
 have hx : (Lib.byteCells D).toArray.extract 0 32 = (Lib.byteCells H).toArray := by
  rw [hH]; simp [Lib.byteCells, List.map_take]
 refine drs [dead, dead, dead, cl b3 (Lib.byteCells D).toArray 74] [7] (.t 0 (.t 1 (.t 2 (.t 3 (.t 4 (.n 5 (.t 6 (.n 7 .nil)))))))) qi qq (by kernel_rfl) (.dead (.dead (.dead (.cons .nil)))) ?_
 refine ⟨.mk 0 32 64 rfl rfl rfl (by decide) (by decide) (by decide) (by simp) (.on (by decide) ?_)⟩
 refine ⟨by decide, ?_⟩
 refine ldP 3 rfl (d := (Lib.byteCells H).toArray) (by simpa using hHc) hx ?_
 refine ⟨.mk 32 64 64 rfl rfl rfl (by decide) (by decide) (by decide) (by simp) (.on (by decide) ?_)⟩
 have hz : (List.replicate 32 (Value.int .u8 0)).length = 32 := by simp
 refine sP 1 (o := 0) (c := sgC (List.replicate 32 (.int .u8 0)) (List.replicate 32 (.int .u8 0)) (.slice none 0 0)) (d := (Lib.byteCells H).toArray) rfl (by rw [qaH]; simp [hHc]) (QS _) (sg_put0 _ _ _ _ hz hHc) ?_ (by rw [show (Lib.byteCells H).toArray.size = 32 by simpa using hHc]; kernel_rfl)
 refine ⟨.dead (.dead (.dead (.cons .nil))), ?_⟩
 obtain ⟨p0, hp0⟩ : ∃ p0, p0 = List.replicate 32 (Value.int .u8 0) := ⟨_, rfl⟩
 rw [← hp0] at hz
 have hsz : ∀ (l : List UInt8) (p : List Value) (v : Value) (i : Nat), l.length = 32 → i < 64 → p.length = 32 → i < (sgC (Lib.byteCells l) p v).size := fun l p v i h1 h2 h3 => by rw [qaH, Lib.byteCells_length]; omega
 refine s1e 1 (sgC (Lib.byteCells H) p0 (.slice (some ⟨b3, 32, none⟩) 32 32)) rfl (by rw [qaH, hHc]; decide) (by rw [hp0]; exact sg_set2 _ _ _ _ hHc (by simp)) ?_
 have hb0 := (H.getD 0 0).toNat_lt
 refine ⟨by decide, by decide, ld1 1 rfl (sg_at H _ _ 0 (by omega)) ?_⟩
 have e0 : Zt .andNot .u8 ((H.getD 0 0).toNat : Int) 7 = ((UInt8.ofNat ((H.getD 0 0).toNat - (H.getD 0 0).toNat % 8)).toNat : Int) := by rw [an7_dec _ hb0, UInt8.toNat_ofNat']; omega
 refine ⟨by decide, by decide, s1e 1 _ rfl (hsz _ _ _ _ hHl (by decide) hz) (sg_setb H _ _ 0 (by omega) _ _ e0) ?_⟩
 generalize hx0 : UInt8.ofNat ((H.getD 0 0).toNat - (H.getD 0 0).toNat % 8) = x0
 have h31 : (H.set 0 x0).getD 31 0 = H.getD 31 0 := by simp [List.getD]
 have hb1 := (H.getD 31 0).toNat_lt
 have hl1 : (H.set 0 x0).length = 32 := by simp [hHl]
 refine ⟨by decide, by decide, ld1 1 rfl (sg_at (H.set 0 x0) _ _ 31 (by omega)) ?_⟩
 rw [h31]
 have e1 : Zt .andNot .u8 ((H.getD 31 0).toNat : Int) 128 = ((UInt8.ofNat ((H.getD 31 0).toNat % 128)).toNat : Int) := by rw [an128_dec _ hb1, UInt8.toNat_ofNat']; omega
 refine ⟨by decide, by decide, s1e 1 _ rfl (hsz _ _ _ _ hl1 (by decide) hz) (sg_setb (H.set 0 x0) _ _ 31 (by omega) _ _ e1) ?_⟩
 have hl2 : ((H.set 0 x0).set 31 (UInt8.ofNat ((H.getD 31 0).toNat % 128))).length = 32 := by simp [hHl]
 have h32 : ((H.set 0 x0).set 31 (UInt8.ofNat ((H.getD 31 0).toNat % 128))).getD 31 0 = UInt8.ofNat ((H.getD 31 0).toNat % 128) := by simp [List.getD, hHl]
 refine ⟨by decide, by decide, ld1 1 rfl (sg_at _ _ _ 31 (by omega)) ?_⟩
 rw [h32]
 have e2 : Zt .or .u8 ((UInt8.ofNat ((H.getD 31 0).toNat % 128)).toNat : Int) 64 = ((UInt8.ofNat ((H.getD 31 0).toNat % 64 + 64)).toNat : Int) := by
  rw [UInt8.toNat_ofNat', UInt8.toNat_ofNat', Nat.mod_eq_of_lt (by omega), or64_dec _ (Nat.mod_lt _ (by decide))]; omega
 refine ⟨by decide, by decide, s1e 1 (sgC (Lib.byteCells (ZH n)) p0 (.slice (some ⟨b3, 32, none⟩) 32 32)) rfl (hsz _ _ _ _ hl2 (by decide) hz) (by refine (sg_setb _ _ _ 31 (by omega) _ _ e2).trans ?_; rw [List.set_set, hse, ← hH, ZF, hx0]) ?_⟩
 have hsc : (Lib.byteCells (ZH n)).length = 32 := by rw [Lib.byteCells_length, hsl]
 have hpc : (Lib.byteCells (qC (Ql n))).length = 32 := by rw [Lib.byteCells_length, qo]
 refine drs [dead, cl b2 (sgC (Lib.byteCells (ZH n)) p0 (.slice (some ⟨b3, 32, none⟩) 32 32)) 119] [6] (.t 1 (.t 2 (.n 0 (.n 3 (.n 4 (.t 5 (.n 6 .nil))))))) qi qq (by kernel_rfl) (.dead (.cons .nil)) ?_
 refine ldP 1 rfl (d := k32 (ZA n)) (qf _) (by rw [hsN]; exact sg_x0 _ _ _ hsc) ?_
 refine ce (fun w _ => pg (g_gen w)) (fun g hg => ?_)
 refine ⟨.dead (.cons .nil), ?_⟩
 refine ce (fun w _ => hm _ _ _ _ hg w) (fun q hq => ?_)
 refine ⟨.dead (.cons .nil), ?_⟩
 refine cv (fun w => hk _ _ _ _ hq w) ?_
 refine ⟨.dead (.cons .nil), ?_⟩
 rw [hkp]
 refine sP 1 (o := 32) (c := sgC (Lib.byteCells (ZH n)) p0 (.slice (some ⟨b3, 32, none⟩) 32 32)) (d := (Lib.byteCells (qC (Ql n))).toArray) rfl (by rw [qaH, hsc, hz, List.size_toArray, hpc]; decide) (QS _) (sg_put1 _ _ _ _ hsc hz hpc) ?_ (by rw [List.size_toArray, hpc]; kernel_rfl)
 have hone : (sgC (Lib.byteCells (ZH n)) (Lib.byteCells (qC (Ql n))) (.slice (some ⟨b3, 32, none⟩) 32 32)).toList.all (·.oneCell') = true := by
  simp [sgC, Lib.byteCells, Value.oneCell']
 have hsz2 : (sgC (Lib.byteCells (ZH n)) (Lib.byteCells (qC (Ql n))) (.slice (some ⟨b3, 32, none⟩) 32 32)).size = 65 := by rw [qaH, hsc, hpc]
 refine ldN 1 rfl hsz2 ?_
 refine sN 1 rfl rfl hone ?_ (by rw [hsz2]; kernel_rfl)
 refine ldN 1 rfl hsz2 ?_
 exact ⟨fun w1 hs => ⟨b3, rfl, (hs.own _ (List.mem_of_getElem? (i := 3) rfl) rfl rfl).resolve_right (by simp), hs.nth (k := 3) rfl, hs.below⟩⟩
end
section
open Go.RowKit Go.Sx
theorem Zk (n : Nat) (w : World) : Calls Try.prog 61 ([.agg (k32 n)] : List Value).toArray w fun e w' => e = .returned (.agg (k32 (Ql n))) ∧ Below w.heap.size w w' := by
 have hsc : (Lib.byteCells (ZH n)).length = 32 := by rw [Lib.byteCells_length, qao]
 have hpc : (Lib.byteCells (qC (Ql n))).length = 32 := by rw [Lib.byteCells_length, qo]
 refine q9 qi Try.func61 rfl Try.ntmps61 rfl (St.start w) ?_
 intro b1 b2
 refine ldN 0 rfl (qf _) ?_
 refine cn (fun w _ => sof_any n w) (fun b => ?_)
 refine .row (k32 (Ql n)) rfl (by rw [zl]; exact sg_x1 _ _ _ hsc hpc) ?_
 refine sN 1 rfl (by rw [qf]; rfl) (qF _) ?_ (by kernel_rfl)
 refine ldN 1 rfl (qf _) ?_
 exact rt rfl
def qbR (n : Nat) (bs : List UInt8) : Nat := resN (qa0 n ++ bs)
def firP (n : Nat) (bs : List UInt8) : Fin PP × Fin PP := qX qP fd gG (qbR n bs)
def Zv (n : Nat) (bs : List UInt8) : Nat := Z0 (firP n bs)
def qan (n : Nat) (bs : List UInt8) : Nat := (zr (Zv n bs) (Ql n) bs * ZA n + qbR n bs) % L0
def zK (n : Nat) (bs : List UInt8) : List UInt8 := qC (Zv n bs) ++ qC (qan n bs)
theorem L0_lt : L0 < 115792089237316195423570985008687907853269984665640564039457584007913129639936 := by decide +kernel
theorem ZT (bs : List UInt8) : resN bs < 115792089237316195423570985008687907853269984665640564039457584007913129639936 := Nat.lt_trans (Nat.mod_lt _ (by decide +kernel)) L0_lt
theorem qbm (n : Nat) (v : Value) (bs : List UInt8) (w : World) (h : Parts w v bs) (hn : bs.length ≤ 10000) : Calls Try.prog 64 ([.agg (k32 n), v] : List Value).toArray w fun e w' => e = .returned (Qr (zK n bs)) ∧ Below w.heap.size w w' := by
 have hsc : (Lib.byteCells (ZH n)).length = 32 := by rw [Lib.byteCells_length, qao]
 have hpc : (Lib.byteCells (qC (Ql n))).length = 32 := by rw [Lib.byteCells_length, qo]
 have hm := fun x y z b h w => pg (g_many x y z (qbR n bs) b gG h (ZT _) w)
 have hk := fun x y z b h w => g_key x y z b (firP n bs) h w
 have hsal := qaI n
 refine q9 qi Try.func64 rfl Try.ntmps64 rfl (St.start w) ?_
 intro b2 b4
 refine ldN 0 rfl (qf _) ?_
 refine cn (fun w _ => sof_any n w) (fun b => ?_)
 refine co (fun w' hs => qbH (h.below hs.below) (by omega)) (fun r hr => ?_)
 intro b5
 have hone : (sgC (Lib.byteCells (ZH n)) (Lib.byteCells (qC (Ql n))) (.slice (some ⟨b, 32, none⟩) 32 32)).toList.all (·.oneCell') = true := by
  simp [sgC, Lib.byteCells, Value.oneCell']
 have hsz2 : (sgC (Lib.byteCells (ZH n)) (Lib.byteCells (qC (Ql n))) (.slice (some ⟨b, 32, none⟩) 32 32)).size = 65 := by rw [qaH, hsc, hpc]
 refine sN 4 rfl (by rw [hsz2]; rfl) hone ?_ (by rw [hsz2]; kernel_rfl)
 obtain ⟨sa, sc, hsv⟩ := qcB hr
 rw [hsv]
 refine ld1 4 rfl (v := .slice (some ⟨b, 32, none⟩) 32 32) (by unfold sgC; rw [List.getElem?_toArray, List.getElem?_append_right (by rw [List.length_append, hsc, hpc]; decide), List.length_append, hsc, hpc]; rfl) ?_
 refine .mk #[.slice (some ⟨b, 32, none⟩) 32 32, .slice sa bs.length sc] 22 (fun w => bss2 _ _ _ _ _ _ w) (fun bn => ?_)
 refine cvs (v := .agg (k32 (qbR n bs))) (fun w' hs => qbl w' _ (qa0 n ++ bs) (Parts.made hs 5 [Lib.byteCells (qa0 n), Lib.byteCells bs] 2 rfl rfl rfl (by simp [Lib.byteCells_append]) (fun i u xs hu hx => ?_) (by simp)) (by rw [List.length_append, hsal]; omega)) ?_
 · match i, hu, hx with
   | 0, hu, hx =>
    simp at hu hx; subst hu hx
    exact Rd.ent hs 2 rfl (by rw [Lib.byteCells_length, hsal]) (by rw [List.take_of_length_le (by rw [List.length_drop, Lib.byteCells_length, zL]; decide)]; unfold qa0 Lib.byteCells; rw [List.map_drop])
   | 1, hu, hx =>
    simp at hu hx; subst hu hx
    rw [← hsv]; exact Rd.own hs 3 rfl hr
 intro b7
 refine sN 6 rfl (by rw [qf]; rfl) (qF _) ?_ (by kernel_rfl)
 refine cut (α := Nat) (fun _ => True) (fun b8 => ⟨[(4, ptr b4), (5, ptr b5), (6, .slice sa bs.length sc), (7, ptr b7), (8, ptr b8)], [dead, cl b4 (List.replicate 64 (Value.int .u8 0)).toArray 74, dead, se r (Lib.byteCells bs) 5, cl b5 (sgC (Lib.byteCells (ZH n)) (Lib.byteCells (qC (Ql n))) (.slice (some ⟨b, 32, none⟩) 32 32)) 119, dead, cl b7 (k32 (qbR n bs)) 24, cl b8 (k32 (Zv n bs)) 24], []⟩) ?_ ?_
 · refine drs [dead, dead, dead, dead, dead, dead, cl b7 (k32 (qbR n bs)) 24] [5] (.t 1 (.b 0 4 (.b 2 4 (.b 3 4 (.n 4 (.n 5 .nil)) (.n 3 (.n 5 .nil))) (.n 2 (.n 3 (.n 5 .nil)))) (.n 0 (.n 2 (.n 3 (.n 5 .nil)))))) qi qq (by kernel_rfl) (.dead (.dead (.dead (.dead (.dead (.dead (.cons .nil))))))) ?_
   refine ldN 6 rfl (qf _) ?_
   refine ⟨?_, ?_⟩
   · refine ce (fun w _ => pg (g_gen w)) (fun g hg => ?_)
     refine ⟨(.dead (.dead (.dead (.dead (.dead (.dead (.cons .nil))))))), ?_⟩
     refine ⟨?_, ?_⟩
     · refine ce (fun w _ => hm _ _ _ _ hg w) (fun q hq => ?_)
       refine ⟨(.dead (.dead (.dead (.dead (.dead (.dead (.cons .nil))))))), ?_⟩
       refine ⟨?_, ?_⟩
       · refine cv (fun w => hk _ _ _ _ hq w) ?_
         refine ⟨(.dead (.dead (.dead (.dead (.dead (.dead (.cons .nil))))))), ?_⟩
         intro b8
         refine ⟨(.dead (.dead (.dead (.dead (.dead (.dead (.cons .nil))))))), ?_⟩
         refine sN 7 rfl (by rw [qf]; rfl) (qF _) ?_ (by kernel_rfl)
         exact ⟨b8, trivial, ⟨rfl, rfl, rfl, rfl, rfl, trivial⟩, .dead (.cons (.dead (.cons (.cons (.dead (.cons (.cons .nil))))))), rfl⟩
       · intro b8
         refine ⟨(.dead (.dead (.dead (.dead (.dead (.dead (.cons .nil))))))), ?_⟩
         refine cv (fun w => hk _ _ _ _ hq w) ?_
         refine ⟨(.dead (.dead (.dead (.dead (.dead (.dead (.cons .nil))))))), ?_⟩
         refine sN 7 rfl (by rw [qf]; rfl) (qF _) ?_ (by kernel_rfl)
         exact ⟨b8, trivial, ⟨rfl, rfl, rfl, rfl, rfl, trivial⟩, .dead (.cons (.dead (.cons (.cons (.dead (.cons (.cons .nil))))))), rfl⟩
     · intro b8
       refine ⟨(.dead (.dead (.dead (.dead (.dead (.dead (.cons .nil))))))), ?_⟩
       refine ce (fun w _ => hm _ _ _ _ hg w) (fun q hq => ?_)
       refine ⟨(.dead (.dead (.dead (.dead (.dead (.dead (.cons .nil))))))), ?_⟩
       refine cv (fun w => hk _ _ _ _ hq w) ?_
       refine ⟨(.dead (.dead (.dead (.dead (.dead (.dead (.cons .nil))))))), ?_⟩
       refine sN 7 rfl (by rw [qf]; rfl) (qF _) ?_ (by kernel_rfl)
       exact ⟨b8, trivial, ⟨rfl, rfl, rfl, rfl, rfl, trivial⟩, .dead (.cons (.dead (.cons (.cons (.dead (.cons (.cons .nil))))))), rfl⟩
   · intro b8
     refine ⟨(.dead (.dead (.dead (.dead (.dead (.dead (.cons .nil))))))), ?_⟩
     refine ce (fun w _ => pg (g_gen w)) (fun g hg => ?_)
     refine ⟨(.dead (.dead (.dead (.dead (.dead (.dead (.cons .nil))))))), ?_⟩
     refine ce (fun w _ => hm _ _ _ _ hg w) (fun q hq => ?_)
     refine ⟨(.dead (.dead (.dead (.dead (.dead (.dead (.cons .nil))))))), ?_⟩
     refine cv (fun w => hk _ _ _ _ hq w) ?_
     refine ⟨(.dead (.dead (.dead (.dead (.dead (.dead (.cons .nil))))))), ?_⟩
     refine sN 7 rfl (by rw [qf]; rfl) (qF _) ?_ (by kernel_rfl)
     exact ⟨b8, trivial, ⟨rfl, rfl, rfl, rfl, rfl, trivial⟩, .dead (.cons (.dead (.cons (.cons (.dead (.cons (.cons .nil))))))), rfl⟩
 · intro b8 _
   refine drs [dead, dead, dead, se r (Lib.byteCells bs) 5, cl b5 (sgC (Lib.byteCells (ZH n)) (Lib.byteCells (qC (Ql n))) (.slice (some ⟨b, 32, none⟩) 32 32)) 119, dead, cl b7 (k32 (qbR n bs)) 24, cl b8 (k32 (Zv n bs)) 24] [10] (.t 0 (.t 1 (.t 2 (.t 3 (.t 4 (.t 5 (.t 6 (.t 7 (.t 8 (.n 9 (.n 10 .nil))))))))))) qi qq (by kernel_rfl) (.dead (.dead (.dead (.cons (.cons (.dead (.cons (.cons .nil)))))))) ?_
   refine ldN 7 rfl (qf _) ?_
   refine ldP 4 rfl (d := k32 (Ql n)) (qf _) (by rw [zl]; exact sg_x1 _ _ _ hsc hpc) ?_
   refine czs (fun w' hs => chal_any w' (Zv n bs) (Ql n) _ bs (by rw [← hsv]; exact Rd.own hs 3 rfl hr) (by omega)) ?_
   refine ldP 4 rfl (d := k32 (ZA n)) (qf _) (by rw [ZA, ← Q9 _ (qao n)]; exact sg_x0 _ _ _ hsc) ?_
   refine ldN 6 rfl (qf _) ?_
   refine cz (fun w => times3_any _ _ _ (ZT _) (qbn n) (ZT _) w) ?_
   intro b9
   refine ⟨.dead (.dead (.dead (.cons (.cons (.dead (.cons (.cons .nil))))))), ?_⟩
   refine sN 8 (d := k32 (qan n bs)) rfl (by rw [qf]; rfl) (qF _) ?_ (by rw [qf]; kernel_rfl)
   have hsig : zK n bs = qC (Zv n bs) ++ qC (qan n bs) := rfl
   rw [hsig]
   clear hsig hk hm
   generalize Zv n bs = F at *
   generalize qan n bs = S at *
   refine drs [] [2, 3, 4, 5, 6] (.t 0 (.t 1 (.n 2 (.n 3 (.n 4 (.n 5 (.n 6 .nil))))))) qi qq (by kernel_rfl) .nil ?_
   refine ⟨.mk 0 32 32 rfl rfl rfl (by decide) (by decide) (by decide) (by simp) (.on (by decide) ?_)⟩
   refine ⟨.mk 0 32 32 rfl rfl rfl (by decide) (by decide) (by decide) (by simp) (.on (by decide) ?_)⟩
   refine .mk #[.slice (some ⟨b8, 0, none⟩) 32 32, .slice (some ⟨b9, 0, none⟩) 32 32] 22 (fun w => bss2 _ _ _ _ _ _ w) (fun bm => ?_)
   have hsl : (qC F ++ qC S).length = 64 := by rw [List.length_append, qo, qo]
   refine co (n := (qC F ++ qC S).length) (z := 1) (xs := Lib.byteCells (qC F ++ qC S)) (e := 5) (fun w' hs => qbH (Parts.made hs 9 [Lib.byteCells (qC F), Lib.byteCells (qC S)] 2 rfl rfl rfl (by simp [Lib.byteCells_append]) (fun i u xs hu hx => ?_) (by simp)) (by omega)) (fun r2 hr2 => ?_)
   · match i, hu, hx with
     | 0, hu, hx => simp at hu hx; subst hu hx; exact QA hs 7 rfl
     | 1, hu, hx => simp at hu hx; subst hu hx; exact QA hs 8 rfl
   rw [hsl] at hr2 ⊢
   generalize qC F ++ qC S = D at *
   have hl : (Lib.byteCells D).length = 64 := by rw [Lib.byteCells_length, hsl]
   rcases r2 with _ | ⟨rb, cap, jj⟩
   · have := hr2.2; omega
   refine ⟨by decide, ?_⟩
   refine ldP 10 rfl (d := (Lib.byteCells D).toArray) (by simpa using hl) (by simp [hl]) ?_
   refine sN 1 rfl (by simp [hl]) (QS D) ?_ (by kernel_rfl)
   refine ldN 1 rfl (by simp [hl]) ?_
   exact rt rfl
end
section
open Go.RowKit Go.Sx
def zW (D : List UInt8) : Nat := leN (D.take 32)
def ZG (D : List UInt8) : Nat := leN (D.drop 32)
def ZB (p : Nat) (D : List UInt8) (bs : List UInt8) : Fin PP × Fin PP := QH qP fd (qX qP fd gG (ZG D)) (ZD (qX qP fd (qaj p) (zr (zW D) p bs)))
def Zi (p : Nat) (D : List UInt8) (bs : List UInt8) : Bool := (cof p).1 && decide (ZG D < L0) && decide (Z0 (ZB p D bs) = zW D)
theorem half0 (D : List UInt8) (h : D.length = 64) : (Lib.byteCells D).toArray.extract 0 (0 + 32) = k32 (zW D) := by
 unfold zW
 rw [← Q9 _ (by rw [List.length_take, h]; rfl)]
 simp [Lib.byteCells, List.map_take]
theorem half1 (D : List UInt8) (h : D.length = 64) : (Lib.byteCells D).toArray.extract 32 (32 + 32) = k32 (ZG D) := by
 unfold ZG
 rw [← Q9 _ (by rw [List.length_drop, h])]
 apply Array.ext'
 simp only [List.extract_toArray, List.extract_eq_take_drop, Lib.byteCells, List.map_drop]
 exact List.take_of_length_le (by simp [h])
theorem sigF_lt (D : List UInt8) (h : D.length = 64) : zW D < 115792089237316195423570985008687907853269984665640564039457584007913129639936 := by
 have := qaw (D.take 32)
 rw [List.length_take, h] at this; exact this
theorem sigS_lt (D : List UInt8) (h : D.length = 64) : ZG D < 115792089237316195423570985008687907853269984665640564039457584007913129639936 := by
 have := qaw (D.drop 32)
 rw [List.length_drop, h] at this; exact this
theorem leN_go (k : Nat) : ∀ n, leN ((List.range k).map fun i => UInt8.ofNat (n / 256 ^ i % 256)) = n % 256 ^ k := by
 induction k with
 | zero => intro n; rw [Nat.pow_zero, Nat.mod_one]; rfl
 | succ k ih =>
  intro n
  rw [List.range_succ_eq_map, List.map_cons, List.map_map, leN]
  have e : ((fun i => UInt8.ofNat (n / 256 ^ i % 256)) ∘ Nat.succ) = fun i => UInt8.ofNat (n / 256 / 256 ^ i % 256) := by
   funext i
   show UInt8.ofNat (n / 256 ^ (i + 1) % 256) = _
   rw [Nat.pow_succ, Nat.mul_comm, ← Nat.div_div_eq_div_mul]
  rw [e, ih (n / 256), Nat.pow_succ, Nat.mul_comm (256 ^ k), Nat.mod_mul, UInt8.toNat_ofNat']
  simp
theorem qax (n : Nat) (h : n < 115792089237316195423570985008687907853269984665640564039457584007913129639936) : leN (qC n) = n := by
 unfold qC
 rw [leN_go]; exact Nat.mod_eq_of_lt h
theorem le32_inj (a b : Nat) (ha : a < 115792089237316195423570985008687907853269984665640564039457584007913129639936) (hb : b < 115792089237316195423570985008687907853269984665640564039457584007913129639936) : qC a = qC b ↔ a = b := by
 have key := qax
 constructor
 · intro h; rw [← key a ha, ← key b hb, h]
 · rintro rfl; rfl
theorem eq_k32 {C : Cx} {L : List Ent} {m n : Nat} {a b : Operand} {next : Value → List Ent → Prop} (hP : C.P = Try.prog) (hm : m < 115792089237316195423570985008687907853269984665640564039457584007913129639936) (hn : n < 115792089237316195423570985008687907853269984665640564039457584007913129639936) (go : next (.bool (decide (m = n))) L) :
 qaf C (do eqGuard .eql 24 a b (.agg (k32 m)) (.agg (k32 n)); binOp .eql 24 (.agg (k32 m)) (.agg (k32 n))) L next := by
 rw [zl, zl]
 refine eqB (e := 5) (n := 32) (by rw [hP]; kernel_rfl) (by rw [hP]; kernel_rfl) (by rw [hP]; kernel_rfl) (by rw [hP]; kernel_rfl) (qo m) (qo n) ?_
 rw [show decide (qC m = qC n) = decide (m = n) from decide_eq_decide.2 (le32_inj m n hm hn)]
 exact go
theorem one_bool (b : Bool) : oneOf [.bool b] = .bool b := rfl
theorem zC (p : Nat) (hp : p < 115792089237316195423570985008687907853269984665640564039457584007913129639936) (D : List UInt8) (hD : D.length = 64) (v : Value) (bs : List UInt8) (w : World) (h : Parts w v bs) (hn : bs.length ≤ 10000) :
 Calls Try.prog 67 ([.agg (k32 p), Qr D, v] : List Value).toArray w fun e w' => e = .returned (.bool (Zi p D bs)) ∧ Below w.heap.size w w' := by
 have hof := fun w => (g_of p hp w).mono (fun e w' ⟨x, y, z, b, h1, h2, h3⟩ => (⟨(x, y, z, b), h1, h2, h3⟩ : ∃ x : Nat × Nat × Nat × Bool, PtA x.1 x.2.1 x.2.2.1 x.2.2.2 (qaj p) ∧ e = Ending.returned (.tuple #[.agg (pt x.1 x.2.1 x.2.2.1 x.2.2.2), .bool (cof p).1]) ∧ Below w.heap.size w w'))
 have hF := sigF_lt D hD
 have hS := sigS_lt D hD
 have hls := fun w => kleast_any (ZG D) hS w
 have hf0 := half0 D hD
 have hf1 := half1 D hD
 have hrb : Zi p D bs = ((cof p).1 && decide (ZG D < L0) && decide (Z0 (ZB p D bs) = zW D)) := rfl
 have hm1 := fun x y z b h w => pg (g_many x y z (ZG D) b gG h hS w)
 have hm2 := fun x y z b h w => pg (g_many x y z (zr (zW D) p bs) b (qaj p) h (ZT _) w)
 have hmi := fun x1 y1 z1 b1 h1 x2 y2 z2 b2 h2 w => pg (g_minus x1 y1 z1 b1 (qX qP fd gG (ZG D)) h1 x2 y2 z2 b2 (qX qP fd (qaj p) (zr (zW D) p bs)) h2 w)
 have hky := fun x y z b h w => g_key x y z b (ZB p D bs) h w
 have hkl := qaP (ZB p D bs)
 rw [hrb]
 have hch : ∀ w' v', Rd w' v' (Lib.byteCells bs) → Calls Try.prog 100 ([.agg (k32 (zW D)), .agg (k32 p), v'] : List Value).toArray w' fun e w'' => e = .returned (.agg (k32 (zr (zW D) p bs))) ∧ Below w'.heap.size w' w'' := fun w' v' hr => chal_any w' (zW D) p v' bs hr (by omega)
 unfold ZB at hky hkl ⊢
 generalize zW D = F at *
 generalize ZG D = S at *
 generalize zr F p bs = H at *
 generalize hA : qX qP fd gG S = A at *
 generalize hB : qX qP fd (qaj p) H = B at *
 generalize QH qP fd A (ZD B) = Q at *
 generalize qaj p = P at *
 generalize (cof p).1 = ok at *
 refine q9 qi Try.func67 rfl Try.ntmps67 rfl (St.start w) ?_
 intro b3 b4
 refine cutp (α := Nat × Nat) (fun _ => True) (fun x => ⟨[(2, v), (3, ptr b3), (4, ptr b4), (7, ptr x.1), (8, ptr x.2)], [cl b3 (k32 p) 24, cl x.1 (k32 F) 24, cl x.2 (k32 S) 24], []⟩) ?_ ?_
 · refine drs [dead, cl b4 (Lib.byteCells D).toArray 74] [9] (.t 0 (.t 1 (.t 2 (.t 3 (.t 4 (.t 5 (.b 6 7 (.n 7 (.n 8 (.n 9 .nil))) (.n 6 (.n 8 (.n 9 .nil)))))))))) qi qq (by kernel_rfl) (.dead (.cons .nil)) ?_
   refine ⟨.mk 0 32 64 rfl rfl rfl (by decide) (by decide) (by decide) (by simp) (.on (by decide) ?_)⟩
   refine ⟨by decide, ?_⟩
   refine ldP 1 rfl (d := k32 F) (qf _) hf0 ?_
   refine ⟨.mk 32 64 64 rfl rfl rfl (by decide) (by decide) (by decide) (by simp) (.on (by decide) ?_)⟩
   refine ⟨by decide, ?_⟩
   refine ldP 1 rfl (d := k32 S) (qf _) hf1 ?_
   refine ⟨?_, ?_⟩
   · intro b7
     refine ⟨.dead (.cons .nil), ?_⟩
     intro b8
     refine ⟨.dead (.cons .nil), ?_⟩
     refine sN 2 rfl (by rw [qf]; rfl) (qF _) ?_ (by kernel_rfl)
     refine ⟨.dead (.cons .nil), ?_⟩
     refine sN 3 rfl (by rw [qf]; rfl) (qF _) ?_ (by kernel_rfl)
     exact ⟨(b7, b8), trivial, ⟨rfl, rfl, rfl, rfl, rfl, trivial⟩, ⟨_, .refl _, .cons (.drop (.cons (.cons .nil)))⟩, rfl⟩
   · intro b8
     refine ⟨.dead (.cons .nil), ?_⟩
     intro b7
     refine ⟨.dead (.cons .nil), ?_⟩
     refine sN 3 rfl (by rw [qf]; rfl) (qF _) ?_ (by kernel_rfl)
     refine ⟨.dead (.cons .nil), ?_⟩
     refine sN 2 rfl (by rw [qf]; rfl) (qF _) ?_ (by kernel_rfl)
     exact ⟨(b7, b8), trivial, ⟨rfl, rfl, rfl, rfl, rfl, trivial⟩, ⟨[cl b3 (k32 p) 24, cl b8 (k32 S) 24, cl b7 (k32 F) 24], .cons _ (.swap _ _ _), .cons (.drop (.cons (.cons .nil)))⟩, rfl⟩
 · rintro ⟨b7, b8⟩ _
   refine ldN 0 rfl (qf _) ?_
   refine ce (fun w _ => hof w) (fun g hg => ?_)
   intro b9
   refine sN 3 rfl (by rw [qs]; rfl) (by rw [Array.all_toList]; exact QK _ _ _ _) ?_ (by kernel_rfl)
   cases ok with
   | false =>
    refine cf rfl ?_
    refine cf rfl ?_
    refine cf rfl ?_
    refine ct rfl ?_
    refine ct rfl ?_
    exact rt rfl
   | true =>
    refine ct rfl ?_
    refine ldN 2 rfl (qf _) ?_
    refine ct rfl ?_
    refine cv (fun w => hls w) ?_
    refine ct rfl ?_
    refine cf rfl ?_
    cases hSL : decide (S < L0) with
    | false =>
     refine ct rfl ?_
     exact rt rfl
    | true =>
     refine cf rfl ?_
     refine cut (α := Nat) (fun _ => True) (fun b11 => ⟨[(2, v), (3, ptr b3), (7, ptr b7), (8, ptr b8), (9, ptr b9), (11, ptr b11)], [dead, cl b7 (k32 F) 24, cl b8 (k32 S) 24, cl b9 (pt g.1 g.2.1 g.2.2.1 g.2.2.2) 53, cl b11 (k32 H) 24], []⟩) ?_ ?_
     · refine drs [cl b3 (k32 p) 24, cl b7 (k32 F) 24] [6] (.t 0 (.t 1 (.t 2 (.b 3 5 (.b 4 5 (.n 5 (.n 6 .nil)) (.n 4 (.n 6 .nil))) (.n 3 (.n 4 (.n 6 .nil))))))) qi qq (by kernel_rfl) (.cons (.cons .nil)) ?_
       refine ldN 1 rfl (qf _) ?_
       refine ldN 0 rfl (qf _) ?_
       refine ⟨?_, ?_⟩
       · refine co (fun w' hs => qbH (h.below hs.below) (by omega)) (fun r hr => ?_)
         refine ⟨.cons (.cons .nil), ?_⟩
         refine ⟨?_, ?_⟩
         · refine cvs (fun w' hs => hch w' _ (Rd.own hs 4 rfl hr)) ?_
           refine ⟨.cons (.cons .nil), ?_⟩
           intro b11
           refine ⟨.cons (.cons .nil), ?_⟩
           refine sN 5 rfl (by rw [qf]; rfl) (qF _) ?_ (by kernel_rfl)
           exact ⟨b11, trivial, ⟨rfl, rfl, rfl, rfl, rfl, rfl, trivial⟩, .dead (.cons (.cons (.cons (.drop (.cons .nil))))), rfl⟩
         · intro b11
           refine ⟨.cons (.cons .nil), ?_⟩
           refine cvs (fun w' hs => hch w' _ (Rd.own hs 4 rfl hr)) ?_
           refine ⟨.cons (.cons .nil), ?_⟩
           refine sN 5 rfl (by rw [qf]; rfl) (qF _) ?_ (by kernel_rfl)
           exact ⟨b11, trivial, ⟨rfl, rfl, rfl, rfl, rfl, rfl, trivial⟩, .dead (.cons (.cons (.cons (.drop (.cons .nil))))), rfl⟩
       · intro b11
         refine ⟨.cons (.cons .nil), ?_⟩
         refine co (fun w' hs => qbH (h.below hs.below) (by omega)) (fun r hr => ?_)
         refine ⟨.cons (.cons .nil), ?_⟩
         refine cvs (fun w' hs => hch w' _ (Rd.own hs 5 rfl hr)) ?_
         refine ⟨.cons (.cons .nil), ?_⟩
         refine sN 4 rfl (by rw [qf]; rfl) (qF _) ?_ (by kernel_rfl)
         exact ⟨b11, trivial, ⟨rfl, rfl, rfl, rfl, rfl, rfl, trivial⟩, .dead (.cons (.cons (.cons (.cons .nil)))), rfl⟩
     · intro b11 _
       refine drs [dead, cl b7 (k32 F) 24, cl b8 (k32 S) 24, cl b9 (pt g.1 g.2.1 g.2.2.1 g.2.2.2) 53, cl b11 (k32 H) 24] [] (.t 1 (.t 3 (.t 4 (.t 8 (.n 0 (.n 2 (.n 5 (.n 6 (.n 7 (.n 9 (.n 10 .nil))))))))))) qi qq (by kernel_rfl) (.dead (.cons (.cons (.cons (.cons .nil))))) ?_
       have hK : ∀ L' : List Ent, Sub [dead, cl b7 (k32 F) 24, cl b8 (k32 S) 24, cl b9 (pt g.1 g.2.1 g.2.2.1 g.2.2.2) 53, cl b11 (k32 H) 24] ([dead, cl b7 (k32 F) 24, cl b8 (k32 S) 24, cl b9 (pt g.1 g.2.1 g.2.2.1 g.2.2.2) 53, cl b11 (k32 H) 24] ++ L') := fun L' => qc _
       refine ldN 2 rfl (qf _) ?_
       refine ldN 3 rfl (qs _ _ _ _) ?_
       refine ldN 4 rfl (qf _) ?_
       refine ldN 1 rfl (qf _) ?_
       refine ce (fun w _ => pg (g_gen w)) (fun q hq => ?_)
       refine ⟨hK [], ?_⟩
       refine ce (fun w _ => hm1 _ _ _ _ hq w) (fun q1 hq1 => ?_)
       refine ⟨hK [], ?_⟩
       refine ce (fun w _ => hm2 _ _ _ _ hg w) (fun q2 hq2 => ?_)
       refine ⟨hK [], ?_⟩
       refine ce (fun w _ => hmi _ _ _ _ hq1 _ _ _ _ hq2 w) (fun q3 hq3 => ?_)
       refine ⟨hK [], ?_⟩
       refine cv (fun w => hky _ _ _ _ hq3 w) ?_
       refine ⟨hK [], ?_⟩
       generalize Z0 Q = kq at *
       refine eq_k32 (m := kq) (n := F) rfl hkl hF ?_
       refine ⟨hK [], ?_⟩
       refine ⟨hK [], ?_⟩
       refine rt ?_
       rw [Bool.and_self, Bool.true_and]
       exact one_bool _
end
section
open Go.RowKit Go.Sx
theorem put_step (A : List UInt8) (hA : A.length = 32) (i : Nat) (hi : i < 32) : ((Lib.byteCells A).take (i + 1) ++ (List.replicate 32 (Value.int .u8 0)).drop (i + 1)).toArray = ((Lib.byteCells A).take i ++ (List.replicate 32 (Value.int .u8 0)).drop i).toArray.setIfInBounds (nad 0 (nmu (Int.toNat (i : Int)) 1)) (.int .u8 (A.getD i 0).toNat) := by
 have hl : (Lib.byteCells A).length = 32 := by rw [Lib.byteCells_length, hA]
 rw [qK, qI, Nat.zero_add, Nat.mul_one, Int.toNat_natCast, List.setIfInBounds_toArray, Zd _ _ _ (by rw [hl]; rfl) i (by omega) (qaD A i (by omega))]
theorem put_size (A : List UInt8) (hA : A.length = 32) (i : Nat) (hi : i ≤ 32) : ((Lib.byteCells A).take i ++ (List.replicate 32 (Value.int .u8 0)).drop i).toArray.size = 32 := by
 have hl : (Lib.byteCells A).length = 32 := by rw [Lib.byteCells_length, hA]
 simp [hl]; omega
theorem put_all (A : List UInt8) (hA : A.length = 32) : ((Lib.byteCells A).take 32 ++ (List.replicate 32 (Value.int .u8 0)).drop 32).toArray = k32 (leN A) := by
 have hl : (Lib.byteCells A).length = 32 := by rw [Lib.byteCells_length, hA]
 rw [← Q9 A hA, List.take_of_length_le (by omega)]; simp
theorem take_at (D : List UInt8) (i : Nat) (hi : i < 32) : (D.take 32).getD i 0 = D.getD i 0 := by simp [List.getD, hi]
theorem drop_at (D : List UInt8) (i : Nat) : (D.drop 32).getD i 0 = D.getD (i + 32) 0 := by simp [List.getD, Nat.add_comm]
theorem cut_any (D : List UInt8) (hD : D.length = 64) (w : World) : Calls Try.prog 102 ([Qr D] : List Value).toArray w fun e w' => e = .returned (.tuple #[.agg (k32 (zW D)), .agg (k32 (ZG D))]) ∧ Below w.heap.size w w' := by
 have hA : (D.take 32).length = 32 := by rw [List.length_take, hD]; rfl
 have hB : (D.drop 32).length = 32 := by rw [List.length_drop, hD]
 refine q9 qi Try.func102 rfl Try.ntmps102 rfl (St.start w) ?_
 intro b1 b2 b3 b4 b5
 refine lp qi (fun i : Nat => i ≤ 32) (fun i => ⟨[(1, ptr b1), (2, ptr b2), (3, ptr b3), (4, ptr b4), (5, ptr b5), (6, .int .i64 i)], [cl b1 (Lib.byteCells D).toArray 74, cl b2 (List.replicate 32 (Value.int .u8 0)).toArray 24, cl b3 (List.replicate 32 (Value.int .u8 0)).toArray 24,
  cl b4 ((Lib.byteCells (D.take 32)).take i ++ (List.replicate 32 (Value.int .u8 0)).drop i).toArray 24, cl b5 ((Lib.byteCells (D.drop 32)).take i ++ (List.replicate 32 (Value.int .u8 0)).drop i).toArray 24], []⟩) (fun i => 32 - i) 0 (Nat.zero_le _)
  ⟨⟨rfl, rfl, rfl, rfl, rfl, rfl, trivial⟩, .cons (.cons (.cons (.cons (.cons .nil)))), rfl⟩ ?_
 intro i hi
 refine cd (fun h => ?_) (fun h => ?_)
 · have hlt : i < 32 := by omega
   refine ⟨by omega, by omega, ?_⟩
   refine ld1 0 rfl (v := .int .u8 ((D.take 32).getD i 0).toNat) (by rw [take_at D i hlt, qK, qI, Nat.zero_add, Nat.mul_one, Int.toNat_natCast, List.getElem?_toArray]; exact qaD D i (by omega)) ?_
   refine ⟨by omega, by omega, s1e 3 _ rfl (by rw [put_size _ hA i hi, qK, qI, Nat.zero_add, Nat.mul_one, Int.toNat_natCast]; exact hlt) (put_step _ hA i hlt).symm ?_⟩
   refine .as ((i + 32 : Nat) : Int) (by omega) (by simp only [mn]; omega) (by simp only [mx]; omega) ?_
   refine ⟨by omega, by omega, ?_⟩
   refine ld1 0 rfl (v := .int .u8 ((D.drop 32).getD i 0).toNat) (by rw [drop_at D i, qK, qI, Nat.zero_add, Nat.mul_one, Int.toNat_natCast, List.getElem?_toArray]; exact qaD D _ (by omega)) ?_
   refine ⟨by omega, by omega, s1e 4 _ rfl (by rw [put_size _ hB i hi, qK, qI, Nat.zero_add, Nat.mul_one, Int.toNat_natCast]; exact hlt) (put_step _ hB i hlt).symm ?_⟩
   refine .as ((i + 1 : Nat) : Int) (by omega) (by simp only [mn]; omega) (by simp only [mx]; omega) ?_
   exact ⟨i + 1, by omega, by omega, ⟨rfl, rfl, rfl, rfl, rfl, rfl, trivial⟩, .cons (.cons (.cons (.cons (.cons .nil)))), rfl⟩
 · obtain rfl : i = 32 := by omega
   rw [put_all _ hA, put_all _ hB]
   have e1 : leN (D.take 32) = zW D := rfl
   have e2 : leN (D.drop 32) = ZG D := rfl
   rw [e1, e2]
   refine drs [dead, dead, dead, cl b4 (k32 (zW D)) 24, cl b5 (k32 (ZG D)) 24] [3] (.t 0 (.t 1 (.n 2 (.n 3 .nil)))) qi qq (by kernel_rfl) (.dead (.dead (.dead (.cons (.cons .nil))))) ?_
   refine ldN 3 rfl (qf _) ?_
   refine ldN 4 rfl (qf _) ?_
   refine sN 1 rfl (by rw [qf]; rfl) (qF _) ?_ (by kernel_rfl)
   refine ⟨.dead (.dead (.dead (.cons (.cons .nil)))), ?_⟩
   refine sN 2 rfl (by rw [qf]; rfl) (qF _) ?_ (by kernel_rfl)
   refine ldN 1 rfl (qf _) ?_
   refine ldN 2 rfl (qf _) ?_
   exact rt rfl
theorem zP (l : List UInt8) (i : Nat) (h : i < l.length) : (Lib.byteCells l).toArray[i]? = some (.int .u8 (l.getD i 0).toNat) := by rw [List.getElem?_toArray]; exact qaD l i h
theorem qdU (l : List UInt8) (i : Nat) (b : UInt8) (x : Int) (hx : x = b.toNat) : (Lib.byteCells l).toArray.setIfInBounds i (.int .u8 x) = (Lib.byteCells (l.set i b)).toArray := by
 rw [hx, List.setIfInBounds_toArray, bytes_set]
theorem qb7 (n : Nat) (w : World) : Calls Try.prog 96 ([.agg (k32 n)] : List Value).toArray w fun e w' => e = .returned (.tuple #[.agg (k32 (ZA n)), .agg (k32 (leN (qa0 n)))]) ∧ Below w.heap.size w w' := by
 have hlen := zL (qC n)
 have hse : ZA n = leN (ZF ((zt (qC n)).take 32)) := rfl
 have hsa : leN (qa0 n) = ZG (zt (qC n)) := rfl
 rw [hse, hsa]
 refine q9 qi Try.func96 rfl Try.ntmps96 rfl (St.start w) ?_
 intro b1 b2 b3
 refine ⟨.mk 0 32 32 rfl rfl rfl (by decide) (by decide) (by decide) (by simp) (.on (by decide) ?_)⟩
 refine cvs (fun w' hs => qdD _ (qC n) w' (QA hs 0 rfl) (by rw [qo]; decide)) ?_
 refine cv (fun w => cut_any _ hlen w) ?_
 have hHl : ((zt (qC n)).take 32).length = 32 := by rw [List.length_take, hlen]; rfl
 have hF : k32 (zW (zt (qC n))) = (Lib.byteCells ((zt (qC n)).take 32)).toArray := (Q9 _ hHl).symm
 generalize ZG (zt (qC n)) = S at *
 rw [hF]
 generalize (zt (qC n)).take 32 = H at *
 have hHc : (Lib.byteCells H).length = 32 := by rw [Lib.byteCells_length, hHl]
 intro b4 b5
 refine sN 3 rfl (by simp [hHc]) (QS H) ?_ (by kernel_rfl)
 refine sN 4 rfl (by rw [qf]; rfl) (qF _) ?_ (by kernel_rfl)
 have hb0 := (H.getD 0 0).toNat_lt
 refine ⟨by decide, by decide, ld1 3 rfl (zP H 0 (by omega)) ?_⟩
 refine ⟨by decide, by decide, ld1 3 rfl (zP H 0 (by omega)) ?_⟩
 refine ⟨by omega, by simp only [mx]; omega, by decide, ?_⟩
 refine .as ((UInt8.ofNat ((H.getD 0 0).toNat - (H.getD 0 0).toNat % 8)).toNat : Int) (by rw [UInt8.toNat_ofNat']; omega) (by simp only [mn]; omega) (by have := (UInt8.ofNat ((H.getD 0 0).toNat - (H.getD 0 0).toNat % 8)).toNat_lt; simp only [mx]; omega) ?_
 refine ⟨by decide, by decide, s1e 3 _ rfl (by rw [List.size_toArray, hHc]; decide) (qdU H 0 _ _ rfl) ?_⟩
 generalize hx0 : UInt8.ofNat ((H.getD 0 0).toNat - (H.getD 0 0).toNat % 8) = x0
 have h31 : (H.set 0 x0).getD 31 0 = H.getD 31 0 := by simp [List.getD]
 have hb1 := (H.getD 31 0).toNat_lt
 have hl1 : (H.set 0 x0).length = 32 := by simp [hHl]
 refine ⟨by decide, by decide, ld1 3 rfl (zP (H.set 0 x0) 31 (by omega)) ?_⟩
 rw [h31]
 refine ⟨by omega, by simp only [mx]; omega, by decide, ?_⟩
 refine .as ((UInt8.ofNat ((H.getD 31 0).toNat % 64 + 64)).toNat : Int) (by rw [UInt8.toNat_ofNat']; omega) (by simp only [mn]; omega) (by have := (UInt8.ofNat ((H.getD 31 0).toNat % 64 + 64)).toNat_lt; simp only [mx]; omega) ?_
 refine ⟨by decide, by decide, s1e 3 _ rfl (by rw [List.size_toArray, Lib.byteCells_length, hl1]; decide) (qdU (H.set 0 x0) 31 _ _ rfl) ?_⟩
 have hcl : (H.set 0 x0).set 31 (UInt8.ofNat ((H.getD 31 0).toNat % 64 + 64)) = ZF H := by unfold ZF; rw [hx0]
 rw [hcl, Q9 (ZF H) (by rw [qdf, hHl])]
 generalize leN (ZF H) = a at *
 refine drs [dead, dead, dead, cl b4 (k32 a) 24, cl b5 (k32 S) 24] [3] (.t 0 (.t 1 (.n 2 (.n 3 .nil)))) qi qq (by kernel_rfl) (.dead (.dead (.dead (.cons (.cons .nil))))) ?_
 refine ldN 3 rfl (qf _) ?_
 refine ldN 4 rfl (qf _) ?_
 refine sN 1 rfl (by rw [qf]; rfl) (qF _) ?_ (by kernel_rfl)
 refine ⟨.dead (.dead (.dead (.cons (.cons .nil)))), ?_⟩
 refine sN 2 rfl (by rw [qf]; rfl) (qF _) ?_ (by kernel_rfl)
 refine ldN 1 rfl (qf _) ?_
 refine ldN 2 rfl (qf _) ?_
 exact rt rfl
theorem r22_ones (n : Nat) : (r22 n).toList.all (·.oneCell') = true := by unfold r22 row; exact List.all_eq_true.2 fun v hv => Ze _ _ _ v hv
theorem qaq (w : World) : Calls Try.prog 97 ([] : List Value).toArray w (RqG gG w) := by
 have hPP : GX < PP ∧ GY < PP := by decide +kernel
 have hx := fun w => qck GX w
 have hy := fun w => qck GY w
 rw [show GX % 2 ^ 255 % PP = GX by decide +kernel] at hx
 rw [show GY % 2 ^ 255 % PP = GY by decide +kernel] at hy
 have h1 := fun w => ZS 1 (by decide) w
 rw [show 1 % PP = 1 by decide +kernel] at h1
 have ht := fun w => qO GX GY hPP.1 hPP.2 w
 refine (q9 (v0 := .agg (rp GX GY 1 (GX * GY % PP))) qi Try.func97 rfl Try.ntmps97 rfl (St.start w) ?_).mono (fun e w' ⟨h1, h2⟩ => ?_)
 · intro b0
   refine bu (c := k32 GX) (by kernel_rfl) ?_
   refine cv (fun w => hx w) ?_
   intro b1
   refine sN 1 rfl (by rw [qe]; rfl) (r22_ones _) ?_ (by kernel_rfl)
   refine bu (c := k32 GY) (by kernel_rfl) ?_
   refine cv (fun w => hy w) ?_
   intro b2
   refine sN 2 rfl (by rw [qe]; rfl) (r22_ones _) ?_ (by kernel_rfl)
   refine drs [dead, cl b1 (r22 GX) 40, cl b2 (r22 GY) 40] [7] (.t 0 (.t 1 (.t 2 (.t 3 (.t 4 (.t 5 (.t 6 (.n 7 .nil)))))))) qi qq (by kernel_rfl) (.dead (.cons (.cons .nil))) ?_
   refine ldN 1 rfl (qe _) ?_
   refine ldN 2 rfl (qe _) ?_
   refine cz (fun w => h1 w) ?_
   refine ldN 1 rfl (qe _) ?_
   refine ldN 2 rfl (qe _) ?_
   refine cz (fun w => ht w) ?_
   refine bu (c := rp GX GY 1 (GX * GY % PP)) (by kernel_rfl) ?_
   refine sN 0 rfl (by rw [qA]; rfl) (by rw [Array.all_toList]; exact QF _ _ _ _) ?_ (by kernel_rfl)
   refine ldN 0 rfl (qA _ _ _ _) ?_
   exact rt rfl
 · refine ⟨GX, GY, 1, GX * GY % PP, ⟨⟨qbC, ?_⟩, hPP.1, hPP.2, by decide +kernel, Nat.mod_lt _ qH⟩, h1, h2⟩
   rw [Qu, Qi, zn]
   show _ = fi GX * fi GY * 1
   grind
theorem rg {g : FuncId} {vs : Array Value} {w : World} {p : Fin PP × Fin PP} (h : Calls Try.prog g vs w (RqG p w)) : Calls Try.prog g vs w fun e w' => ∃ x : Nat × Nat × Nat × Nat, Rq x.1 x.2.1 x.2.2.1 x.2.2.2 p ∧ e = .returned (.agg (rp x.1 x.2.1 x.2.2.1 x.2.2.2)) ∧ Below w.heap.size w w' :=
 h.mono fun e w' ⟨x, y, z, t, h1, h2, h3⟩ => ⟨(x, y, z, t), h1, h2, h3⟩
theorem qap (n : Nat) (w : World) : Calls Try.prog 62 ([.agg (k32 n)] : List Value).toArray w fun e w' => e = .returned (.agg (k32 (Ql n))) ∧ Below w.heap.size w w' := by
 have hm := fun X Y Z T h w => rg (qcs X Y Z T (ZA n) gG h (qbn n) w)
 have hk := fun X Y Z T h w => gr_key X Y Z T (qch n) h w
 have hpp : qch n = qX qP fd gG (ZA n) := rfl
 have hpn : Ql n = Z0 (qch n) := rfl
 have hs := fun w => qb7 n w
 rw [← hpp] at hm
 rw [hpn]
 generalize leN (qa0 n) = sa at *
 generalize ZA n = se at *
 generalize qch n = Q at *
 generalize Z0 Q = kq at *
 refine q9 qi Try.func62 rfl Try.ntmps62 rfl (St.start w) ?_
 intro b1 b2
 refine ldN 0 rfl (qf _) ?_
 refine cv (fun w => hs w) ?_
 intro b3 b4
 refine sN 2 rfl (by rw [qf]; rfl) (qF _) ?_ (by kernel_rfl)
 refine sN 3 rfl (by rw [qf]; rfl) (qF _) ?_ (by kernel_rfl)
 refine drs [dead, dead, cl b3 (k32 se) 24] [4] (.t 1 (.n 0 (.n 2 (.n 3 (.n 4 .nil))))) qi qq (by kernel_rfl) (.dead (.dead (.cons .nil))) ?_
 refine ldN 2 rfl (qf _) ?_
 refine ce (fun w _ => rg (qaq w)) (fun g hg => ?_)
 refine ⟨.dead (.dead (.cons .nil)), ?_⟩
 refine ce (fun w _ => hm _ _ _ _ hg w) (fun q hq => ?_)
 refine ⟨.dead (.dead (.cons .nil)), ?_⟩
 refine cv (fun w => hk _ _ _ _ hq w) ?_
 refine ⟨.dead (.dead (.cons .nil)), ?_⟩
 refine sN 1 rfl (by rw [qf]; rfl) (qF _) ?_ (by kernel_rfl)
 refine ldN 1 rfl (qf _) ?_
 exact rt rfl
end
section
open Go.RowKit Go.Sx
theorem pub_on (n : Nat) : OnP fd (qch n) := fld.on_mul gG qc7 (ZA n)
theorem key_pub (n : Nat) : (cof (Ql n)).1 = true ∧ qaj (Ql n) = qch n := by
 unfold Ql
 exact ⟨by rw [cof_keyP _ (pub_on n)], cofP_key _ (pub_on n)⟩
theorem firN_lt (n : Nat) (bs : List UInt8) : Zv n bs < 115792089237316195423570985008687907853269984665640564039457584007913129639936 := by unfold Zv; exact qaP _
theorem sndN_lt (n : Nat) (bs : List UInt8) : qan n bs < L0 := by unfold qan; exact Nat.mod_lt _ (by decide +kernel)
theorem qcD (a b : Nat) (ha : a < 115792089237316195423570985008687907853269984665640564039457584007913129639936) (hb : b < 115792089237316195423570985008687907853269984665640564039457584007913129639936) : zW (qC a ++ qC b) = a ∧ ZG (qC a ++ qC b) = b := by
 unfold zW ZG
 exact ⟨by rw [List.take_left' (qo a)]; exact qax a ha, by rw [List.drop_left' (qo a)]; exact qax b hb⟩
theorem q_core (a h r s : Nat) (hs : s = (h * a + r) % L0) (P : Fin PP × Fin PP) (hP : P = qX qP fd gG a) : QH qP fd (qX qP fd gG s) (ZD (qX qP fd P h)) = qX qP fd gG r := by
 have hon := fun k => fld.on_mul gG qc7 k
 have e1 : qX qP fd gG s = QH qP fd (qX qP fd gG (h * a)) (qX qP fd gG r) := by
  rw [hs, show (h * a + r) % L0 = (h * a + r) % LL from rfl, mul_rest, fld.mul_add gG qc7]
 rw [hP, fld.mul_mul gG qc7, Nat.mul_comm a h, e1, qdX (qX qP fd gG (h * a)), fld.add_assoc _ _ (ZD (qX qP fd gG (h * a))) (hon r) (hon _) (on_neg _ (hon _)), show QH qP fd (qX qP fd gG (h * a)) (ZD (qX qP fd gG (h * a))) = (0, 1) from fld.add_neg _ (hon _), fld.add_zero _ (hon r)]
theorem qbS (n : Nat) (bs : List UInt8) : Zi (Ql n) (zK n bs) bs = true := by
 obtain ⟨k1, k2⟩ := key_pub n
 have hsl := sndN_lt n bs
 obtain ⟨h1, h2⟩ := qcD (Zv n bs) (qan n bs) (firN_lt n bs) (Nat.lt_trans hsl L0_lt)
 have hq : ZB (Ql n) (zK n bs) bs = firP n bs := by
  unfold ZB zK
  rw [h1, h2, k2]
  unfold firP
  exact q_core (ZA n) (zr (Zv n bs) (Ql n) bs) (qbR n bs) (qan n bs) (by unfold qan; rfl) (qch n) (by unfold qch; rfl)
 unfold Zi
 rw [k1, hq]
 unfold zK
 rw [h1, h2, decide_eq_true hsl, decide_eq_true (show Z0 (firP n bs) = Zv n bs by unfold Zv; rfl)]
 rfl
end
section
open Go.RowKit Go.Sx
theorem Qj : Try.prog.underlying 5 = some (.int .u8) := by kernel_rfl
theorem bs2 (x y : Int) (w : World) : (Instr.buildSlice 22 2 #[(0, .int .u8 x), (1, .int .u8 y)]).run Try.prog w = .ok (.slice (some ⟨w.heap.size, 0, none⟩) 2 2) (w.alloc (.cells #[.int .u8 x, .int .u8 y] 5)) := by
 obtain ⟨i, hi, hz, hs, hb⟩ := zm zp
 exact run_buildSlice w _ _ 2 _ #[.int .u8 x, .int .u8 y] i (.int .u8 0) q8 hi hz (by rw [hs]; decide) (by rw [hs]; decide) (by rw [hs]; kernel_rfl)
end
section
open Go.RowKit Go.Sx
theorem pub0_key : Ql 0 = qbZ (qat (GX, GY, 1) 256 (ZA 0)).1 (qat (GX, GY, 1) 256 (ZA 0)).2.1 (qat (GX, GY, 1) 256 (ZA 0)).2.2 := by
 have h := qc4 _ _ _ _ (pmul_rep (GX, GY, 1) gG qbC 256 (ZA 0) (qbn 0))
 unfold Ql qch; exact h.symm
theorem sec0 : ZA 0 = 39325648866980652792715009169219496062012184734522019333892538943312776480336 := by decide +kernel
def keyf (X Y Z : Nat) : Nat := Y * Nm.pm PP 256 Z (PP - 2) % PP + X * Nm.pm PP 256 Z (PP - 2) % PP % 2 * 57896044618658097711785492504343953926634992332820282019728792003956564819968
theorem keyn_pm (X Y Z : Nat) : qbZ X Y Z = keyf X Y Z := by
 unfold qbZ keyf
 rw [qbT _ _ (by decide +kernel)]
def key0 : Nat := keyf (qat (GX, GY, 1) 256 39325648866980652792715009169219496062012184734522019333892538943312776480336).1 (qat (GX, GY, 1) 256 39325648866980652792715009169219496062012184734522019333892538943312776480336).2.1 (qat (GX, GY, 1) 256 39325648866980652792715009169219496062012184734522019333892538943312776480336).2.2
theorem key0_val : key0 % 256 = 59 ∧ key0 / 256 % 256 = 106 := by decide +kernel
theorem pub0_eq : Ql 0 = key0 := by rw [pub0_key, sec0, keyn_pm, key0]
theorem pub0 : Ql 0 % 256 = 59 ∧ Ql 0 / 256 % 256 = 106 := by rw [pub0_eq]; exact key0_val
end
section
open Go.RowKit Go.Sx
abbrev slq (b n : Nat) : Value := .slice (some ⟨b, 0, none⟩) n n
abbrev faq (b : Nat) (c : Array Value) (f : Nat × Nat) : Ent := ⟨b, some (.cells c 5 f), false, none⟩
abbrev q97 : Array Value := #[.int .u8 97]
abbrev q98 : Array Value := #[.int .u8 98]
abbrev q99 : Array Value := #[.int .u8 97, .int .u8 98]
theorem KK {e : Ent} {l : List Ent} : Sub [e] (e :: l) := .cons .nil
theorem qbV {w : World} {u1 : Value} {x1 : List Value} (h1 : Rd w u1 x1) {i : Nat} {u : Value} {xs : List Value} (hu : [u1][i]? = some u) (hx : [x1][i]? = some xs) : Rd w u xs := by
 match i, hu, hx with
 | 0, hu, hx => simp at hu hx; subst hu hx; exact h1
theorem qcS {w : World} {u1 u2 : Value} {x1 x2 : List Value} (h1 : Rd w u1 x1) (h2 : Rd w u2 x2) {i : Nat} {u : Value} {xs : List Value} (hu : [u1, u2][i]? = some u) (hx : [x1, x2][i]? = some xs) : Rd w u xs := by
 match i, hu, hx with
 | 0, hu, hx => simp at hu hx; subst hu hx; exact h1
 | 1, hu, hx => simp at hu hx; subst hu hx; exact h2
theorem alive_core (p0 : Nat) (sg : List UInt8) (hpub : ∀ w, Calls Try.prog 61 ([.agg (k32 0)] : List Value).toArray w fun e w' => e = .returned (.agg (k32 p0)) ∧ Below w.heap.size w w')
 (hb0 : p0 % 256 = 59) (hb1 : p0 / 256 % 256 = 106)
 (hsg : ∀ w v, Parts w v [97, 98] → Calls Try.prog 64 ([.agg (k32 0), v] : List Value).toArray w fun e w' => e = .returned (Qr sg) ∧ Below w.heap.size w w')
 (hrt : ∀ w v, Parts w v [97, 98] → Calls Try.prog 67 ([.agg (k32 p0), Qr sg, v] : List Value).toArray w fun e w' => e = .returned (.bool true) ∧ Below w.heap.size w w') (w : World) :
 Calls Try.prog 60 ([] : List Value).toArray w fun e w' => e = .returned (.bool true) ∧ Below w.heap.size w w' := by
 refine q9 qi Try.func60 rfl Try.ntmps60 rfl (St.start w) ?_
 refine bu (c := k32 0) (by kernel_rfl) ?_
 refine cv (fun w => hpub w) ?_
 intro b1
 refine sN 0 rfl (by rw [qf]; rfl) (qF _) ?_ (by kernel_rfl)
 refine drg [cl b1 (k32 p0) 24] [0, 1, 2, 3, 4, 5, 6, 7, 8, 9, 10] 12 qi qq (by kernel_rfl) (by kernel_rfl) (.cons .nil) (fun T g => ?_)
 have e0 : (k32 p0)[0]? = some (.int .u8 59) := by rw [zl]; refine (zP _ 0 (by rw [qo]; decide)).trans ?_; simp [qC, hb0]
 have e1 : (k32 p0)[1]? = some (.int .u8 106) := by rw [zl]; refine (zP _ 1 (by rw [qo]; decide)).trans ?_; simp [qC, hb1]
 let e1q := cl b1 (k32 p0) 24
 let s1q : Nat × Value := (12, .bool true)
 let s2q : Nat × Value := (13, .agg (k32 p0))
 let s3q : Nat × Value := (14, .agg (k32 0))
 have H1 : T 0 #[tt,tt,tt,tt,tt,tt,tt,tt,tt,tt,tt,tt,tt,tt,tt,tt,tt,tt,tt,tt,tt,tt,tt] ⟨[(0, .bool true)], [e1q], []⟩ := by
  refine g.fin _ _ _ (by kernel_rfl) ?_
  exact rt rfl
 have H2 : T 1 #[tt,tt,tt,tt,tt,tt,tt,tt,tt,tt,tt,tt,tt,tt,tt,tt,tt,tt,tt,tt,tt,tt,ff] ⟨[(25, .bool true), (12, .bool true)], [e1q], []⟩ := by
  refine g.one _ _ _ 22 (by kernel_rfl) KK ?_
  refine ⟨KK, ?_⟩
  exact g.go (H1) KK ⟨rfl, trivial⟩ ⟨_, .refl _, KK⟩ rfl
 have H3 : T 2 #[tt,tt,tt,tt,tt,tt,tt,tt,tt,tt,tt,tt,tt,tt,tt,tt,tt,tt,tt,tt,tt,ff,ff] ⟨[(12, .bool true), (24, .bool true)], [e1q], []⟩ := by
  refine g.one _ _ _ 21 (by kernel_rfl) KK ?_
  refine ct rfl ?_
  refine ⟨KK, ?_⟩
  exact g.go (H2) KK ⟨rfl, rfl, trivial⟩ ⟨_, .refl _, KK⟩ rfl
 have H4 : ∀ bC bS : Nat, T 3 #[tt,tt,tt,tt,tt,tt,tt,tt,tt,tt,tt,tt,tt,tt,tt,tt,tt,tt,tt,tt,ff,ff,ff] ⟨[s1q, s2q, s3q, (20, Qr sg), (23, slq bS 1)], [e1q, faq bC q99 (2, 3), cl bS #[slq bC 2] 22], []⟩ := by
  intro bC bS
  refine g.one _ _ _ 20 (by kernel_rfl) KK ?_
  refine ct rfl ?_
  refine cvs (fun w' hs => hrt w' _ (Parts.made hs 2 [Lib.byteCells [97, 98]] 1 rfl rfl rfl rfl (fun i u xs hu hx => qbV (Rd.ent hs 1 rfl rfl rfl) hu hx) (by decide))) ?_
  refine ⟨KK, ?_⟩
  exact g.go (H3) KK ⟨rfl, rfl, trivial⟩ ⟨_, .refl _, KK⟩ rfl
 have H5 : ∀ bC : Nat, T 4 #[tt,tt,tt,tt,tt,tt,tt,tt,tt,tt,tt,tt,tt,tt,tt,tt,tt,tt,tt,ff,ff,ff,ff] ⟨[s1q, s2q, s3q, (20, Qr sg), (22, slq bC 2)], [e1q, faq bC q99 (2, 3)], []⟩ := by
  intro bC
  refine g.one _ _ _ 19 (by kernel_rfl) KK ?_
  refine ct rfl ?_
  refine .mk #[slq bC 2] 22 (fun w => Zw _ _ _ w) (fun bS => ?_)
  refine ⟨KK, ?_⟩
  exact g.go (H4 bC bS) KK ⟨rfl, rfl, rfl, rfl, rfl, trivial⟩ ⟨_, .refl _, (.cons (.cons KK))⟩ rfl
 have H6 : ∀ bA bB bR bC bS : Nat, T 4 #[tt,tt,tt,tt,tt,tt,tt,tt,tt,tt,tt,tt,tt,tt,tt,tt,ff,tt,tt,tt,ff,ff,ff] ⟨[s1q, s2q, s3q, (19, slq bR 2), (23, slq bS 1)], [e1q, faq bA q97 (1, 2), faq bB q98 (1, 2), cl bR #[slq bA 1, slq bB 1] 22, faq bC q99 (2, 3), cl bS #[slq bC 2] 22], []⟩ := by
  intro bA bB bR bC bS
  refine g.one _ _ _ 16 (by kernel_rfl) KK ?_
  refine ct rfl ?_
  refine cvs (fun w' hs => hsg w' _ (Parts.made hs 3 [Lib.byteCells [97], Lib.byteCells [98]] 2 rfl rfl rfl rfl (fun i u xs hu hx => qcS (Rd.ent hs 1 rfl rfl rfl) (Rd.ent hs 2 rfl rfl rfl) hu hx) (by decide))) ?_
  refine ⟨KK, ?_⟩
  exact g.go (H4 bC bS) KK ⟨rfl, rfl, rfl, rfl, rfl, trivial⟩ ⟨_, .refl _, (.cons (.drop (.drop (.drop (.cons KK)))))⟩ rfl
 have H7 : ∀ bC : Nat, T 5 #[tt,tt,tt,tt,tt,tt,tt,tt,tt,tt,tt,tt,tt,tt,tt,tt,tt,tt,ff,ff,ff,ff,ff] ⟨[s1q, s2q, s3q, (20, Qr sg), (21, slq bC 2)], [e1q, faq bC q99 (0, 0)], []⟩ := by
  intro bC
  refine g.one _ _ _ 18 (by kernel_rfl) KK ?_
  refine ct rfl ?_
  refine cvB 1 q8 Qj rfl ?_
  refine ⟨KK, ?_⟩
  exact g.go (H5 bC) KK ⟨rfl, rfl, rfl, rfl, rfl, trivial⟩ ⟨_, .refl _, (.cons KK)⟩ rfl
 have H8 : ∀ bA bB bR bC : Nat, T 5 #[tt,tt,tt,tt,tt,tt,tt,tt,tt,tt,tt,tt,tt,tt,tt,tt,ff,tt,tt,ff,ff,ff,ff] ⟨[s1q, s2q, s3q, (19, slq bR 2), (22, slq bC 2)], [e1q, faq bA q97 (1, 2), faq bB q98 (1, 2), cl bR #[slq bA 1, slq bB 1] 22, faq bC q99 (2, 3)], []⟩ := by
  intro bA bB bR bC
  refine g.two _ _ _ 16 19 (by kernel_rfl) KK ?_ ?_
  · refine ct rfl ?_
    refine cvs (fun w' hs => hsg w' _ (Parts.made hs 3 [Lib.byteCells [97], Lib.byteCells [98]] 2 rfl rfl rfl rfl (fun i u xs hu hx => qcS (Rd.ent hs 1 rfl rfl rfl) (Rd.ent hs 2 rfl rfl rfl) hu hx) (by decide))) ?_
    refine ⟨KK, ?_⟩
    exact g.go (H5 bC) KK ⟨rfl, rfl, rfl, rfl, rfl, trivial⟩ ⟨_, .refl _, (.cons (.drop (.drop (.drop KK))))⟩ rfl
  · refine ct rfl ?_
    refine .mk #[slq bC 2] 22 (fun w => Zw _ _ _ w) (fun bS => ?_)
    refine ⟨KK, ?_⟩
    exact g.go (H6 bA bB bR bC bS) KK ⟨rfl, rfl, rfl, rfl, rfl, trivial⟩ ⟨_, .refl _, (.cons (.cons (.cons (.cons (.cons KK)))))⟩ rfl
 have H9 : ∀ bA bB bC bS : Nat, T 5 #[tt,tt,tt,tt,tt,tt,tt,tt,tt,tt,tt,tt,tt,tt,tt,ff,ff,tt,tt,tt,ff,ff,ff] ⟨[s1q, s2q, s3q, (16, slq bA 1), (18, slq bB 1), (23, slq bS 1)], [e1q, faq bA q97 (1, 2), faq bB q98 (1, 2), faq bC q99 (2, 3), cl bS #[slq bC 2] 22], []⟩ := by
  intro bA bB bC bS
  refine g.one _ _ _ 15 (by kernel_rfl) KK ?_
  refine ct rfl ?_
  refine .mk #[slq bA 1, slq bB 1] 22 (fun w => bss2 _ _ _ _ _ _ w) (fun bR => ?_)
  refine ⟨KK, ?_⟩
  exact g.go (H6 bA bB bR bC bS) KK ⟨rfl, rfl, rfl, rfl, rfl, trivial⟩ ⟨_, (qB [_, _, _] _ [_, _]), .refl _⟩ rfl
 have H10 : T 6 #[tt,tt,tt,tt,tt,tt,tt,tt,tt,tt,tt,tt,tt,tt,tt,tt,tt,ff,ff,ff,ff,ff,ff] ⟨[s1q, s2q, s3q, (20, Qr sg)], [e1q], []⟩ := by
  refine g.one _ _ _ 17 (by kernel_rfl) KK ?_
  refine ct rfl ?_
  refine .mk q99 5 (fun w => bs2 97 98 w) (fun bC => ?_)
  refine ⟨KK, ?_⟩
  exact g.go (H7 bC) KK ⟨rfl, rfl, rfl, rfl, rfl, trivial⟩ ⟨_, .refl _, (.cons KK)⟩ rfl
 have H11 : ∀ bA bB bR bC : Nat, T 6 #[tt,tt,tt,tt,tt,tt,tt,tt,tt,tt,tt,tt,tt,tt,tt,tt,ff,tt,ff,ff,ff,ff,ff] ⟨[s1q, s2q, s3q, (19, slq bR 2), (21, slq bC 2)], [e1q, faq bA q97 (1, 2), faq bB q98 (1, 2), cl bR #[slq bA 1, slq bB 1] 22, faq bC q99 (0, 0)], []⟩ := by
  intro bA bB bR bC
  refine g.two _ _ _ 16 18 (by kernel_rfl) KK ?_ ?_
  · refine ct rfl ?_
    refine cvs (fun w' hs => hsg w' _ (Parts.made hs 3 [Lib.byteCells [97], Lib.byteCells [98]] 2 rfl rfl rfl rfl (fun i u xs hu hx => qcS (Rd.ent hs 1 rfl rfl rfl) (Rd.ent hs 2 rfl rfl rfl) hu hx) (by decide))) ?_
    refine ⟨KK, ?_⟩
    exact g.go (H7 bC) KK ⟨rfl, rfl, rfl, rfl, rfl, trivial⟩ ⟨_, .refl _, (.cons (.drop (.drop (.drop KK))))⟩ rfl
  · refine ct rfl ?_
    refine cvB 4 q8 Qj rfl ?_
    refine ⟨KK, ?_⟩
    exact g.go (H8 bA bB bR bC) KK ⟨rfl, rfl, rfl, rfl, rfl, trivial⟩ ⟨_, .refl _, (.cons (.cons (.cons (.cons KK))))⟩ rfl
 have H12 : ∀ bA bB bC : Nat, T 6 #[tt,tt,tt,tt,tt,tt,tt,tt,tt,tt,tt,tt,tt,tt,tt,ff,ff,tt,tt,ff,ff,ff,ff] ⟨[s1q, s2q, s3q, (16, slq bA 1), (18, slq bB 1), (22, slq bC 2)], [e1q, faq bA q97 (1, 2), faq bB q98 (1, 2), faq bC q99 (2, 3)], []⟩ := by
  intro bA bB bC
  refine g.two _ _ _ 15 19 (by kernel_rfl) KK ?_ ?_
  · refine ct rfl ?_
    refine .mk #[slq bA 1, slq bB 1] 22 (fun w => bss2 _ _ _ _ _ _ w) (fun bR => ?_)
    refine ⟨KK, ?_⟩
    exact g.go (H8 bA bB bR bC) KK ⟨rfl, rfl, rfl, rfl, rfl, trivial⟩ ⟨_, (qB [_, _, _] _ [_]), .refl _⟩ rfl
  · refine ct rfl ?_
    refine .mk #[slq bC 2] 22 (fun w => Zw _ _ _ w) (fun bS => ?_)
    refine ⟨KK, ?_⟩
    exact g.go (H9 bA bB bC bS) KK ⟨rfl, rfl, rfl, rfl, rfl, rfl, trivial⟩ ⟨_, .refl _, (.cons (.cons (.cons (.cons KK))))⟩ rfl
 have H13 : ∀ bA bB bC bS : Nat, T 6 #[tt,tt,tt,tt,tt,tt,tt,tt,tt,tt,tt,tt,tt,tt,ff,ff,ff,tt,tt,tt,ff,ff,ff] ⟨[s1q, s2q, s3q, (16, slq bA 1), (17, slq bB 1), (23, slq bS 1)], [e1q, faq bA q97 (1, 2), faq bB q98 (0, 0), faq bC q99 (2, 3), cl bS #[slq bC 2] 22], []⟩ := by
  intro bA bB bC bS
  refine g.one _ _ _ 14 (by kernel_rfl) KK ?_
  refine ct rfl ?_
  refine cvB 2 q8 Qj rfl ?_
  refine ⟨KK, ?_⟩
  exact g.go (H9 bA bB bC bS) KK ⟨rfl, rfl, rfl, rfl, rfl, rfl, trivial⟩ ⟨_, .refl _, (.cons (.cons (.cons (.cons KK))))⟩ rfl
 have H14 : ∀ bA bB bC bS : Nat, T 6 #[tt,tt,tt,tt,tt,tt,tt,tt,tt,tt,tt,tt,ff,tt,tt,ff,ff,tt,tt,tt,ff,ff,ff] ⟨[s1q, s2q, s3q, (15, slq bA 1), (18, slq bB 1), (23, slq bS 1)], [e1q, faq bA q97 (0, 0), faq bB q98 (1, 2), faq bC q99 (2, 3), cl bS #[slq bC 2] 22], []⟩ := by
  intro bA bB bC bS
  refine g.one _ _ _ 12 (by kernel_rfl) KK ?_
  refine ct rfl ?_
  refine cvB 1 q8 Qj rfl ?_
  refine ⟨KK, ?_⟩
  exact g.go (H9 bA bB bC bS) KK ⟨rfl, rfl, rfl, rfl, rfl, rfl, trivial⟩ ⟨_, .refl _, (.cons (.cons (.cons (.cons KK))))⟩ rfl
 have H15 : ∀ bA bB bR : Nat, T 7 #[tt,tt,tt,tt,tt,tt,tt,tt,tt,tt,tt,tt,tt,tt,tt,tt,ff,ff,ff,ff,ff,ff,ff] ⟨[s1q, s2q, s3q, (19, slq bR 2)], [e1q, faq bA q97 (1, 2), faq bB q98 (1, 2), cl bR #[slq bA 1, slq bB 1] 22], []⟩ := by
  intro bA bB bR
  refine g.two _ _ _ 16 17 (by kernel_rfl) KK ?_ ?_
  · refine ct rfl ?_
    refine cvs (fun w' hs => hsg w' _ (Parts.made hs 3 [Lib.byteCells [97], Lib.byteCells [98]] 2 rfl rfl rfl rfl (fun i u xs hu hx => qcS (Rd.ent hs 1 rfl rfl rfl) (Rd.ent hs 2 rfl rfl rfl) hu hx) (by decide))) ?_
    refine ⟨KK, ?_⟩
    exact g.go (H10) KK ⟨rfl, rfl, rfl, rfl, trivial⟩ ⟨_, .refl _, KK⟩ rfl
  · refine ct rfl ?_
    refine .mk q99 5 (fun w => bs2 97 98 w) (fun bC => ?_)
    refine ⟨KK, ?_⟩
    exact g.go (H11 bA bB bR bC) KK ⟨rfl, rfl, rfl, rfl, rfl, trivial⟩ ⟨_, .refl _, (.cons (.cons (.cons (.cons KK))))⟩ rfl
 have H16 : ∀ bA bB bC : Nat, T 7 #[tt,tt,tt,tt,tt,tt,tt,tt,tt,tt,tt,tt,tt,tt,tt,ff,ff,tt,ff,ff,ff,ff,ff] ⟨[s1q, s2q, s3q, (16, slq bA 1), (18, slq bB 1), (21, slq bC 2)], [e1q, faq bA q97 (1, 2), faq bB q98 (1, 2), faq bC q99 (0, 0)], []⟩ := by
  intro bA bB bC
  refine g.two _ _ _ 15 18 (by kernel_rfl) KK ?_ ?_
  · refine ct rfl ?_
    refine .mk #[slq bA 1, slq bB 1] 22 (fun w => bss2 _ _ _ _ _ _ w) (fun bR => ?_)
    refine ⟨KK, ?_⟩
    exact g.go (H11 bA bB bR bC) KK ⟨rfl, rfl, rfl, rfl, rfl, trivial⟩ ⟨_, (qB [_, _, _] _ [_]), .refl _⟩ rfl
  · refine ct rfl ?_
    refine cvB 3 q8 Qj rfl ?_
    refine ⟨KK, ?_⟩
    exact g.go (H12 bA bB bC) KK ⟨rfl, rfl, rfl, rfl, rfl, rfl, trivial⟩ ⟨_, .refl _, (.cons (.cons (.cons KK)))⟩ rfl
 have H17 : ∀ bA bB bC : Nat, T 7 #[tt,tt,tt,tt,tt,tt,tt,tt,tt,tt,tt,tt,tt,tt,ff,ff,ff,tt,tt,ff,ff,ff,ff] ⟨[s1q, s2q, s3q, (16, slq bA 1), (17, slq bB 1), (22, slq bC 2)], [e1q, faq bA q97 (1, 2), faq bB q98 (0, 0), faq bC q99 (2, 3)], []⟩ := by
  intro bA bB bC
  refine g.two _ _ _ 14 19 (by kernel_rfl) KK ?_ ?_
  · refine ct rfl ?_
    refine cvB 2 q8 Qj rfl ?_
    refine ⟨KK, ?_⟩
    exact g.go (H12 bA bB bC) KK ⟨rfl, rfl, rfl, rfl, rfl, rfl, trivial⟩ ⟨_, .refl _, (.cons (.cons (.cons KK)))⟩ rfl
  · refine ct rfl ?_
    refine .mk #[slq bC 2] 22 (fun w => Zw _ _ _ w) (fun bS => ?_)
    refine ⟨KK, ?_⟩
    exact g.go (H13 bA bB bC bS) KK ⟨rfl, rfl, rfl, rfl, rfl, rfl, trivial⟩ ⟨_, .refl _, (.cons (.cons (.cons (.cons KK))))⟩ rfl
 have H18 : ∀ bA bC bS : Nat, T 7 #[tt,tt,tt,tt,tt,tt,tt,tt,tt,tt,tt,tt,tt,ff,ff,ff,ff,tt,tt,tt,ff,ff,ff] ⟨[s1q, s2q, s3q, (16, slq bA 1), (23, slq bS 1)], [e1q, faq bA q97 (1, 2), faq bC q99 (2, 3), cl bS #[slq bC 2] 22], []⟩ := by
  intro bA bC bS
  refine g.one _ _ _ 13 (by kernel_rfl) KK ?_
  refine ct rfl ?_
  refine .mk q98 5 (fun w => bs5 98 w) (fun bB => ?_)
  refine ⟨KK, ?_⟩
  exact g.go (H13 bA bB bC bS) KK ⟨rfl, rfl, rfl, rfl, rfl, rfl, trivial⟩ ⟨_, (qB [_, _] _ [_, _]), .refl _⟩ rfl
 have H19 : ∀ bA bB bC : Nat, T 7 #[tt,tt,tt,tt,tt,tt,tt,tt,tt,tt,tt,tt,ff,tt,tt,ff,ff,tt,tt,ff,ff,ff,ff] ⟨[s1q, s2q, s3q, (15, slq bA 1), (18, slq bB 1), (22, slq bC 2)], [e1q, faq bA q97 (0, 0), faq bB q98 (1, 2), faq bC q99 (2, 3)], []⟩ := by
  intro bA bB bC
  refine g.two _ _ _ 12 19 (by kernel_rfl) KK ?_ ?_
  · refine ct rfl ?_
    refine cvB 1 q8 Qj rfl ?_
    refine ⟨KK, ?_⟩
    exact g.go (H12 bA bB bC) KK ⟨rfl, rfl, rfl, rfl, rfl, rfl, trivial⟩ ⟨_, .refl _, (.cons (.cons (.cons KK)))⟩ rfl
  · refine ct rfl ?_
    refine .mk #[slq bC 2] 22 (fun w => Zw _ _ _ w) (fun bS => ?_)
    refine ⟨KK, ?_⟩
    exact g.go (H14 bA bB bC bS) KK ⟨rfl, rfl, rfl, rfl, rfl, rfl, trivial⟩ ⟨_, .refl _, (.cons (.cons (.cons (.cons KK))))⟩ rfl
 have H20 : ∀ bA bB bC bS : Nat, T 7 #[tt,tt,tt,tt,tt,tt,tt,tt,tt,tt,tt,tt,ff,tt,ff,ff,ff,tt,tt,tt,ff,ff,ff] ⟨[s1q, s2q, s3q, (15, slq bA 1), (17, slq bB 1), (23, slq bS 1)], [e1q, faq bA q97 (0, 0), faq bB q98 (0, 0), faq bC q99 (2, 3), cl bS #[slq bC 2] 22], []⟩ := by
  intro bA bB bC bS
  refine g.two _ _ _ 12 14 (by kernel_rfl) KK ?_ ?_
  · refine ct rfl ?_
    refine cvB 1 q8 Qj rfl ?_
    refine ⟨KK, ?_⟩
    exact g.go (H13 bA bB bC bS) KK ⟨rfl, rfl, rfl, rfl, rfl, rfl, trivial⟩ ⟨_, .refl _, (.cons (.cons (.cons (.cons KK))))⟩ rfl
  · refine ct rfl ?_
    refine cvB 2 q8 Qj rfl ?_
    refine ⟨KK, ?_⟩
    exact g.go (H14 bA bB bC bS) KK ⟨rfl, rfl, rfl, rfl, rfl, rfl, trivial⟩ ⟨_, .refl _, (.cons (.cons (.cons (.cons KK))))⟩ rfl
 have H21 : ∀ bB bC bS : Nat, T 7 #[tt,tt,tt,tt,tt,tt,tt,tt,tt,tt,tt,ff,ff,tt,tt,ff,ff,tt,tt,tt,ff,ff,ff] ⟨[s1q, s2q, s3q, (18, slq bB 1), (23, slq bS 1)], [e1q, faq bB q98 (1, 2), faq bC q99 (2, 3), cl bS #[slq bC 2] 22], []⟩ := by
  intro bB bC bS
  refine g.one _ _ _ 11 (by kernel_rfl) KK ?_
  refine ct rfl ?_
  refine .mk q97 5 (fun w => bs5 97 w) (fun bA => ?_)
  refine ⟨KK, ?_⟩
  exact g.go (H14 bA bB bC bS) KK ⟨rfl, rfl, rfl, rfl, rfl, rfl, trivial⟩ ⟨_, (qB [_] _ [_, _, _]), .refl _⟩ rfl
 have H22 : ∀ bA bB : Nat, T 8 #[tt,tt,tt,tt,tt,tt,tt,tt,tt,tt,tt,tt,tt,tt,tt,ff,ff,ff,ff,ff,ff,ff,ff] ⟨[s1q, s2q, s3q, (16, slq bA 1), (18, slq bB 1)], [e1q, faq bA q97 (1, 2), faq bB q98 (1, 2)], []⟩ := by
  intro bA bB
  refine g.two _ _ _ 15 17 (by kernel_rfl) KK ?_ ?_
  · refine ct rfl ?_
    refine .mk #[slq bA 1, slq bB 1] 22 (fun w => bss2 _ _ _ _ _ _ w) (fun bR => ?_)
    refine ⟨KK, ?_⟩
    exact g.go (H15 bA bB bR) KK ⟨rfl, rfl, rfl, rfl, trivial⟩ ⟨_, .refl _, (.cons (.cons (.cons KK)))⟩ rfl
  · refine ct rfl ?_
    refine .mk q99 5 (fun w => bs2 97 98 w) (fun bC => ?_)
    refine ⟨KK, ?_⟩
    exact g.go (H16 bA bB bC) KK ⟨rfl, rfl, rfl, rfl, rfl, rfl, trivial⟩ ⟨_, .refl _, (.cons (.cons (.cons KK)))⟩ rfl
 have H23 : ∀ bA bB bC : Nat, T 8 #[tt,tt,tt,tt,tt,tt,tt,tt,tt,tt,tt,tt,tt,tt,ff,ff,ff,tt,ff,ff,ff,ff,ff] ⟨[s1q, s2q, s3q, (16, slq bA 1), (17, slq bB 1), (21, slq bC 2)], [e1q, faq bA q97 (1, 2), faq bB q98 (0, 0), faq bC q99 (0, 0)], []⟩ := by
  intro bA bB bC
  refine g.two _ _ _ 14 18 (by kernel_rfl) KK ?_ ?_
  · refine ct rfl ?_
    refine cvB 2 q8 Qj rfl ?_
    refine ⟨KK, ?_⟩
    exact g.go (H16 bA bB bC) KK ⟨rfl, rfl, rfl, rfl, rfl, rfl, trivial⟩ ⟨_, .refl _, (.cons (.cons (.cons KK)))⟩ rfl
  · refine ct rfl ?_
    refine cvB 3 q8 Qj rfl ?_
    refine ⟨KK, ?_⟩
    exact g.go (H17 bA bB bC) KK ⟨rfl, rfl, rfl, rfl, rfl, rfl, trivial⟩ ⟨_, .refl _, (.cons (.cons (.cons KK)))⟩ rfl
 have H24 : ∀ bA bC : Nat, T 8 #[tt,tt,tt,tt,tt,tt,tt,tt,tt,tt,tt,tt,tt,ff,ff,ff,ff,tt,tt,ff,ff,ff,ff] ⟨[s1q, s2q, s3q, (16, slq bA 1), (22, slq bC 2)], [e1q, faq bA q97 (1, 2), faq bC q99 (2, 3)], []⟩ := by
  intro bA bC
  refine g.two _ _ _ 13 19 (by kernel_rfl) KK ?_ ?_
  · refine ct rfl ?_
    refine .mk q98 5 (fun w => bs5 98 w) (fun bB => ?_)
    refine ⟨KK, ?_⟩
    exact g.go (H17 bA bB bC) KK ⟨rfl, rfl, rfl, rfl, rfl, rfl, trivial⟩ ⟨_, (qB [_, _] _ [_]), .refl _⟩ rfl
  · refine ct rfl ?_
    refine .mk #[slq bC 2] 22 (fun w => Zw _ _ _ w) (fun bS => ?_)
    refine ⟨KK, ?_⟩
    exact g.go (H18 bA bC bS) KK ⟨rfl, rfl, rfl, rfl, rfl, trivial⟩ ⟨_, .refl _, (.cons (.cons (.cons KK)))⟩ rfl
 have H25 : ∀ bA bB bC : Nat, T 8 #[tt,tt,tt,tt,tt,tt,tt,tt,tt,tt,tt,tt,ff,tt,tt,ff,ff,tt,ff,ff,ff,ff,ff] ⟨[s1q, s2q, s3q, (15, slq bA 1), (18, slq bB 1), (21, slq bC 2)], [e1q, faq bA q97 (0, 0), faq bB q98 (1, 2), faq bC q99 (0, 0)], []⟩ := by
  intro bA bB bC
  refine g.two _ _ _ 12 18 (by kernel_rfl) KK ?_ ?_
  · refine ct rfl ?_
    refine cvB 1 q8 Qj rfl ?_
    refine ⟨KK, ?_⟩
    exact g.go (H16 bA bB bC) KK ⟨rfl, rfl, rfl, rfl, rfl, rfl, trivial⟩ ⟨_, .refl _, (.cons (.cons (.cons KK)))⟩ rfl
  · refine ct rfl ?_
    refine cvB 3 q8 Qj rfl ?_
    refine ⟨KK, ?_⟩
    exact g.go (H19 bA bB bC) KK ⟨rfl, rfl, rfl, rfl, rfl, rfl, trivial⟩ ⟨_, .refl _, (.cons (.cons (.cons KK)))⟩ rfl
 have H26 : ∀ bA bB bC : Nat, T 8 #[tt,tt,tt,tt,tt,tt,tt,tt,tt,tt,tt,tt,ff,tt,ff,ff,ff,tt,tt,ff,ff,ff,ff] ⟨[s1q, s2q, s3q, (15, slq bA 1), (17, slq bB 1), (22, slq bC 2)], [e1q, faq bA q97 (0, 0), faq bB q98 (0, 0), faq bC q99 (2, 3)], []⟩ := by
  intro bA bB bC
  refine g.three _ _ _ 12 14 19 (by kernel_rfl) KK ?_ ?_ ?_
  · refine ct rfl ?_
    refine cvB 1 q8 Qj rfl ?_
    refine ⟨KK, ?_⟩
    exact g.go (H17 bA bB bC) KK ⟨rfl, rfl, rfl, rfl, rfl, rfl, trivial⟩ ⟨_, .refl _, (.cons (.cons (.cons KK)))⟩ rfl
  · refine ct rfl ?_
    refine cvB 2 q8 Qj rfl ?_
    refine ⟨KK, ?_⟩
    exact g.go (H19 bA bB bC) KK ⟨rfl, rfl, rfl, rfl, rfl, rfl, trivial⟩ ⟨_, .refl _, (.cons (.cons (.cons KK)))⟩ rfl
  · refine ct rfl ?_
    refine .mk #[slq bC 2] 22 (fun w => Zw _ _ _ w) (fun bS => ?_)
    refine ⟨KK, ?_⟩
    exact g.go (H20 bA bB bC bS) KK ⟨rfl, rfl, rfl, rfl, rfl, rfl, trivial⟩ ⟨_, .refl _, (.cons (.cons (.cons (.cons KK))))⟩ rfl
 have H27 : ∀ bA bC bS : Nat, T 8 #[tt,tt,tt,tt,tt,tt,tt,tt,tt,tt,tt,tt,ff,ff,ff,ff,ff,tt,tt,tt,ff,ff,ff] ⟨[s1q, s2q, s3q, (15, slq bA 1), (23, slq bS 1)], [e1q, faq bA q97 (0, 0), faq bC q99 (2, 3), cl bS #[slq bC 2] 22], []⟩ := by
  intro bA bC bS
  refine g.two _ _ _ 12 13 (by kernel_rfl) KK ?_ ?_
  · refine ct rfl ?_
    refine cvB 1 q8 Qj rfl ?_
    refine ⟨KK, ?_⟩
    exact g.go (H18 bA bC bS) KK ⟨rfl, rfl, rfl, rfl, rfl, trivial⟩ ⟨_, .refl _, (.cons (.cons (.cons KK)))⟩ rfl
  · refine ct rfl ?_
    refine .mk q98 5 (fun w => bs5 98 w) (fun bB => ?_)
    refine ⟨KK, ?_⟩
    exact g.go (H20 bA bB bC bS) KK ⟨rfl, rfl, rfl, rfl, rfl, rfl, trivial⟩ ⟨_, (qB [_, _] _ [_, _]), .refl _⟩ rfl
 have H28 : ∀ bB bC : Nat, T 8 #[tt,tt,tt,tt,tt,tt,tt,tt,tt,tt,tt,ff,ff,tt,tt,ff,ff,tt,tt,ff,ff,ff,ff] ⟨[s1q, s2q, s3q, (18, slq bB 1), (22, slq bC 2)], [e1q, faq bB q98 (1, 2), faq bC q99 (2, 3)], []⟩ := by
  intro bB bC
  refine g.two _ _ _ 11 19 (by kernel_rfl) KK ?_ ?_
  · refine ct rfl ?_
    refine .mk q97 5 (fun w => bs5 97 w) (fun bA => ?_)
    refine ⟨KK, ?_⟩
    exact g.go (H19 bA bB bC) KK ⟨rfl, rfl, rfl, rfl, rfl, rfl, trivial⟩ ⟨_, (qB [_] _ [_, _]), .refl _⟩ rfl
  · refine ct rfl ?_
    refine .mk #[slq bC 2] 22 (fun w => Zw _ _ _ w) (fun bS => ?_)
    refine ⟨KK, ?_⟩
    exact g.go (H21 bB bC bS) KK ⟨rfl, rfl, rfl, rfl, rfl, trivial⟩ ⟨_, .refl _, (.cons (.cons (.cons KK)))⟩ rfl
 have H29 : ∀ bB bC bS : Nat, T 8 #[tt,tt,tt,tt,tt,tt,tt,tt,tt,tt,tt,ff,ff,tt,ff,ff,ff,tt,tt,tt,ff,ff,ff] ⟨[s1q, s2q, s3q, (17, slq bB 1), (23, slq bS 1)], [e1q, faq bB q98 (0, 0), faq bC q99 (2, 3), cl bS #[slq bC 2] 22], []⟩ := by
  intro bB bC bS
  refine g.two _ _ _ 11 14 (by kernel_rfl) KK ?_ ?_
  · refine ct rfl ?_
    refine .mk q97 5 (fun w => bs5 97 w) (fun bA => ?_)
    refine ⟨KK, ?_⟩
    exact g.go (H20 bA bB bC bS) KK ⟨rfl, rfl, rfl, rfl, rfl, rfl, trivial⟩ ⟨_, (qB [_] _ [_, _, _]), .refl _⟩ rfl
  · refine ct rfl ?_
    refine cvB 1 q8 Qj rfl ?_
    refine ⟨KK, ?_⟩
    exact g.go (H21 bB bC bS) KK ⟨rfl, rfl, rfl, rfl, rfl, trivial⟩ ⟨_, .refl _, (.cons (.cons (.cons KK)))⟩ rfl
 have H30 : ∀ bA bB : Nat, T 9 #[tt,tt,tt,tt,tt,tt,tt,tt,tt,tt,tt,tt,tt,tt,ff,ff,ff,ff,ff,ff,ff,ff,ff] ⟨[s1q, s2q, s3q, (16, slq bA 1), (17, slq bB 1)], [e1q, faq bA q97 (1, 2), faq bB q98 (0, 0)], []⟩ := by
  intro bA bB
  refine g.two _ _ _ 14 17 (by kernel_rfl) KK ?_ ?_
  · refine ct rfl ?_
    refine cvB 2 q8 Qj rfl ?_
    refine ⟨KK, ?_⟩
    exact g.go (H22 bA bB) KK ⟨rfl, rfl, rfl, rfl, rfl, trivial⟩ ⟨_, .refl _, (.cons (.cons KK))⟩ rfl
  · refine ct rfl ?_
    refine .mk q99 5 (fun w => bs2 97 98 w) (fun bC => ?_)
    refine ⟨KK, ?_⟩
    exact g.go (H23 bA bB bC) KK ⟨rfl, rfl, rfl, rfl, rfl, rfl, trivial⟩ ⟨_, .refl _, (.cons (.cons (.cons KK)))⟩ rfl
 have H31 : ∀ bA bC : Nat, T 9 #[tt,tt,tt,tt,tt,tt,tt,tt,tt,tt,tt,tt,tt,ff,ff,ff,ff,tt,ff,ff,ff,ff,ff] ⟨[s1q, s2q, s3q, (16, slq bA 1), (21, slq bC 2)], [e1q, faq bA q97 (1, 2), faq bC q99 (0, 0)], []⟩ := by
  intro bA bC
  refine g.two _ _ _ 13 18 (by kernel_rfl) KK ?_ ?_
  · refine ct rfl ?_
    refine .mk q98 5 (fun w => bs5 98 w) (fun bB => ?_)
    refine ⟨KK, ?_⟩
    exact g.go (H23 bA bB bC) KK ⟨rfl, rfl, rfl, rfl, rfl, rfl, trivial⟩ ⟨_, (qB [_, _] _ [_]), .refl _⟩ rfl
  · refine ct rfl ?_
    refine cvB 2 q8 Qj rfl ?_
    refine ⟨KK, ?_⟩
    exact g.go (H24 bA bC) KK ⟨rfl, rfl, rfl, rfl, rfl, trivial⟩ ⟨_, .refl _, (.cons (.cons KK))⟩ rfl
 have H32 : ∀ bA bB : Nat, T 9 #[tt,tt,tt,tt,tt,tt,tt,tt,tt,tt,tt,tt,ff,tt,tt,ff,ff,ff,ff,ff,ff,ff,ff] ⟨[s1q, s2q, s3q, (15, slq bA 1), (18, slq bB 1)], [e1q, faq bA q97 (0, 0), faq bB q98 (1, 2)], []⟩ := by
  intro bA bB
  refine g.two _ _ _ 12 17 (by kernel_rfl) KK ?_ ?_
  · refine ct rfl ?_
    refine cvB 1 q8 Qj rfl ?_
    refine ⟨KK, ?_⟩
    exact g.go (H22 bA bB) KK ⟨rfl, rfl, rfl, rfl, rfl, trivial⟩ ⟨_, .refl _, (.cons (.cons KK))⟩ rfl
  · refine ct rfl ?_
    refine .mk q99 5 (fun w => bs2 97 98 w) (fun bC => ?_)
    refine ⟨KK, ?_⟩
    exact g.go (H25 bA bB bC) KK ⟨rfl, rfl, rfl, rfl, rfl, rfl, trivial⟩ ⟨_, .refl _, (.cons (.cons (.cons KK)))⟩ rfl
 have H33 : ∀ bA bB bC : Nat, T 9 #[tt,tt,tt,tt,tt,tt,tt,tt,tt,tt,tt,tt,ff,tt,ff,ff,ff,tt,ff,ff,ff,ff,ff] ⟨[s1q, s2q, s3q, (15, slq bA 1), (17, slq bB 1), (21, slq bC 2)], [e1q, faq bA q97 (0, 0), faq bB q98 (0, 0), faq bC q99 (0, 0)], []⟩ := by
  intro bA bB bC
  refine g.three _ _ _ 12 14 18 (by kernel_rfl) KK ?_ ?_ ?_
  · refine ct rfl ?_
    refine cvB 1 q8 Qj rfl ?_
    refine ⟨KK, ?_⟩
    exact g.go (H23 bA bB bC) KK ⟨rfl, rfl, rfl, rfl, rfl, rfl, trivial⟩ ⟨_, .refl _, (.cons (.cons (.cons KK)))⟩ rfl
  · refine ct rfl ?_
    refine cvB 2 q8 Qj rfl ?_
    refine ⟨KK, ?_⟩
    exact g.go (H25 bA bB bC) KK ⟨rfl, rfl, rfl, rfl, rfl, rfl, trivial⟩ ⟨_, .refl _, (.cons (.cons (.cons KK)))⟩ rfl
  · refine ct rfl ?_
    refine cvB 3 q8 Qj rfl ?_
    refine ⟨KK, ?_⟩
    exact g.go (H26 bA bB bC) KK ⟨rfl, rfl, rfl, rfl, rfl, rfl, trivial⟩ ⟨_, .refl _, (.cons (.cons (.cons KK)))⟩ rfl
 have H34 : ∀ bA bC : Nat, T 9 #[tt,tt,tt,tt,tt,tt,tt,tt,tt,tt,tt,tt,ff,ff,ff,ff,ff,tt,tt,ff,ff,ff,ff] ⟨[s1q, s2q, s3q, (15, slq bA 1), (22, slq bC 2)], [e1q, faq bA q97 (0, 0), faq bC q99 (2, 3)], []⟩ := by
  intro bA bC
  refine g.three _ _ _ 12 13 19 (by kernel_rfl) KK ?_ ?_ ?_
  · refine ct rfl ?_
    refine cvB 1 q8 Qj rfl ?_
    refine ⟨KK, ?_⟩
    exact g.go (H24 bA bC) KK ⟨rfl, rfl, rfl, rfl, rfl, trivial⟩ ⟨_, .refl _, (.cons (.cons KK))⟩ rfl
  · refine ct rfl ?_
    refine .mk q98 5 (fun w => bs5 98 w) (fun bB => ?_)
    refine ⟨KK, ?_⟩
    exact g.go (H26 bA bB bC) KK ⟨rfl, rfl, rfl, rfl, rfl, rfl, trivial⟩ ⟨_, (qB [_, _] _ [_]), .refl _⟩ rfl
  · refine ct rfl ?_
    refine .mk #[slq bC 2] 22 (fun w => Zw _ _ _ w) (fun bS => ?_)
    refine ⟨KK, ?_⟩
    exact g.go (H27 bA bC bS) KK ⟨rfl, rfl, rfl, rfl, rfl, trivial⟩ ⟨_, .refl _, (.cons (.cons (.cons KK)))⟩ rfl
 have H35 : ∀ bB bC : Nat, T 9 #[tt,tt,tt,tt,tt,tt,tt,tt,tt,tt,tt,ff,ff,tt,tt,ff,ff,tt,ff,ff,ff,ff,ff] ⟨[s1q, s2q, s3q, (18, slq bB 1), (21, slq bC 2)], [e1q, faq bB q98 (1, 2), faq bC q99 (0, 0)], []⟩ := by
  intro bB bC
  refine g.two _ _ _ 11 18 (by kernel_rfl) KK ?_ ?_
  · refine ct rfl ?_
    refine .mk q97 5 (fun w => bs5 97 w) (fun bA => ?_)
    refine ⟨KK, ?_⟩
    exact g.go (H25 bA bB bC) KK ⟨rfl, rfl, rfl, rfl, rfl, rfl, trivial⟩ ⟨_, (qB [_] _ [_, _]), .refl _⟩ rfl
  · refine ct rfl ?_
    refine cvB 2 q8 Qj rfl ?_
    refine ⟨KK, ?_⟩
    exact g.go (H28 bB bC) KK ⟨rfl, rfl, rfl, rfl, rfl, trivial⟩ ⟨_, .refl _, (.cons (.cons KK))⟩ rfl
 have H36 : ∀ bB bC : Nat, T 9 #[tt,tt,tt,tt,tt,tt,tt,tt,tt,tt,tt,ff,ff,tt,ff,ff,ff,tt,tt,ff,ff,ff,ff] ⟨[s1q, s2q, s3q, (17, slq bB 1), (22, slq bC 2)], [e1q, faq bB q98 (0, 0), faq bC q99 (2, 3)], []⟩ := by
  intro bB bC
  refine g.three _ _ _ 11 14 19 (by kernel_rfl) KK ?_ ?_ ?_
  · refine ct rfl ?_
    refine .mk q97 5 (fun w => bs5 97 w) (fun bA => ?_)
    refine ⟨KK, ?_⟩
    exact g.go (H26 bA bB bC) KK ⟨rfl, rfl, rfl, rfl, rfl, rfl, trivial⟩ ⟨_, (qB [_] _ [_, _]), .refl _⟩ rfl
  · refine ct rfl ?_
    refine cvB 1 q8 Qj rfl ?_
    refine ⟨KK, ?_⟩
    exact g.go (H28 bB bC) KK ⟨rfl, rfl, rfl, rfl, rfl, trivial⟩ ⟨_, .refl _, (.cons (.cons KK))⟩ rfl
  · refine ct rfl ?_
    refine .mk #[slq bC 2] 22 (fun w => Zw _ _ _ w) (fun bS => ?_)
    refine ⟨KK, ?_⟩
    exact g.go (H29 bB bC bS) KK ⟨rfl, rfl, rfl, rfl, rfl, trivial⟩ ⟨_, .refl _, (.cons (.cons (.cons KK)))⟩ rfl
 have H37 : ∀ bC bS : Nat, T 9 #[tt,tt,tt,tt,tt,tt,tt,tt,tt,tt,tt,ff,ff,ff,ff,ff,ff,tt,tt,tt,ff,ff,ff] ⟨[s1q, s2q, s3q, (23, slq bS 1)], [e1q, faq bC q99 (2, 3), cl bS #[slq bC 2] 22], []⟩ := by
  intro bC bS
  refine g.two _ _ _ 11 13 (by kernel_rfl) KK ?_ ?_
  · refine ct rfl ?_
    refine .mk q97 5 (fun w => bs5 97 w) (fun bA => ?_)
    refine ⟨KK, ?_⟩
    exact g.go (H27 bA bC bS) KK ⟨rfl, rfl, rfl, rfl, rfl, trivial⟩ ⟨_, (qB [_] _ [_, _]), .refl _⟩ rfl
  · refine ct rfl ?_
    refine .mk q98 5 (fun w => bs5 98 w) (fun bB => ?_)
    refine ⟨KK, ?_⟩
    exact g.go (H29 bB bC bS) KK ⟨rfl, rfl, rfl, rfl, rfl, trivial⟩ ⟨_, (qB [_] _ [_, _]), .refl _⟩ rfl
 have H38 : ∀ bA : Nat, T 10 #[tt,tt,tt,tt,tt,tt,tt,tt,tt,tt,tt,tt,tt,ff,ff,ff,ff,ff,ff,ff,ff,ff,ff] ⟨[s1q, s2q, s3q, (16, slq bA 1)], [e1q, faq bA q97 (1, 2)], []⟩ := by
  intro bA
  refine g.two _ _ _ 13 17 (by kernel_rfl) KK ?_ ?_
  · refine ct rfl ?_
    refine .mk q98 5 (fun w => bs5 98 w) (fun bB => ?_)
    refine ⟨KK, ?_⟩
    exact g.go (H30 bA bB) KK ⟨rfl, rfl, rfl, rfl, rfl, trivial⟩ ⟨_, .refl _, (.cons (.cons KK))⟩ rfl
  · refine ct rfl ?_
    refine .mk q99 5 (fun w => bs2 97 98 w) (fun bC => ?_)
    refine ⟨KK, ?_⟩
    exact g.go (H31 bA bC) KK ⟨rfl, rfl, rfl, rfl, rfl, trivial⟩ ⟨_, .refl _, (.cons (.cons KK))⟩ rfl
 have H39 : ∀ bA bB : Nat, T 10 #[tt,tt,tt,tt,tt,tt,tt,tt,tt,tt,tt,tt,ff,tt,ff,ff,ff,ff,ff,ff,ff,ff,ff] ⟨[s1q, s2q, s3q, (15, slq bA 1), (17, slq bB 1)], [e1q, faq bA q97 (0, 0), faq bB q98 (0, 0)], []⟩ := by
  intro bA bB
  refine g.three _ _ _ 12 14 17 (by kernel_rfl) KK ?_ ?_ ?_
  · refine ct rfl ?_
    refine cvB 1 q8 Qj rfl ?_
    refine ⟨KK, ?_⟩
    exact g.go (H30 bA bB) KK ⟨rfl, rfl, rfl, rfl, rfl, trivial⟩ ⟨_, .refl _, (.cons (.cons KK))⟩ rfl
  · refine ct rfl ?_
    refine cvB 2 q8 Qj rfl ?_
    refine ⟨KK, ?_⟩
    exact g.go (H32 bA bB) KK ⟨rfl, rfl, rfl, rfl, rfl, trivial⟩ ⟨_, .refl _, (.cons (.cons KK))⟩ rfl
  · refine ct rfl ?_
    refine .mk q99 5 (fun w => bs2 97 98 w) (fun bC => ?_)
    refine ⟨KK, ?_⟩
    exact g.go (H33 bA bB bC) KK ⟨rfl, rfl, rfl, rfl, rfl, rfl, trivial⟩ ⟨_, .refl _, (.cons (.cons (.cons KK)))⟩ rfl
 have H40 : ∀ bA bC : Nat, T 10 #[tt,tt,tt,tt,tt,tt,tt,tt,tt,tt,tt,tt,ff,ff,ff,ff,ff,tt,ff,ff,ff,ff,ff] ⟨[s1q, s2q, s3q, (15, slq bA 1), (21, slq bC 2)], [e1q, faq bA q97 (0, 0), faq bC q99 (0, 0)], []⟩ := by
  intro bA bC
  refine g.three _ _ _ 12 13 18 (by kernel_rfl) KK ?_ ?_ ?_
  · refine ct rfl ?_
    refine cvB 1 q8 Qj rfl ?_
    refine ⟨KK, ?_⟩
    exact g.go (H31 bA bC) KK ⟨rfl, rfl, rfl, rfl, rfl, trivial⟩ ⟨_, .refl _, (.cons (.cons KK))⟩ rfl
  · refine ct rfl ?_
    refine .mk q98 5 (fun w => bs5 98 w) (fun bB => ?_)
    refine ⟨KK, ?_⟩
    exact g.go (H33 bA bB bC) KK ⟨rfl, rfl, rfl, rfl, rfl, rfl, trivial⟩ ⟨_, (qB [_, _] _ [_]), .refl _⟩ rfl
  · refine ct rfl ?_
    refine cvB 2 q8 Qj rfl ?_
    refine ⟨KK, ?_⟩
    exact g.go (H34 bA bC) KK ⟨rfl, rfl, rfl, rfl, rfl, trivial⟩ ⟨_, .refl _, (.cons (.cons KK))⟩ rfl
 have H41 : ∀ bB : Nat, T 10 #[tt,tt,tt,tt,tt,tt,tt,tt,tt,tt,tt,ff,ff,tt,tt,ff,ff,ff,ff,ff,ff,ff,ff] ⟨[s1q, s2q, s3q, (18, slq bB 1)], [e1q, faq bB q98 (1, 2)], []⟩ := by
  intro bB
  refine g.two _ _ _ 11 17 (by kernel_rfl) KK ?_ ?_
  · refine ct rfl ?_
    refine .mk q97 5 (fun w => bs5 97 w) (fun bA => ?_)
    refine ⟨KK, ?_⟩
    exact g.go (H32 bA bB) KK ⟨rfl, rfl, rfl, rfl, rfl, trivial⟩ ⟨_, (qB [_] _ [_]), .refl _⟩ rfl
  · refine ct rfl ?_
    refine .mk q99 5 (fun w => bs2 97 98 w) (fun bC => ?_)
    refine ⟨KK, ?_⟩
    exact g.go (H35 bB bC) KK ⟨rfl, rfl, rfl, rfl, rfl, trivial⟩ ⟨_, .refl _, (.cons (.cons KK))⟩ rfl
 have H42 : ∀ bB bC : Nat, T 10 #[tt,tt,tt,tt,tt,tt,tt,tt,tt,tt,tt,ff,ff,tt,ff,ff,ff,tt,ff,ff,ff,ff,ff] ⟨[s1q, s2q, s3q, (17, slq bB 1), (21, slq bC 2)], [e1q, faq bB q98 (0, 0), faq bC q99 (0, 0)], []⟩ := by
  intro bB bC
  refine g.three _ _ _ 11 14 18 (by kernel_rfl) KK ?_ ?_ ?_
  · refine ct rfl ?_
    refine .mk q97 5 (fun w => bs5 97 w) (fun bA => ?_)
    refine ⟨KK, ?_⟩
    exact g.go (H33 bA bB bC) KK ⟨rfl, rfl, rfl, rfl, rfl, rfl, trivial⟩ ⟨_, (qB [_] _ [_, _]), .refl _⟩ rfl
  · refine ct rfl ?_
    refine cvB 1 q8 Qj rfl ?_
    refine ⟨KK, ?_⟩
    exact g.go (H35 bB bC) KK ⟨rfl, rfl, rfl, rfl, rfl, trivial⟩ ⟨_, .refl _, (.cons (.cons KK))⟩ rfl
  · refine ct rfl ?_
    refine cvB 2 q8 Qj rfl ?_
    refine ⟨KK, ?_⟩
    exact g.go (H36 bB bC) KK ⟨rfl, rfl, rfl, rfl, rfl, trivial⟩ ⟨_, .refl _, (.cons (.cons KK))⟩ rfl
 have H43 : ∀ bC : Nat, T 10 #[tt,tt,tt,tt,tt,tt,tt,tt,tt,tt,tt,ff,ff,ff,ff,ff,ff,tt,tt,ff,ff,ff,ff] ⟨[s1q, s2q, s3q, (22, slq bC 2)], [e1q, faq bC q99 (2, 3)], []⟩ := by
  intro bC
  refine g.three _ _ _ 11 13 19 (by kernel_rfl) KK ?_ ?_ ?_
  · refine ct rfl ?_
    refine .mk q97 5 (fun w => bs5 97 w) (fun bA => ?_)
    refine ⟨KK, ?_⟩
    exact g.go (H34 bA bC) KK ⟨rfl, rfl, rfl, rfl, rfl, trivial⟩ ⟨_, (qB [_] _ [_]), .refl _⟩ rfl
  · refine ct rfl ?_
    refine .mk q98 5 (fun w => bs5 98 w) (fun bB => ?_)
    refine ⟨KK, ?_⟩
    exact g.go (H36 bB bC) KK ⟨rfl, rfl, rfl, rfl, rfl, trivial⟩ ⟨_, (qB [_] _ [_]), .refl _⟩ rfl
  · refine ct rfl ?_
    refine .mk #[slq bC 2] 22 (fun w => Zw _ _ _ w) (fun bS => ?_)
    refine ⟨KK, ?_⟩
    exact g.go (H37 bC bS) KK ⟨rfl, rfl, rfl, rfl, trivial⟩ ⟨_, .refl _, (.cons (.cons KK))⟩ rfl
 have H44 : ∀ bA : Nat, T 11 #[tt,tt,tt,tt,tt,tt,tt,tt,tt,tt,tt,tt,ff,ff,ff,ff,ff,ff,ff,ff,ff,ff,ff] ⟨[s1q, s2q, s3q, (15, slq bA 1)], [e1q, faq bA q97 (0, 0)], []⟩ := by
  intro bA
  refine g.three _ _ _ 12 13 17 (by kernel_rfl) KK ?_ ?_ ?_
  · refine ct rfl ?_
    refine cvB 1 q8 Qj rfl ?_
    refine ⟨KK, ?_⟩
    exact g.go (H38 bA) KK ⟨rfl, rfl, rfl, rfl, trivial⟩ ⟨_, .refl _, (.cons KK)⟩ rfl
  · refine ct rfl ?_
    refine .mk q98 5 (fun w => bs5 98 w) (fun bB => ?_)
    refine ⟨KK, ?_⟩
    exact g.go (H39 bA bB) KK ⟨rfl, rfl, rfl, rfl, rfl, trivial⟩ ⟨_, .refl _, (.cons (.cons KK))⟩ rfl
  · refine ct rfl ?_
    refine .mk q99 5 (fun w => bs2 97 98 w) (fun bC => ?_)
    refine ⟨KK, ?_⟩
    exact g.go (H40 bA bC) KK ⟨rfl, rfl, rfl, rfl, rfl, trivial⟩ ⟨_, .refl _, (.cons (.cons KK))⟩ rfl
 have H45 : ∀ bB : Nat, T 11 #[tt,tt,tt,tt,tt,tt,tt,tt,tt,tt,tt,ff,ff,tt,ff,ff,ff,ff,ff,ff,ff,ff,ff] ⟨[s1q, s2q, s3q, (17, slq bB 1)], [e1q, faq bB q98 (0, 0)], []⟩ := by
  intro bB
  refine g.three _ _ _ 11 14 17 (by kernel_rfl) KK ?_ ?_ ?_
  · refine ct rfl ?_
    refine .mk q97 5 (fun w => bs5 97 w) (fun bA => ?_)
    refine ⟨KK, ?_⟩
    exact g.go (H39 bA bB) KK ⟨rfl, rfl, rfl, rfl, rfl, trivial⟩ ⟨_, (qB [_] _ [_]), .refl _⟩ rfl
  · refine ct rfl ?_
    refine cvB 1 q8 Qj rfl ?_
    refine ⟨KK, ?_⟩
    exact g.go (H41 bB) KK ⟨rfl, rfl, rfl, rfl, trivial⟩ ⟨_, .refl _, (.cons KK)⟩ rfl
  · refine ct rfl ?_
    refine .mk q99 5 (fun w => bs2 97 98 w) (fun bC => ?_)
    refine ⟨KK, ?_⟩
    exact g.go (H42 bB bC) KK ⟨rfl, rfl, rfl, rfl, rfl, trivial⟩ ⟨_, .refl _, (.cons (.cons KK))⟩ rfl
 have H46 : ∀ bC : Nat, T 11 #[tt,tt,tt,tt,tt,tt,tt,tt,tt,tt,tt,ff,ff,ff,ff,ff,ff,tt,ff,ff,ff,ff,ff] ⟨[s1q, s2q, s3q, (21, slq bC 2)], [e1q, faq bC q99 (0, 0)], []⟩ := by
  intro bC
  refine g.three _ _ _ 11 13 18 (by kernel_rfl) KK ?_ ?_ ?_
  · refine ct rfl ?_
    refine .mk q97 5 (fun w => bs5 97 w) (fun bA => ?_)
    refine ⟨KK, ?_⟩
    exact g.go (H40 bA bC) KK ⟨rfl, rfl, rfl, rfl, rfl, trivial⟩ ⟨_, (qB [_] _ [_]), .refl _⟩ rfl
  · refine ct rfl ?_
    refine .mk q98 5 (fun w => bs5 98 w) (fun bB => ?_)
    refine ⟨KK, ?_⟩
    exact g.go (H42 bB bC) KK ⟨rfl, rfl, rfl, rfl, rfl, trivial⟩ ⟨_, (qB [_] _ [_]), .refl _⟩ rfl
  · refine ct rfl ?_
    refine cvB 1 q8 Qj rfl ?_
    refine ⟨KK, ?_⟩
    exact g.go (H43 bC) KK ⟨rfl, rfl, rfl, rfl, trivial⟩ ⟨_, .refl _, (.cons KK)⟩ rfl
 have H0 : T 12 #[tt,tt,tt,tt,tt,tt,tt,tt,tt,tt,tt,ff,ff,ff,ff,ff,ff,ff,ff,ff,ff,ff,ff] ⟨[(12, .bool true), (13, .agg (k32 p0)), (14, .agg (k32 0))], [e1q], []⟩ := by
  refine g.three _ _ _ 11 13 17 (by kernel_rfl) KK ?_ ?_ ?_
  · refine ct rfl ?_
    refine .mk q97 5 (fun w => bs5 97 w) (fun bA => ?_)
    refine ⟨KK, ?_⟩
    exact g.go (H44 bA) KK ⟨rfl, rfl, rfl, rfl, trivial⟩ ⟨_, .refl _, (.cons KK)⟩ rfl
  · refine ct rfl ?_
    refine .mk q98 5 (fun w => bs5 98 w) (fun bB => ?_)
    refine ⟨KK, ?_⟩
    exact g.go (H45 bB) KK ⟨rfl, rfl, rfl, rfl, trivial⟩ ⟨_, .refl _, (.cons KK)⟩ rfl
  · refine ct rfl ?_
    refine .mk q99 5 (fun w => bs2 97 98 w) (fun bC => ?_)
    refine ⟨KK, ?_⟩
    exact g.go (H46 bC) KK ⟨rfl, rfl, rfl, rfl, trivial⟩ ⟨_, .refl _, (.cons KK)⟩ rfl
 refine ⟨by decide, by decide, ld1 0 rfl e0 ?_⟩
 refine ct rfl ?_
 refine ⟨by decide, by decide, ?_⟩
 refine ct rfl ?_
 refine ld1 0 rfl e1 ?_
 refine ct rfl ?_
 refine ct rfl ?_
 refine ct rfl ?_
 refine ldN 0 rfl (qf _) ?_
 refine ct rfl ?_
 refine bu (c := k32 0) (by kernel_rfl) ?_
 exact g.go H0 (.cons .nil) ⟨rfl, rfl, rfl, trivial⟩ ⟨_, .refl _, .cons .nil⟩ rfl
theorem Za (w : World) : Calls Try.prog 60 ([] : List Value).toArray w fun e w' => e = .returned (.bool true) ∧ Below w.heap.size w w' := by
 have h1 : ∀ w v, Parts w v [97, 98] → Calls Try.prog 67 ([.agg (k32 (Ql 0)), Qr (zK 0 [97, 98]), v] : List Value).toArray w fun e w' => e = .returned (.bool true) ∧ Below w.heap.size w w' := fun w v h => by
  have := zC (Ql 0) (by unfold Ql; exact qaP _) (zK 0 [97, 98]) (by unfold zK; rw [List.length_append, qo, qo]) v [97, 98] w h (by decide)
  rwa [qbS] at this
 exact alive_core (Ql 0) (zK 0 [97, 98]) (fun w => Zk 0 w) pub0.1 pub0.2 (fun w v h => qbm 0 v [97, 98] w h (by decide)) h1 w
end
section
open Go.RowKit Go.Sx
theorem public_core (n pn : Nat) (hpn : pn < 115792089237316195423570985008687907853269984665640564039457584007913129639936) (h1 : ∀ w, Calls Try.prog 61 ([.agg (k32 n)] : List Value).toArray w fun e w' => e = .returned (.agg (k32 pn)) ∧ Below w.heap.size w w')
 (h2 : ∀ w, Calls Try.prog 62 ([.agg (k32 n)] : List Value).toArray w fun e w' => e = .returned (.agg (k32 pn)) ∧ Below w.heap.size w w') (w : World) :
 Calls Try.prog 17 ([.agg (k32 n)] : List Value).toArray w fun e w' => e = .returned (.bool true) ∧ Below w.heap.size w w' := by
 refine q9 qi Try.func17 rfl Try.ntmps17 rfl (St.start w) ?_
 intro b1
 refine drs [cl b1 (k32 n) 24] [] (.t 0 (.t 1 (.t 2 (.t 3 (.t 4 (.t 5 (.n 6 (.t 7 (.t 8 .nil))))))))) qi qq (by kernel_rfl) (.cons .nil) ?_
 refine cz (fun w => Za w) ?_
 refine ct rfl ?_
 refine ldN 0 rfl (qf _) ?_
 refine ct rfl ?_
 refine cz (fun w => h1 w) ?_
 refine ct rfl ?_
 refine ldN 0 rfl (qf _) ?_
 refine ct rfl ?_
 refine cz (fun w => h2 w) ?_
 refine ct rfl ?_
 refine eq_k32 (m := pn) (n := pn) rfl hpn hpn ?_
 rw [decide_eq_true (rfl : pn = pn)]
 refine ⟨.cons .nil, ?_⟩
 refine ct rfl ?_
 exact rt rfl
theorem qc3 (n : Nat) (w : World) : Calls Try.prog 17 ([.agg (k32 n)] : List Value).toArray w fun e w' => e = .returned (.bool true) ∧ Below w.heap.size w w' :=
 public_core n (Ql n) (by unfold Ql; exact qaP _) (fun w => Zk n w) (fun w => qap n w) w
end
section
open Go.ChangeShapes Go.WideShapes Go.ChangeAt Go.RowKit Go.Sx
theorem own : ownKnob Try.prog.godebug = none := by kernel_rfl
theorem zh : laidOutB Try.prog = true := by kernel_rfl
theorem cellsU8 : Try.prog.cellsOf 5 = 1 := by kernel_rfl
theorem qdh (f : Nat → Int) (n : Nat) (h : ∀ i, i < n → 0 ≤ f i ∧ f i < 256) : ∃ bs : List UInt8, bs.length = n ∧ ∀ i, i < n → (Lib.byteCells bs)[i]? = some (.int .u8 (f i)) := by
 refine ⟨(List.range n).map fun i => UInt8.ofNat (f i).toNat, by simp, fun i hi => ?_⟩
 have := h i hi
 simp [Lib.byteCells, hi]
 omega
end
section
open Go.ChangeShapes Go.WideShapes Go.ChangeAt Go.RowKit Go.Sx
abbrev TKey : Nat := 24
theorem cellsKey : Try.prog.cellsOf 24 = 32 := by kernel_rfl
section
variable {H : Type} {enc : TypeId × Value → H} {w : World} {base : Nat} {spare : Nat → Bool} {held : Bool}
theorem qav {fuel t n : Nat} {cs : List Value} {x : DataW H × List MemPlace} (ht : Try.prog.underlying t = some (.array n 5)) (hl : cs.length = n) (h : DataW.trod enc Try.prog w base spare held fuel t cs = some x) :
 ∃ bs : List UInt8, bs.length = n ∧ cs = Lib.byteCells bs := by
 obtain ⟨xs, m, _, _, _, hxl, hel⟩ := DataW.trod_array ht h
 have hz : ∀ i : Nat, ∃ z : Int, i < n → cs[i]? = some (.int .u8 z) ∧ (Lit.int .u8 z).wf = true := by
  intro i
  by_cases hi : i < n
  · have hE := hel i hi
    rw [cellsU8, Nat.mul_one, List.getElem?_eq_getElem (by omega)] at hE
    obtain ⟨z, e1, _, e3⟩ := DataW.trod_int Try.underlying5 hE
    refine ⟨z, fun _ => ⟨?_, e3⟩⟩
    have h0 : ((cs.drop i).take 1)[0]? = some (.int .u8 z) := by rw [e1]; rfl
    simpa using h0
  · exact ⟨0, fun h => absurd h hi⟩
 obtain ⟨f, hf2⟩ := Classical.skolem.1 hz
 obtain ⟨bs, hbs, hd⟩ := qdh f n (fun i hi => by
  have := bounds_u8 (hf2 i hi).2
  omega)
 refine ⟨bs, hbs, List.ext_getElem? fun i => ?_⟩
 by_cases hi : i < n
 · rw [(hf2 i hi).1, hd i hi]
 · rw [List.getElem?_eq_none (by omega), List.getElem?_eq_none (by rw [Lib.byteCells_length]; omega)]
theorem qcW {r : Reach} {b0 t : Nat} {v : Value} (ht : (∃ n e, Try.prog.underlying t = some (.array n e)) ∨ ∃ fs, Try.prog.underlying t = some (.struct fs)) (h : Value.okWide Try.prog w r b0 t v) : ∃ cs, v = .agg cs ∧ cs.size = Try.prog.cellsOf t := by
 rcases ht with ⟨n, e, ht⟩ | ⟨fs, ht⟩
 all_goals
  simp only [Value.okWide, ht] at h
  obtain ⟨cs, h1, h2, _⟩ := h
  exact ⟨cs, h1, h2⟩
theorem qau {r : Reach} {b0 : Nat} {v : Value} {d : DataW H} {p : List MemPlace}
 (hv : Value.okWide Try.prog w r b0 TKey v) (h : DataW.Trod enc Try.prog w base spare held TKey v d p) : ∃ n : Nat, n < 115792089237316195423570985008687907853269984665640564039457584007913129639936 ∧ v = .agg (k32 n) := by
 obtain ⟨cs, rfl, hsz⟩ := qcW (.inl ⟨_, _, Try.underlying24⟩) hv
 rw [cellsKey] at hsz
 obtain ⟨fuel, hf⟩ := h
 obtain ⟨bs, hl, hc⟩ := qav (n := 32) Try.underlying24 (by simpa [Value.cells] using hsz) hf
 have hc' : cs = (Lib.byteCells bs).toArray := by apply Array.ext'; simpa [Value.cells] using hc
 refine ⟨leN bs, ?_, by rw [hc', Q9 bs hl]⟩
 have := qaw bs
 rw [hl] at this
 exact this
end
end
end Go.Proofs.Ytjiagjonlcadiaa
