/- Residues modulo the order, in the program and in the document's answer: what each function comes to. -/
import Derived.Test.YtjiagjonlcadiaaProg
import Derived.WalkKit
import Derived.WalkSpells
import Derived.WalkLawsBesides
import Derived.Deep.QuietTactic
import Derived.BigQuiet
import Derived.Deep.RegionHeld3
import Derived.StillTailTactics
import Derived.Lib.Mul64
import Derived.Laws.Bits64b
import Derived.Laws.Externs
import Derived.Lib.Hide
import Derived.RowKit3
import Derived.LoopTactic
import Derived.Deep.LoopGhost
import Derived.Laws.Rows
import Derived.Laws.Tables
import Derived.Deep.MidRow
import Derived.OwnWalk
import Derived.Outline
import Derived.OrdersHeld
import Derived.BigRegion
import Derived.Laws.ShiftsVarLaws
import Derived.Laws.StructEq
import Derived.BigCall
section
namespace Go.Proofs.Ytjiagjonlcadiaa
open Go.RowKit Go.Lib

theorem add64 (x y c : Int) (hx : 0 ≤ x) (hy : 0 ≤ y) (hc0 : 0 ≤ c) (hc : c ≤ 1) (w : World) : (callFunc 76 #[.int .u64 x, .int .u64 y, .int .u64 c]).run Try.prog w =
    .ok (.value (.tuple #[.int .u64 ((x + y + c) % 18446744073709551616), .int .u64 ((x + y + c) / 18446744073709551616)])) w := by
  rw [run_callFunc_extern Try.func76 (by kernel_rfl) (by kernel_rfl) (by kernel_rfl) (e := add64Entry) (by kernel_rfl), run_add64 x y c hx hy hc0 hc]
  rfl

def sub64Ent : Array Value → Sem Value := fun args => do
  let (x, y, b) ← Extern.MathBitsCarry.three "Sub64" args
  pure (Extern.MathBitsCarry.pair ((x + Extern.MathBitsCarry.m64 - y - b) % Extern.MathBitsCarry.m64) (if x < y + b then 1 else 0))

/-- the borrow -/
def bor (x y : Int) : Int := if x < y then 1 else 0
theorem bor_01 (x y : Int) : 0 ≤ bor x y ∧ bor x y ≤ 1 := by unfold bor; split <;> omega

theorem run_sub64n (x y b : Nat) (hb : b ≤ 1) (w : World) :
    (sub64Ent #[.int .u64 x, .int .u64 y, .int .u64 b]).run Try.prog w =
      .ok (.tuple #[.int .u64 (((x + 18446744073709551616 - y - b) % 18446744073709551616 : Nat) : Int), .int .u64 ((if x < y + b then 1 else 0 : Nat) : Int)]) w := by
  have : b = 0 ∨ b = 1 := by omega
  rcases this with rfl | rfl <;> rfl

theorem sub64 (x y b : Int) (hx : 0 ≤ x) (hy : 0 ≤ y) (hy' : y < 18446744073709551616) (hb0 : 0 ≤ b) (hb : b ≤ 1) (w : World) : (callFunc 80 #[.int .u64 x, .int .u64 y, .int .u64 b]).run Try.prog w =
    .ok (.value (.tuple #[.int .u64 ((x - y - b) % 18446744073709551616), .int .u64 (bor x (y + b))])) w := by
  obtain ⟨x, rfl⟩ := Int.eq_ofNat_of_zero_le hx
  obtain ⟨y, rfl⟩ := Int.eq_ofNat_of_zero_le hy
  obtain ⟨b, rfl⟩ := Int.eq_ofNat_of_zero_le hb0
  have e1 : (((x + 18446744073709551616 - y - b) % 18446744073709551616 : Nat) : Int) = ((x : Int) - y - b) % 18446744073709551616 := by omega
  have e2 : ((if x < y + b then 1 else 0 : Nat) : Int) = bor x (y + b) := by unfold bor; split <;> split <;> omega
  rw [← e1, ← e2, run_callFunc_extern Try.func80 (by kernel_rfl) (by kernel_rfl) (by kernel_rfl) (e := sub64Ent) (by kernel_rfl), run_sub64n x y b (by omega)]
  rfl

theorem add64_0 (x y : Int) (hx : 0 ≤ x) (hy : 0 ≤ y) (w : World) : (callFunc 76 #[.int .u64 x, .int .u64 y, .int .u64 0]).run Try.prog w =
    .ok (.value (.tuple #[.int .u64 ((x + y) % 18446744073709551616), .int .u64 ((x + y) / 18446744073709551616)])) w := by
  simpa using add64 x y 0 hx hy (Int.le_refl 0) (by decide) w
theorem sub64_0 (x y : Int) (hx : 0 ≤ x) (hy : 0 ≤ y) (hy' : y < 18446744073709551616) (w : World) : (callFunc 80 #[.int .u64 x, .int .u64 y, .int .u64 0]).run Try.prog w =
    .ok (.value (.tuple #[.int .u64 ((x - y) % 18446744073709551616), .int .u64 (bor x y)])) w := by
  simpa using sub64 x y 0 hx hy hy' (Int.le_refl 0) (by decide) w

namespace M64
theorem maskN (a : Nat) (ha : a < 18446744073709551616) : bits .and .u64 (a : Int) 4294967295 = ((a % 4294967296 : Nat) : Int) := by
  have h := bits_and_u64_nat a 4294967295 ha (by omega)
  have e : a &&& 4294967295 = a % 4294967296 := Nat.and_two_pow_sub_one_eq_mod a 32
  rw [e] at h
  exact h
theorem divN (a : Nat) : (a : Int) / 4294967296 = ((a / 4294967296 : Nat) : Int) := by omega
theorem mulN (a b : Nat) : (a : Int) * (b : Int) = ((a * b : Nat) : Int) := (Int.natCast_mul a b).symm
theorem addN (a b : Nat) : (a : Int) + (b : Int) = ((a + b : Nat) : Int) := (Int.natCast_add a b).symm
theorem wrapN (a : Nat) (ha : a < 18446744073709551616) : IntKind.u64.wrap (a : Int) = (a : Int) := by rw [IntKind.wrap_u64]; omega
theorem wrapM (a : Nat) : IntKind.u64.wrap (a : Int) = ((a % 18446744073709551616 : Nat) : Int) := by rw [IntKind.wrap_u64]; omega
end M64

set_option maxHeartbeats 1000000 in
theorem mul64N (x y : Nat) (hx : x < 18446744073709551616) (hy : y < 18446744073709551616) (w : World) :
    Calls Try.prog 75 #[.int .u64 x, .int .u64 y] w fun e w' => e = .returned (.tuple #[.int .u64 ((x * y / 18446744073709551616 : Nat) : Int), .int .u64 ((x * y % 18446744073709551616 : Nat) : Int)]) ∧ w = w' := by
  obtain ⟨bd, bt, bw, hhi⟩ := Lib.mul64_hi x y hx hy
  have ba := Lib.half_mul_le (a := x / 4294967296) (b := y / 4294967296) (by omega) (by omega)
  have bb := Lib.half_mul_le (a := x / 4294967296) (b := y % 4294967296) (by omega) (by omega)
  have bc := Lib.half_mul_le (a := x % 4294967296) (b := y / 4294967296) (by omega) (by omega)
  have ba' : x / 4294967296 * (y / 4294967296) < 18446744073709551616 := by omega
  have bb' : x / 4294967296 * (y % 4294967296) < 18446744073709551616 := by omega
  have bc' : x % 4294967296 * (y / 4294967296) < 18446744073709551616 := by omega
  have bh1 : x / 4294967296 * (y / 4294967296) + (x / 4294967296 * (y % 4294967296) + x % 4294967296 * (y % 4294967296) / 4294967296) / 4294967296 < 18446744073709551616 := by omega
  have bh : x / 4294967296 * (y / 4294967296) + (x / 4294967296 * (y % 4294967296) + x % 4294967296 * (y % 4294967296) / 4294967296) / 4294967296 + ((x / 4294967296 * (y % 4294967296) + x % 4294967296 * (y % 4294967296) / 4294967296) % 4294967296 + x % 4294967296 * (y / 4294967296)) / 4294967296 < 18446744073709551616 := by omega
  go_enter Try.func75, Try.ntmps75
  go_wp2
  simp only [M64.maskN x hx, M64.maskN y hy, M64.divN, M64.mulN, M64.addN, M64.wrapN _ bd, M64.wrapN _ bb', M64.wrapN _ bt, M64.maskN _ bt, M64.wrapN _ bc', M64.wrapN _ bw, M64.wrapN _ ba', M64.wrapN _ bh1, M64.wrapN _ bh, M64.wrapM (x * y)]
  rw [hhi]
  go_ret2
  exact ⟨rfl, rfl⟩

theorem mul64 (x y : Int) (hx0 : 0 ≤ x) (hx : x < 18446744073709551616) (hy0 : 0 ≤ y) (hy : y < 18446744073709551616) (w : World) :
    Calls Try.prog 75 #[.int .u64 x, .int .u64 y] w fun e w' => e = .returned (.tuple #[.int .u64 (x * y / 18446744073709551616), .int .u64 (x * y % 18446744073709551616)]) ∧ w = w' := by
  obtain ⟨x, rfl⟩ := Int.eq_ofNat_of_zero_le hx0
  obtain ⟨y, rfl⟩ := Int.eq_ofNat_of_zero_le hy0
  exact mul64N x y (by omega) (by omega) w

theorem bcell {W w1 : World} (hb : Below W.heap.size W w1) : (∀ b o, b < W.heap.size → w1.cell? ⟨b, o, none⟩ = W.cell? ⟨b, o, none⟩) ∧ (∀ b o, b < W.heap.size → w1.frozen? ⟨b, o, none⟩ = W.frozen? ⟨b, o, none⟩) :=
  ⟨fun b o h => hb.cell (p := ⟨b, o, none⟩) h, fun b o h => hb.frozen (p := ⟨b, o, none⟩) h⟩
end Go.Proofs.Ytjiagjonlcadiaa
end
section
namespace Go.Proofs.Ytjiagjonlcadiaa
open Go.RowKit Go.Lib

/-- k cells of one integer kind -/
def rowl (kd : IntKind) (k : Nat) (f : Nat → Int) : List Value := (List.range k).map (fun i => Value.int kd (f i))
/-- the same, as an array -/
def row (kd : IntKind) (k : Nat) (f : Nat → Int) : Array Value := (rowl kd k f).toArray
/-- f, but x at i -/
def upd (f : Nat → Int) (i : Nat) (x : Int) : Nat → Int := fun j => if j = i then x else f j
theorem upd_same (f : Nat → Int) (i : Nat) (x : Int) : upd f i x i = x := by simp [upd]
theorem upd_ne (f : Nat → Int) (i j : Nat) (x : Int) (h : j ≠ i) : upd f i x j = f j := by simp [upd, h]

theorem rowl_len (kd : IntKind) (k : Nat) (f : Nat → Int) : (rowl kd k f).length = k := by simp [rowl]
theorem row_get (kd : IntKind) (k : Nat) (f : Nat → Int) (i : Nat) (h : i < k) : (row kd k f)[i]? = some (.int kd (f i)) := by
  simp [row, rowl, h]
theorem row_size (kd : IntKind) (k : Nat) (f : Nat → Int) : (row kd k f).size = k := by simp [row, rowl]
theorem row_none (kd : IntKind) (k : Nat) (f : Nat → Int) (i : Nat) (h : ¬ i < k) : (row kd k f)[i]? = none := by
  simp [row_size]; omega
theorem row_ext (kd : IntKind) (k : Nat) (f g : Nat → Int) (h : ∀ i, i < k → f i = g i) : row kd k f = row kd k g := by
  apply Array.ext_getElem?
  intro j
  by_cases hj : j < k
  · rw [row_get kd k _ j hj, row_get kd k _ j hj, h j hj]
  · rw [row_none kd k _ j hj, row_none kd k _ j hj]
theorem row_inj (kd : IntKind) (k : Nat) (f g : Nat → Int) (h : row kd k f = row kd k g) (i : Nat) (hi : i < k) : f i = g i := by
  have h1 := row_get kd k f i hi
  rw [h, row_get kd k g i hi] at h1
  simpa using h1.symm
theorem row_set (kd : IntKind) (k : Nat) (f : Nat → Int) (i : Nat) (x : Int) : (row kd k f).setIfInBounds i (.int kd x) = row kd k (upd f i x) := by
  apply Array.ext_getElem?
  intro j
  rw [Array.getElem?_setIfInBounds]
  simp only [row_size]
  by_cases hj : j < k
  · rw [row_get kd k _ j hj, row_get kd k _ j hj]
    unfold upd
    by_cases h : i = j
    · subst h; simp [hj]
    · have : ¬ j = i := fun e => h e.symm
      simp [h, this]
  · rw [row_none _ _ _ _ hj, row_none _ _ _ _ hj]; simp; omega
theorem row_one (kd : IntKind) (k : Nat) (f : Nat → Int) : (row kd k f).all (·.oneCell') = true := by
  simp [row, rowl, List.all_eq_true, Value.oneCell']

/-- block b holds just these cells, and may be written -/
def Has (w : World) (b : Nat) (c : Array Value) (t : TypeId) : Prop := w.heap[b]? = some (.cells c t (0, 0))
section has
variable {w w' : World} {b : Nat} {c : Array Value} {t : TypeId}
theorem Has.lt (h : Has w b c t) : b < w.heap.size := (Array.getElem?_eq_some_iff.1 h).1
theorem Has.cellAt (h : Has w b c t) (i : Nat) : w.cell? ⟨b, i, none⟩ = c[i]? := cell_of_row w b i c t _ h
theorem Has.cell {kd : IntKind} {k : Nat} {f : Nat → Int} (h : Has w b (row kd k f) t) (i : Nat) (hi : i < k) : w.cell? ⟨b, i, none⟩ = some (.int kd (f i)) := by
  rw [h.cellAt, row_get kd k f i hi]
theorem Has.range {l : List Value} (h : Has w b l.toArray t) : w.rangeAt b 0 l := fun j v hv => by
  rw [Nat.zero_add, h.cellAt]; simpa using hv
theorem Has.frozen (h : Has w b c t) (i : Nat) : w.frozen? ⟨b, i, none⟩ = false := frozen_of_row w b i c t h
theorem Has.setAt (h : Has w b c t) (i : Nat) (v : Value) : Has (w.setCell ⟨b, i, none⟩ v) b (c.setIfInBounds i v) t := heap_setCell_same w b i c t v h
theorem Has.set {kd : IntKind} {k : Nat} {f : Nat → Int} (h : Has w b (row kd k f) t) (i : Nat) (x : Int) : Has (w.setCell ⟨b, i, none⟩ (.int kd x)) b (row kd k (upd f i x)) t := by
  have := h.setAt i (.int kd x)
  rwa [row_set] at this
theorem Has.other (h : Has w b c t) (a : Addr) (v : Value) (hb : b ≠ a.block) : Has (w.setCell a v) b c t := (heap_setCell_other w a b v hb).trans h
theorem Has.drewN (h : Has w b c t) (n : Nat) : Has (w.drewN n) b c t := h
theorem Has.drew (h : Has w b c t) : Has w.drew b c t := h
theorem Has.alloc (h : Has w b c t) (o : Obj) : Has (w.alloc o) b c t := (Below.heap_alloc w o b h.lt).trans h
theorem Has.new (w : World) (c : Array Value) (t : TypeId) : Has (w.alloc (.cells c t)) w.heap.size c t := heap_alloc_new w _
theorem Has.new1 (w : World) (A : Obj) (c : Array Value) (t : TypeId) : Has ((w.alloc A).alloc (.cells c t)) (w.heap.size + 1) c t := by
  have := Has.new (w.alloc A) c t
  simpa using this
theorem Has.new2 (w : World) (A B : Obj) (c : Array Value) (t : TypeId) : Has (((w.alloc A).alloc B).alloc (.cells c t)) (w.heap.size + 1 + 1) c t := by
  have := Has.new ((w.alloc A).alloc B) c t
  simpa using this
theorem Has.new3 (w : World) (A B C : Obj) (c : Array Value) (t : TypeId) : Has ((((w.alloc A).alloc B).alloc C).alloc (.cells c t)) (w.heap.size + 1 + 1 + 1) c t := by
  have := Has.new (((w.alloc A).alloc B).alloc C) c t
  simpa using this
theorem Has.below {B : Nat} (h : Has w b c t) (hb : Below B w w') (hB : b < B) : Has w' b c t := (hb.block b hB).trans h
theorem Has.setRow (h : Has w b c t) (c' : Array Value) : Has (w.setRow b c') b c' t := setRow_heap w b c c' t _ h
theorem Has.setRow_other (h : Has w b c t) (g : Nat) (c' : Array Value) (hg : b ≠ g) : Has (w.setRow g c') b c t := (Go.setRow_other w g b c' hg).trans h
end has
/-- block b holds n cells, whichever, and may be written -/
def HasN (w : World) (b n : Nat) (t : TypeId) : Prop := ∃ c : Array Value, c.size = n ∧ Has w b c t
section hasn
variable {w w' : World} {b n : Nat} {t : TypeId}
theorem Has.toN {c : Array Value} (h : Has w b c t) (hn : c.size = n) : HasN w b n t := ⟨c, hn, h⟩
theorem HasN.new (w : World) (c : Array Value) (t : TypeId) (n : Nat) (hn : c.size = n) : HasN (w.alloc (.cells c t)) w.heap.size n t := ⟨c, hn, Has.new w c t⟩
theorem HasN.new1 (w : World) (A : Obj) (c : Array Value) (t : TypeId) (n : Nat) (hn : c.size = n) : HasN ((w.alloc A).alloc (.cells c t)) (w.heap.size + 1) n t := by
  have := HasN.new (w.alloc A) c t n hn
  simpa using this
theorem HasN.new2 (w : World) (A B : Obj) (c : Array Value) (t : TypeId) (n : Nat) (hn : c.size = n) : HasN (((w.alloc A).alloc B).alloc (.cells c t)) (w.heap.size + 1 + 1) n t := by
  have := HasN.new ((w.alloc A).alloc B) c t n hn
  simpa using this
theorem HasN.new3 (w : World) (A B C : Obj) (c : Array Value) (t : TypeId) (n : Nat) (hn : c.size = n) : HasN ((((w.alloc A).alloc B).alloc C).alloc (.cells c t)) (w.heap.size + 1 + 1 + 1) n t := by
  have := HasN.new (((w.alloc A).alloc B).alloc C) c t n hn
  simpa using this
theorem HasN.lt (h : HasN w b n t) : b < w.heap.size := let ⟨_, _, h⟩ := h; h.lt
theorem HasN.other (h : HasN w b n t) (a : Addr) (v : Value) (hb : b ≠ a.block) : HasN (w.setCell a v) b n t := let ⟨c, hn, h⟩ := h; ⟨c, hn, h.other a v hb⟩
theorem HasN.drewN (h : HasN w b n t) (k : Nat) : HasN (w.drewN k) b n t := h
theorem HasN.drew (h : HasN w b n t) : HasN w.drew b n t := h
theorem HasN.alloc (h : HasN w b n t) (o : Obj) : HasN (w.alloc o) b n t := let ⟨c, hn, h⟩ := h; ⟨c, hn, h.alloc o⟩
theorem HasN.below {B : Nat} (h : HasN w b n t) (hb : Below B w w') (hB : b < B) : HasN w' b n t := let ⟨c, hn, h⟩ := h; ⟨c, hn, h.below hb hB⟩
theorem HasN.setRow_other (h : HasN w b n t) (g : Nat) (c' : Array Value) (hg : b ≠ g) : HasN (w.setRow g c') b n t := let ⟨c, hn, h⟩ := h; ⟨c, hn, h.setRow_other g c' hg⟩
end hasn
theorem below_1 (w : World) (A : Obj) : Below w.heap.size w (w.alloc A) := (Below.refl _ _).alloc (Nat.le_refl _) _
theorem below_2 (w : World) (A B : Obj) : Below w.heap.size w ((w.alloc A).alloc B) := (below_1 w A).alloc (by simp) _
theorem below_3 (w : World) (A B C : Obj) : Below w.heap.size w (((w.alloc A).alloc B).alloc C) := (below_2 w A B).alloc (by simp; omega) _
theorem below_4 (w : World) (A B C D : Obj) : Below w.heap.size w ((((w.alloc A).alloc B).alloc C).alloc D) := (below_3 w A B C).alloc (by simp; omega) _
theorem below_drewN {B : Nat} {a w : World} (h : Below B a w) (n : Nat) : Below B a (w.drewN n) := ⟨h.os, h.tape, h.output, h.size, h.block⟩
theorem below_setRow {B : Nat} {a w : World} (h : Below B a w) (g : Nat) (c : Array Value) (hg : B ≤ g) : Below B a (w.setRow g c) :=
  h.trans ⟨rfl, rfl, rfl, by simp, fun k hk => setRow_other w g k c (by omega)⟩

/-- behind one call more -/
theorem held_next {w4 W w1 : World} (h : Below w4.heap.size w4 W) (hb : Below W.heap.size W w1) : Below w4.heap.size w4 w1 := h.trans (hb.mono h.size)
theorem Has.call {W w1 : World} {b : Nat} {c : Array Value} {t : TypeId} (h : Has W b c t) (hb : Below W.heap.size W w1) : Has w1 b c t := h.below hb h.lt
theorem HasN.call {W w1 : World} {b n : Nat} {t : TypeId} (h : HasN W b n t) (hb : Below W.heap.size W w1) : HasN w1 b n t := h.below hb h.lt
theorem range_below {w4 w1 : World} {b o : Nat} {l : List Value} (hR : w4.rangeAt b o l) (h : Below w4.heap.size w4 w1) (hlt : b < w4.heap.size) : w1.rangeAt b o l := fun j v hv =>
  (h.cell (p := ⟨b, o + j, none⟩) hlt).trans (hR j v hv)
theorem there_below {w4 w1 : World} {b o n : Nat} (hR : w4.there b o n) (h : Below w4.heap.size w4 w1) (hlt : b < w4.heap.size) : w1.there b o n := fun j hj => by
  have := hR j hj
  rwa [h.cell (p := ⟨b, o + j, none⟩) hlt, h.frozen (p := ⟨b, o + j, none⟩) hlt]
theorem HasN.there {w : World} {b n : Nat} {t : TypeId} (h : HasN w b n t) : w.there b 0 n := fun j hj => by
  obtain ⟨c, hn, h⟩ := h
  rw [h.cellAt, h.frozen]
  simp [hn, hj]
theorem rowl_one (kd : IntKind) (k : Nat) (f : Nat → Int) : ∀ v ∈ rowl kd k f, v.oneCell' = true := by
  simp [rowl, Value.oneCell']
theorem setCells_nil (w : World) (b o : Nat) : w.setCells b o [] = w := rfl
theorem Has.setCells {w : World} {b : Nat} {t : TypeId} (l : List Value) : ∀ (c : Array Value) (o : Nat), Has w b c t → o + l.length ≤ c.size → Has (w.setCells b o l) b (c.toList.take o ++ l ++ c.toList.drop (o + l.length)).toArray t := by
  induction l generalizing w with
  | nil => intro c o h hl; simpa [World.setCells] using h
  | cons v l ih =>
    intro c o h hl
    simp only [World.setCells]
    have h1 := ih (c.setIfInBounds o v) (o + 1) (h.setAt o v) (by simp at hl ⊢; omega)
    have e : (c.setIfInBounds o v).toList.take (o + 1) ++ l ++ (c.setIfInBounds o v).toList.drop (o + 1 + l.length) = c.toList.take o ++ (v :: l) ++ c.toList.drop (o + (v :: l).length) := by
      have hlt : o < c.toList.length := by simp at hl ⊢; omega
      rw [Array.toList_setIfInBounds]
      generalize c.toList = xs at *
      have e1 : (xs.set o v).take (o + 1) = xs.take o ++ [v] := by
        rw [List.take_succ_eq_append_getElem (by simpa using hlt), List.take_set_of_le (Nat.le_refl _)]
        simp
      have e2 : (xs.set o v).drop (o + 1 + l.length) = xs.drop (o + 1 + l.length) := List.drop_set_of_lt (by omega)
      rw [e1, e2]
      simp [Nat.add_comm, Nat.add_left_comm]
    rw [← e]; exact h1
theorem Has.setCells_all {w : World} {b : Nat} {c : Array Value} {t : TypeId} (h : Has w b c t) (l : List Value) (hl : l.length = c.size) : Has (w.setCells b 0 l) b l.toArray t := by
  have := Has.setCells l c 0 h (by omega)
  have e : List.drop c.size c.toList = [] := by simp
  simpa [hl, e] using this
theorem HasN.setCells_all {w : World} {b n : Nat} {t : TypeId} (h : HasN w b n t) (l : List Value) (hl : l.length = n) : Has (w.setCells b 0 l) b l.toArray t := by
  obtain ⟨c, hn, h⟩ := h
  exact h.setCells_all l (by omega)
theorem heap_setCells_other (b : Nat) (l : List Value) : ∀ (w : World) (o k : Nat), k ≠ b → (w.setCells b o l).heap[k]? = w.heap[k]? := by
  induction l with
  | nil => intro w o k _; rfl
  | cons v l ih => intro w o k hk; simp only [World.setCells]; rw [ih _ _ _ hk]; exact heap_setCell_other w ⟨b, o, none⟩ k v hk
theorem Has.setCells_other {w : World} {b : Nat} {c : Array Value} {t : TypeId} (h : Has w b c t) (g o : Nat) (l : List Value) (hb : b ≠ g) : Has (w.setCells g o l) b c t := (heap_setCells_other g l w o b hb).trans h
theorem HasN.setCells_other {w : World} {b n : Nat} {t : TypeId} (h : HasN w b n t) (g o : Nat) (l : List Value) (hb : b ≠ g) : HasN (w.setCells g o l) b n t := let ⟨c, hn, h⟩ := h; ⟨c, hn, h.setCells_other g o l hb⟩
theorem below_setCells {B : Nat} {a : World} (g : Nat) (hg : B ≤ g) (l : List Value) : ∀ (w : World) (o : Nat), Below B a w → Below B a (w.setCells g o l) := by
  induction l with
  | nil => intro w o h; exact h
  | cons v l ih => intro w o h; simp only [World.setCells]; exact ih _ _ (h.setCell hg v)

/-- the sum of the figures below n, to the base B -/
def sumf (B : Int) (f : Nat → Int) : Nat → Int
  | 0 => 0
  | n + 1 => sumf B f n + f n * B ^ n
theorem sumf_congr (B : Int) (f g : Nat → Int) (n : Nat) (h : ∀ i, i < n → f i = g i) : sumf B f n = sumf B g n := by
  induction n with
  | zero => rfl
  | succ n ih => simp only [sumf]; rw [ih (fun i hi => h i (by omega)), h n (by omega)]
theorem sumf_upd_above (B : Int) (f : Nat → Int) (n i : Nat) (x : Int) (h : n ≤ i) : sumf B (upd f i x) n = sumf B f n :=
  sumf_congr B _ _ n fun j hj => upd_ne f i j x (by omega)
theorem sumf_upd (B : Int) (f : Nat → Int) (n i : Nat) (x : Int) (h : i < n) : sumf B (upd f i x) n = sumf B f n + (x - f i) * B ^ i := by
  induction n with
  | zero => omega
  | succ n ih =>
    simp only [sumf]
    by_cases hi : i = n
    · subst hi
      rw [sumf_upd_above B f i i x (Nat.le_refl _), upd_same, Int.sub_mul]; omega
    · rw [ih (by omega), upd_ne f i n x (by omega)]; omega
theorem sumf_zero (B : Int) (f : Nat → Int) (n : Nat) (h : ∀ i, i < n → f i = 0) : sumf B f n = 0 := by
  induction n with
  | zero => rfl
  | succ n ih => simp only [sumf]; rw [ih (fun i hi => h i (by omega)), h n (by omega)]; simp
theorem sumf_nonneg (B : Int) (hB : 0 < B) (f : Nat → Int) (n : Nat) (h : ∀ i, i < n → 0 ≤ f i) : 0 ≤ sumf B f n := by
  induction n with
  | zero => simp [sumf]
  | succ n ih =>
    simp only [sumf]
    have h1 := ih (fun i hi => h i (by omega))
    have h2 : 0 ≤ f n * B ^ n := Int.mul_nonneg (h n (by omega)) (Int.le_of_lt (Int.pow_pos hB))
    omega
theorem sumf_lt (B : Int) (hB : 0 < B) (f : Nat → Int) (n : Nat) (h : ∀ i, i < n → f i < B) : sumf B f n < B ^ n := by
  induction n with
  | zero => simp [sumf]
  | succ n ih =>
    simp only [sumf]
    have h1 := ih (fun i hi => h i (by omega))
    have h2 : f n * B ^ n ≤ (B - 1) * B ^ n := Int.mul_le_mul_of_nonneg_right (by have := h n (by omega); omega) (Int.le_of_lt (Int.pow_pos hB))
    rw [Int.sub_mul] at h2
    rw [Int.pow_succ, Int.mul_comm (B ^ n) B]
    omega
/-- figure i of n to the base B -/
def dg (B n i : Nat) : Int := ((n / B ^ i % B : Nat) : Int)
theorem dg_bd (B n i : Nat) (hB : 0 < B) : 0 ≤ dg B n i ∧ dg B n i < B := by
  unfold dg
  have := Nat.mod_lt (n / B ^ i) hB
  omega
theorem sumf_dg (B n k : Nat) : sumf (B : Int) (dg B n) k = ((n % B ^ k : Nat) : Int) := by
  induction k with
  | zero => simp [sumf, Nat.mod_one]
  | succ k ih =>
    simp only [sumf]
    rw [ih, dg, Nat.pow_succ, Nat.mod_mul, ← Int.natCast_pow, Int.mul_comm, ← Int.natCast_mul, ← Int.natCast_add]
theorem sumf_uniq (B : Nat) (f : Nat → Int) (n k : Nat) (hf : ∀ i, i < k → 0 ≤ f i ∧ f i < B) (h : sumf (B : Int) f k = n) : ∀ i, i < k → f i = dg B n i := by
  induction k generalizing n with
  | zero => intro i hi; omega
  | succ k ih =>
    intro i hi
    have hB : 0 < (B : Int) := by have := hf k (by omega); omega
    have hBk : (0 : Int) < (B : Int) ^ k := Int.pow_pos hB
    simp only [sumf] at h
    have h1 := sumf_nonneg B hB f k (fun i hi => (hf i (by omega)).1)
    have h2 := sumf_lt B hB f k (fun i hi => (hf i (by omega)).2)
    have hk := hf k (by omega)
    obtain ⟨s, hs⟩ := Int.eq_ofNat_of_zero_le h1
    obtain ⟨d, hd⟩ := Int.eq_ofNat_of_zero_le hk.1
    rw [hs, hd] at h
    rw [hs] at h2
    rw [← Int.natCast_pow] at h h2
    have h' : s + d * B ^ k = n := by
      have : ((s + d * B ^ k : Nat) : Int) = (n : Int) := by rw [Int.natCast_add, Int.natCast_mul]; exact h
      omega
    have h2' : s < B ^ k := by omega
    have hpos : 0 < B ^ k := by omega
    by_cases hik : i = k
    · subst hik
      rw [hd, dg, ← h', Nat.add_mul_div_right _ _ hpos, Nat.div_eq_of_lt h2', Nat.zero_add, Nat.mod_eq_of_lt (by omega)]
    · rw [ih s (fun i hi => hf i (by omega)) hs i (by omega), dg, dg, ← h']
      have e : B ^ k = B ^ i * B * B ^ (k - i - 1) := by rw [← Nat.pow_succ, ← Nat.pow_add]; congr 1; omega
      rw [e, show d * (B ^ i * B * B ^ (k - i - 1)) = B ^ i * (B * (d * B ^ (k - i - 1))) by ac_rfl, Nat.add_mul_div_left _ _ (Nat.pow_pos (by omega)), Nat.add_mul_mod_self_left]
end Go.Proofs.Ytjiagjonlcadiaa
end
section
namespace Go.Proofs.Ytjiagjonlcadiaa
open Go.RowKit Go.Lib

/-- an element of the reference: 22 figures of 12 bits -/
def r22 (n : Nat) : Array Value := row .i64 22 (dg 4096 n)
theorem r22_size (n : Nat) : (r22 n).size = 22 := row_size _ _ _

theorem less_step (D F G H x y bw bw' z : Int) (h : H = F - G + bw * D) (hz : z = x - y - bw + 4096 * bw') :
    H + z * D = (F + x * D) - (G + y * D) + bw' * (D * 4096) := by
  subst h hz; grind

theorem less_end (a b : Nat) (hab : b ≤ a) (ha : a < 4096 ^ 22) (h : Nat → Int) (bw : Int) (hb0 : 0 ≤ bw) (hb1 : bw ≤ 1) (hd : ∀ j, j < 22 → 0 ≤ h j ∧ h j < 4096)
    (hs : sumf 4096 h 22 = sumf 4096 (dg 4096 a) 22 - sumf 4096 (dg 4096 b) 22 + bw * 4096 ^ 22) : row .i64 22 h = r22 (a - b) := by
  have e1 := sumf_dg 4096 a 22
  have e2 := sumf_dg 4096 b 22
  rw [Nat.mod_eq_of_lt ha] at e1
  rw [Nat.mod_eq_of_lt (by omega)] at e2
  have e3 : sumf 4096 h 22 < 4096 ^ 22 := sumf_lt 4096 (by decide) h 22 fun i hi => (hd i hi).2
  have e1' : sumf 4096 (dg 4096 a) 22 = a := e1
  have e2' : sumf 4096 (dg 4096 b) 22 = b := e2
  rw [e1', e2'] at hs
  have hbw : bw = 0 := by
    rcases (show bw = 0 ∨ bw = 1 by omega) with h0 | h0
    · exact h0
    · subst h0; omega
  subst hbw
  refine row_ext _ _ _ _ (sumf_uniq 4096 h (a - b) 22 hd ?_)
  show sumf 4096 h 22 = _
  rw [hs]; omega

set_option maxHeartbeats 400000 in
theorem less_any (a b : Nat) (hab : b ≤ a) (ha : a < 4096 ^ 22) (w : World) :
    Calls Try.prog 81 #[.agg (r22 a), .agg (r22 b)] w fun e w' => e = .returned (.agg (r22 (a - b))) ∧ Below w.heap.size w w' := by
  have hf := fun i => dg_bd 4096 a i (by decide)
  have hg := fun i => dg_bd 4096 b i (by decide)
  have hend := less_end a b hab ha
  have HF := Lib.hid hf; clear hf
  have HG := Lib.hid hg; clear hg
  have HE := Lib.hid hend; clear hend
  have H0 := Lib.hid hab; clear hab
  have H1 := Lib.hid ha; clear ha
  go_enter Try.func81, Try.ntmps81
  go_wp2_with fail
  go_loopw [5, 6] (fun u i wr => ∃ (k : Nat) (h : Nat → Int) (bw : Int), k ≤ 22 ∧ i = .int .i64 k ∧ u = .int .i64 bw ∧ 0 ≤ bw ∧ bw ≤ 1 ∧ (∀ j, k ≤ j → h j = dg 4096 a j) ∧ (∀ j, j < k → 0 ≤ h j ∧ h j < 4096) ∧ sumf 4096 h k = sumf 4096 (dg 4096 a) k - sumf 4096 (dg 4096 b) k + bw * 4096 ^ k ∧ Has wr w.heap.size (row .i64 22 h) 40 ∧ Has wr (w.heap.size + 1) (r22 b) 40 ∧ HasN wr (w.heap.size + 1 + 1) 22 40 ∧ Below w.heap.size w wr) (fun _ i _ => 22 - (intOf i).toNat)
  case atStart =>
    exact ⟨0, dg 4096 a, 0, by omega, rfl, rfl, by omega, by omega, fun _ _ => rfl, fun j hj => by omega, by simp [sumf], ((Has.new _ _ _).alloc _).alloc _, (Has.new1 _ _ _ _).alloc _, HasN.new2 _ _ _ _ _ _ rfl, below_3 _ _ _ _⟩
  case round =>
    obtain ⟨k, h, bw, hk, rfl, rfl, hb0, hb1, hh, hd, hs, m0, m1, m2, hB⟩ := hrel
    have HH := Lib.hid hh; clear hh
    have HD := Lib.hid hd; clear hd
    have HS := Lib.hid hs; clear hs
    have M0 := Lib.hid m0; clear m0
    have M1 := Lib.hid m1; clear m1
    have M2 := Lib.hid m2; clear m2
    by_cases hlt : k < 22
    · have h1 := M0.out.cell k hlt
      have h2 := M1.out.cell k hlt
      have hfz := M0.out.frozen k
      have h3 := HF.out k
      have h4 := HG.out k
      rw [← HH.out k (Nat.le_refl _)] at h3
      obtain ⟨x, hx⟩ : ∃ x, x = h k := ⟨_, rfl⟩
      obtain ⟨y, hy⟩ : ∃ y, y = dg 4096 b k := ⟨_, rfl⟩
      rw [← hx] at h1 h3
      rw [← hy] at h2 h4
      have Hx := Lib.hid hx; clear hx
      have Hy := Lib.hid hy; clear hy
      obtain ⟨h30, h31⟩ := h3
      obtain ⟨h40, h41⟩ := h4
      go_wp2_with fail
      go_quiet (fail)
      go_wp2_with fail
      all_goals
        go_roundw
        case measure => simp [intOf]; omega
        case rel =>
          first
          | (refine ⟨k + 1, upd h k (x - y - bw + 4096), 1, by omega, by go_num, rfl, by omega, by omega, ?_, ?_, ?_, (M0.out.drewN _).set _ _, M1.out.other _ _ (by simp), M2.out.other _ _ (by simp; omega), (below_drewN hB _).setCell (by simp) _⟩
             · intro j hj; rw [upd_ne _ _ _ _ (by omega)]; exact HH.out j (by omega)
             · intro j hj
               by_cases e : j = k
               · subst e; rw [upd_same]; omega
               · rw [upd_ne _ _ _ _ e]; exact HD.out j (by omega)
             · simp only [sumf]
               rw [sumf_upd_above _ _ _ _ _ (Nat.le_refl _), upd_same, ← HH.out k (Nat.le_refl _), ← Hx.out, ← Hy.out, Int.pow_succ]
               exact less_step _ _ _ _ _ _ _ _ _ HS.out (by omega))
          | (refine ⟨k + 1, upd h k (x - y - bw), 0, by omega, by go_num, rfl, by omega, by omega, ?_, ?_, ?_, (M0.out.drewN _).set _ _, M1.out.other _ _ (by simp), M2.out.other _ _ (by simp; omega), (below_drewN hB _).setCell (by simp) _⟩
             · intro j hj; rw [upd_ne _ _ _ _ (by omega)]; exact HH.out j (by omega)
             · intro j hj
               by_cases e : j = k
               · subst e; rw [upd_same]; omega
               · rw [upd_ne _ _ _ _ e]; exact HD.out j (by omega)
             · simp only [sumf]
               rw [sumf_upd_above _ _ _ _ _ (Nat.le_refl _), upd_same, ← HH.out k (Nat.le_refl _), ← Hx.out, ← Hy.out, Int.pow_succ]
               exact less_step _ _ _ _ _ _ _ _ _ HS.out (by omega))
    · obtain rfl : k = 22 := by omega
      obtain ⟨Z, hZ, m2⟩ := M2.out
      have HZ := Lib.hid hZ; clear hZ
      have M3 := Lib.hid m2; clear m2
      go_wp2_with (first | (refine wpList_load_row rfl 40 _ rfl w.heap.size rfl 40 (row .i64 22 h) (0, 0) _ M0.out Try.underlying40 rfl (by kernel_rfl) ?_) | (refine wpList_store_row rfl 40 _ _ rfl (w.heap.size + 1 + 1) _ rfl rfl 40 Z M3.out (by kernel_rfl) (HZ.out.trans (row_size _ _ _).symm) (row_one _ _ _) ?_))
      refine bodyPost_ret (v := .agg (r22 (a - b))) (results_cell_row (t := 40) (by rfl) _ _ (w.heap.size + 1 + 1) _ _ _ rfl ((M3.out.setRow _).trans (by rw [HE.out h bw hb0 hb1 HD.out HS.out])) Try.underlying40 rfl (by rw [r22_size]; kernel_rfl)) rfl ⟨rfl, below_setRow hB _ _ (by omega)⟩

/-- the prime -/
def PP : Nat := 57896044618658097711785492504343953926634992332820282019728792003956564819949
theorem PP_lt : PP < 4096 ^ 22 := by decide +kernel
theorem prime_row : row .i64 22 (upd (upd (fun j => if j < 21 then 4095 else 0) 0 4077) 21 7) = r22 PP := by
  refine row_ext _ _ _ _ ?_
  have : (List.range 22).all (fun i => upd (upd (fun j => if j < 21 then 4095 else 0) 0 4077) 21 7 i == dg 4096 PP i) = true := by decide +kernel
  intro i hi
  simpa using List.all_eq_true.1 this i (by simpa using hi)

set_option maxHeartbeats 400000 in
theorem prime_any (w : World) : Calls Try.prog 82 #[] w fun e w' => e = .returned (.agg (r22 PP)) ∧ Below w.heap.size w w' := by
  go_enter Try.func82, Try.ntmps82
  go_wp2_with fail
  go_loopw [2] (fun i wr => ∃ (k : Nat), k ≤ 21 ∧ i = .int .i64 k ∧ Has wr (w.heap.size + 1) (row .i64 22 (fun j => if j < k then 4095 else 0)) 40 ∧ HasN wr w.heap.size 22 40 ∧ Below w.heap.size w wr) (fun i _ => 21 - (intOf i).toNat)
  case atStart =>
    exact ⟨0, by omega, rfl, Has.new1 _ _ _ _, (HasN.new _ _ _ 22 rfl).alloc _, below_2 _ _ _⟩
  case round =>
    obtain ⟨k, hk, rfl, m0, m1, hB⟩ := hrel
    have M0 := Lib.hid m0; clear m0
    have M1 := Lib.hid m1; clear m1
    by_cases hlt : k < 21
    · have h1 := M0.out.cell k (by omega)
      have hfz := M0.out.frozen k
      go_wp2_with fail
      go_roundw
      case measure => simp [intOf]; omega
      case rel =>
        refine ⟨k + 1, by omega, by go_num, ?_, M1.out.other _ _ (by simp), hB.setCell (by simp) _⟩
        have := M0.out.set k 4095
        rw [row_ext _ _ _ (fun j => if j < k + 1 then 4095 else 0)] at this
        · exact this
        · intro i _
          by_cases e : i = k
          · subst e; rw [upd_same]; simp
          · rw [upd_ne _ _ _ _ e]
            show (if i < k then (4095 : Int) else 0) = if i < k + 1 then 4095 else 0
            split <;> split <;> first | rfl | omega
    · obtain rfl : k = 21 := by omega
      have h1 := M0.out.cell 0 (by omega)
      have h2 := M0.out.cell 21 (by omega)
      have f1 := M0.out.frozen 0
      have f2 := M0.out.frozen 21
      have m2 := ((M0.out.set 0 4077).set 21 7)
      rw [prime_row] at m2
      have M2 := Lib.hid m2; clear m2
      obtain ⟨Z, hZ, m3⟩ := M1.out
      have M3 := Lib.hid ((m3.other ⟨w.heap.size + 1, 0, none⟩ (.int .i64 4077) (by simp)).other ⟨w.heap.size + 1, 21, none⟩ (.int .i64 7) (by simp)); clear m3
      have HZ := Lib.hid hZ; clear hZ
      go_wp2_with (first | (refine wpList_load_row rfl 40 _ rfl (w.heap.size + 1) rfl 40 (r22 PP) (0, 0) _ M2.out Try.underlying40 rfl (by kernel_rfl) ?_) | (refine wpList_store_row rfl 40 _ _ rfl w.heap.size _ rfl rfl 40 Z M3.out (by kernel_rfl) (HZ.out.trans (r22_size _).symm) (row_one _ _ _) ?_))
      exact bodyPost_ret (v := .agg (r22 PP)) (results_cell_row (t := 40) (by rfl) _ _ w.heap.size _ _ _ rfl (M3.out.setRow _) Try.underlying40 rfl (by kernel_rfl)) rfl ⟨rfl, below_setRow ((hB.setCell (by simp) _).setCell (by simp) _) _ _ (by omega)⟩

/-- below: from the highest figure on -/
theorem below_end (a b k : Nat) (ha : a < 4096 ^ 22) (hb : b < 4096 ^ 22) (hk : k < 22) (heq : ∀ j, k < j → j < 22 → dg 4096 a j = dg 4096 b j) (hne : dg 4096 a k ≠ dg 4096 b k) : (dg 4096 a k < dg 4096 b k) ↔ a < b := by
  have e1 : sumf 4096 (dg 4096 a) 22 = (a % 4096 ^ 22 : Nat) := sumf_dg 4096 a 22
  have e2 : sumf 4096 (dg 4096 b) 22 = (b % 4096 ^ 22 : Nat) := sumf_dg 4096 b 22
  rw [Nat.mod_eq_of_lt ha] at e1
  rw [Nat.mod_eq_of_lt hb] at e2
  have up : ∀ n, k + 1 ≤ n → n ≤ 22 → sumf 4096 (dg 4096 a) n - sumf 4096 (dg 4096 b) n = sumf 4096 (dg 4096 a) (k + 1) - sumf 4096 (dg 4096 b) (k + 1) := by
    intro n hn
    induction n with
    | zero => omega
    | succ n ih =>
      intro h22
      by_cases hkn : k = n
      · subst hkn; rfl
      · have := ih (by omega) (by omega)
        have h2 := heq n (by omega) (by omega)
        simp only [sumf] at this ⊢
        rw [h2]; omega
  have h3 := up 22 (by omega) (by omega)
  rw [e1, e2] at h3
  simp only [sumf] at h3
  have p1 := sumf_nonneg 4096 (by decide) (dg 4096 a) k (fun i _ => (dg_bd 4096 a i (by decide)).1)
  have p2 := sumf_nonneg 4096 (by decide) (dg 4096 b) k (fun i _ => (dg_bd 4096 b i (by decide)).1)
  have q1 := sumf_lt 4096 (by decide) (dg 4096 a) k (fun i _ => (dg_bd 4096 a i (by decide)).2)
  have q2 := sumf_lt 4096 (by decide) (dg 4096 b) k (fun i _ => (dg_bd 4096 b i (by decide)).2)
  have hD : (0 : Int) < 4096 ^ k := Int.pow_pos (by decide)
  generalize (4096 : Int) ^ k = D at *
  generalize dg 4096 a k = x at *
  generalize dg 4096 b k = y at *
  constructor
  · intro h
    have : (x + 1) * D ≤ y * D := Int.mul_le_mul_of_nonneg_right (by omega) (by omega)
    rw [Int.add_mul] at this
    omega
  · intro h
    by_cases hh : x < y
    · exact hh
    · have : (y + 1) * D ≤ x * D := Int.mul_le_mul_of_nonneg_right (by omega) (by omega)
      rw [Int.add_mul] at this
      omega
theorem below_eq (a b : Nat) (ha : a < 4096 ^ 22) (hb : b < 4096 ^ 22) (heq : ∀ j, j < 22 → dg 4096 a j = dg 4096 b j) : a = b := by
  have e1 : sumf 4096 (dg 4096 a) 22 = (a % 4096 ^ 22 : Nat) := sumf_dg 4096 a 22
  have e2 : sumf 4096 (dg 4096 b) 22 = (b % 4096 ^ 22 : Nat) := sumf_dg 4096 b 22
  rw [Nat.mod_eq_of_lt ha] at e1
  rw [Nat.mod_eq_of_lt hb] at e2
  rw [sumf_congr 4096 _ _ 22 heq] at e1
  omega

theorem ret_bool {a b : Bool} (h : a = b) : Ending.returned (.bool a) = .returned (.bool b) := by rw [h]

set_option maxHeartbeats 400000 in
theorem below_any (a b : Nat) (ha : a < 4096 ^ 22) (hb : b < 4096 ^ 22) (w : World) :
    Calls Try.prog 109 #[.agg (r22 a), .agg (r22 b)] w fun e w' => e = .returned (.bool (decide (a < b))) ∧ Below w.heap.size w w' := by
  have H0 := Lib.hid ha; clear ha
  have H1 := Lib.hid hb; clear hb
  go_enter Try.func109, Try.ntmps109
  go_wp2_with fail
  go_loopw [5] (fun i wr => ∃ (k : Nat), k ≤ 22 ∧ i = .int .i64 ((k : Int) - 1) ∧ (∀ j, k ≤ j → j < 22 → dg 4096 a j = dg 4096 b j) ∧ Has wr w.heap.size (r22 a) 40 ∧ Has wr (w.heap.size + 1) (r22 b) 40 ∧ Below w.heap.size w wr) (fun i _ => (intOf i + 1).toNat)
  case atStart =>
    exact ⟨22, by omega, rfl, fun j h1 h2 => by omega, (Has.new _ _ _).alloc _, Has.new1 _ _ _ _, below_2 _ _ _⟩
  case round =>
    obtain ⟨k, hk, rfl, hh, m0, m1, hB⟩ := hrel
    have M0 := Lib.hid m0; clear m0
    have M1 := Lib.hid m1; clear m1
    have HH := Lib.hid hh; clear hh
    by_cases hlt : 0 < k
    · obtain ⟨k, rfl⟩ : ∃ j, k = j + 1 := ⟨k - 1, by omega⟩
      rw [show (((k + 1 : Nat) : Int) - 1) = (k : Int) by omega]
      have h1 := M0.out.cell k (by omega)
      have h2 := M1.out.cell k (by omega)
      obtain ⟨x, hx⟩ : ∃ x, x = dg 4096 a k := ⟨_, rfl⟩
      obtain ⟨y, hy⟩ : ∃ y, y = dg 4096 b k := ⟨_, rfl⟩
      rw [← hx] at h1
      rw [← hy] at h2
      have Hx := Lib.hid hx; clear hx
      have Hy := Lib.hid hy; clear hy
      have hk' : k < 22 := by omega
      by_cases hxy : x = y
      · have ht : (x != y) = false := by simp [hxy]
        have Hxy := Lib.hid hxy; clear hxy
        go_wp2_with fail
        go_quiet (fail)
        go_wp2_with fail
        go_roundw
        case measure => simp [intOf]
        case rel =>
          refine ⟨k, by omega, rfl, ?_, M0.out, M1.out, below_drewN hB _⟩
          intro j h1 h2
          by_cases e : j = k
          · subst e; rw [← Hx.out, ← Hy.out]; exact Hxy.out
          · exact HH.out j (by omega) h2
      · have ht : (x != y) = true := by simp [hxy]
        have hxy' : dg 4096 a k ≠ dg 4096 b k := by rw [← Hx.out, ← Hy.out]; exact hxy
        have hres := below_end a b k H0.out H1.out hk' (fun j h1 h2 => HH.out j (by omega) h2) hxy'
        rw [← Hx.out, ← Hy.out] at hres
        have HR := Lib.hid hres; clear hres hxy' hxy
        go_wp2_with fail
        go_quiet (fail)
        go_wp2_with fail
        go_quiet (fail)
        go_wp2_with fail
        go_ret
        exact ⟨ret_bool (by have := HR.out; simp only [this]), below_drewN (below_drewN hB _) _⟩
    · obtain rfl : k = 0 := by omega
      have hab := below_eq a b H0.out H1.out (fun j hj => HH.out j (by omega) hj)
      have HR := Lib.hid hab; clear hab
      go_wp2_with fail
      go_ret
      exact ⟨ret_bool (by have := HR.out; simp [this]), hB⟩
end Go.Proofs.Ytjiagjonlcadiaa
end
section
namespace Go.Proofs.Ytjiagjonlcadiaa
open Go.RowKit Go.Lib

theorem sumf_split (B : Int) (g : Nat → Int) (a b : Nat) : sumf B g (a + b) = sumf B g a + B ^ a * sumf B (fun j => g (j + a)) b := by
  induction b with
  | zero => simp [sumf]
  | succ b ih =>
    rw [← Nat.add_assoc]
    simp only [sumf]
    rw [ih, Int.mul_add, Int.pow_add, Nat.add_comm b a]
    have : g (a + b) * (B ^ a * B ^ b) = B ^ a * (g (a + b) * B ^ b) := by ac_rfl
    omega
theorem sumf_lin (B c : Int) (f g : Nat → Int) (n : Nat) : sumf B (fun j => f j + c * g j) n = sumf B f n + c * sumf B g n := by
  induction n with
  | zero => simp [sumf]
  | succ n ih =>
    simp only [sumf]
    rw [ih, Int.mul_add, Int.add_mul, Int.mul_assoc]
    omega
theorem carry_step (D S F x c r q : Int) (h : S + c * D = F) (hr : x + c = r + 4096 * q) : (S + r * D) + q * (D * 4096) = F + x * D := by
  have : x = r + 4096 * q - c := by omega
  subst this; grind

/-- behind the k-th round the number is below this -/
def bnd (k : Nat) : Nat := if k = 0 then 878694100496718043517683302282418331810487718418343092402491322775749527474899974671687634004666183037093927858109549828751614463963730408009475621262727315456 else if k = 1 then 485667223056432267729865476705879726660601709763034880312953102434726071301302124544 else if k = 2 then 29642774844752946028434172162224104410437116074403984394101141506025761456259072 else 29642774844752946028434172162224104410437116074403984394101141506025761187823616
theorem bnd_le (k : Nat) : bnd k ≤ 878694100496718043517683302282418331810487718418343092402491322775749527474899974671687634004666183037093927858109549828751614463963730408009475621262727315456 := by unfold bnd; split <;> (try split) <;> (try split) <;> omega
theorem bnd_3 (k : Nat) (h : 3 ≤ k) : bnd k = 29642774844752946028434172162224104410437116074403984394101141506025761187823616 := by unfold bnd; rw [if_neg (by omega), if_neg (by omega), if_neg (by omega)]
theorem p22 : (4096 : Int) ^ 22 = 29642774844752946028434172162224104410437116074403984394101141506025761187823616 := by decide +kernel
theorem p44 : (4096 : Int) ^ 44 = 878694100496718043517683302282418331810487718418343092402491322775749527474899974671687634004666183037093927858109549828751614463963730408009475621262727315456 := by decide +kernel

theorem fold_num (k L H m m' : Nat) (hm : m = L + 29642774844752946028434172162224104410437116074403984394101141506025761187823616 * H) (hm' : m' = L + 9728 * H) (hL : L < 29642774844752946028434172162224104410437116074403984394101141506025761187823616) (hb : m < bnd k) (hk : k < 5) : m' % PP = m % PP ∧ m' < bnd (k + 1) := by
  have e : 29642774844752946028434172162224104410437116074403984394101141506025761187823616 = 9728 + 512 * PP := by decide +kernel
  constructor
  · rw [hm, hm', e, Nat.add_mul, ← Nat.add_assoc, show 512 * PP * H = PP * (512 * H) by ac_rfl, Nat.add_mul_mod_self_left]
  · clear e
    unfold bnd at hb ⊢
    split at hb
    · split <;> (try split) <;> (try split) <;> omega
    split at hb
    · split <;> (try split) <;> (try split) <;> omega
    split at hb
    · split <;> (try split) <;> (try split) <;> omega
    · split <;> (try split) <;> (try split) <;> omega

/-- the state of 'least' at the head of its first loop -/
structure Inv1 (n k : Nat) (h : Nat → Int) : Prop where
  bd : ∀ i, i < 44 → 0 ≤ h i ∧ h i ≤ 1099511627776
  num : ∃ m : Nat, sumf 4096 h 44 = m ∧ m % PP = n % PP ∧ m < bnd k
  norm : 4 ≤ k → ∀ i, i < 22 → h i < 4096
  /-- the high figures -/
  high : 1 ≤ k → ∀ i, 22 ≤ i → i < 44 → h i = 0

/-- behind the pass of the carry -/
structure Inv2 (n k : Nat) (g : Nat → Int) : Prop where
  bd : ∀ i, i < 44 → 0 ≤ g i ∧ g i < 4096
  num : ∃ m : Nat, sumf 4096 g 44 = m ∧ m % PP = n % PP ∧ m < bnd k

theorem inv2_of (n k : Nat) (h g : Nat → Int) (c : Int) (h1 : Inv1 n k h) (hc : 0 ≤ c) (hb : ∀ i, i < 44 → 0 ≤ g i ∧ g i < 4096) (hs : sumf 4096 g 44 + c * 4096 ^ 44 = sumf 4096 h 44) : Inv2 n k g := by
  obtain ⟨m, hm, hmod, hlt⟩ := h1.num
  refine ⟨hb, m, ?_, hmod, hlt⟩
  have hlt' := bnd_le k
  have h0 := sumf_nonneg 4096 (by decide) g 44 (fun i hi => (hb i hi).1)
  rw [hm, p44] at hs
  have : c = 0 := by omega
  subst this
  simpa using hs

theorem inv1_of (n k : Nat) (g : Nat → Int) (hk : k < 5) (hg : Inv2 n k g) (h : Nat → Int) (hl : ∀ i, i < 22 → h i = g i + 9728 * g (i + 22)) (hh : ∀ i, 22 ≤ i → i < 44 → h i = 0) : Inv1 n (k + 1) h := by
  obtain ⟨m, hm, hmod, hlt⟩ := hg.num
  have hsp := sumf_split 4096 g 22 22
  have hL0 := sumf_nonneg 4096 (by decide) g 22 (fun i hi => (hg.bd i (by omega)).1)
  have hL1 := sumf_lt 4096 (by decide) g 22 (fun i hi => (hg.bd i (by omega)).2)
  have hH0 := sumf_nonneg 4096 (by decide) (fun j => g (j + 22)) 22 (fun i hi => (hg.bd (i + 22) (by omega)).1)
  have hsum : sumf 4096 h 44 = sumf 4096 g 22 + 9728 * sumf 4096 (fun j => g (j + 22)) 22 := by
    rw [show (44 : Nat) = 22 + 22 from rfl, sumf_split, sumf_zero 4096 (fun j => h (j + 22)) 22 (fun i hi => hh (i + 22) (by omega) (by omega)), sumf_congr 4096 h (fun j => g j + 9728 * g (j + 22)) 22 hl,
      sumf_lin 4096 9728 g (fun j => g (j + 22)) 22]
    omega
  obtain ⟨L, eL⟩ := Int.eq_ofNat_of_zero_le hL0
  obtain ⟨H, eH⟩ := Int.eq_ofNat_of_zero_le hH0
  rw [show (22 + 22 : Nat) = 44 from rfl, hm, eL, eH] at hsp
  rw [eL, eH] at hsum
  rw [eL] at hL1
  rw [p22] at hsp hL1
  have key := fold_num k L H m (L + 9728 * H) (by omega) rfl (by omega) hlt hk
  refine ⟨?_, ⟨L + 9728 * H, by rw [hsum]; omega, key.1.trans hmod, key.2⟩, ?_, fun _ => hh⟩
  · intro i hi
    by_cases h22 : i < 22
    · rw [hl i h22]
      have a1 := hg.bd i (by omega)
      have a2 := hg.bd (i + 22) (by omega)
      omega
    · rw [hh i (by omega) hi]; omega
  · intro hk4 i hi
    -- the number is below 2 ^ 264: nothing is above
    rw [bnd_3 k (by omega)] at hlt
    have hH : H = 0 := by omega
    have hz : g (i + 22) = 0 := by
      have hu := sumf_uniq 4096 (fun j => g (j + 22)) 0 22 (fun i hi => hg.bd (i + 22) (by omega)) (by show sumf 4096 _ 22 = _; rw [eH, hH]) i hi
      rw [hu, dg, Nat.zero_div, Nat.zero_mod]
      rfl
    rw [hl i hi, hz]
    have := (hg.bd i (by omega)).2
    omega
/-- the bounds of the second loop -/
def bnd4 (k : Nat) : Nat := if k = 0 then 29642774844752946028434172162224104410437116074403984394101141506025761187823616 else if k = 1 then 57896044618658097711785492504343953926634992332820282019728792003956564829696 else 57896044618658097711785492504343953926634992332820282019728792003956564819968
theorem p21 : (4096 : Int) ^ 21 = 7237005577332262213973186563042994240829374041602535252466099000494570602496 := by decide +kernel
structure Inv4 (n k : Nat) (h : Nat → Int) : Prop where
  bd : ∀ i, i < 22 → 0 ≤ h i ∧ h i < 4096
  num : ∃ m : Nat, sumf 4096 h 22 = m ∧ m % PP = n % PP ∧ m < bnd4 k

theorem inv4_of (n : Nat) (h : Nat → Int) (h1 : Inv1 n 5 h) : Inv4 n 0 h := by
  obtain ⟨m, hm, hmod, hlt⟩ := h1.num
  refine ⟨fun i hi => ⟨(h1.bd i (by omega)).1, h1.norm (by omega) i hi⟩, m, ?_, hmod, by rw [bnd_3 _ (by omega)] at hlt; exact hlt⟩
  rw [show (44 : Nat) = 22 + 22 from rfl, sumf_split, sumf_zero 4096 (fun j => h (j + 22)) 22 (fun i hi => h1.high (by omega) (i + 22) (by omega) (by omega))] at hm
  simpa using hm

/-- the figures between the two halves of the round -/
def mid (h : Nat → Int) : Nat → Int := upd (upd h 21 (h 21 % 8)) 0 (h 0 + 19 * (h 21 / 8))
theorem mid_sum (h : Nat → Int) : sumf 4096 (mid h) 22 = sumf 4096 h 22 - (h 21 / 8) * (PP : Int) := by
  have e : (PP : Int) = 8 * 7237005577332262213973186563042994240829374041602535252466099000494570602496 - 19 := by decide +kernel
  unfold mid
  rw [sumf_upd _ _ _ _ _ (by omega), upd_ne _ _ _ _ (by omega), sumf_upd _ _ _ _ _ (by omega), p21, e]
  omega
theorem mid_bd (h : Nat → Int) (hb : ∀ i, i < 22 → 0 ≤ h i ∧ h i < 4096) : ∀ i, i < 22 → 0 ≤ mid h i ∧ mid h i ≤ 16384 := by
  intro i hi
  have h21 := hb 21 (by omega)
  have h0 := hb 0 (by omega)
  unfold mid
  by_cases e0 : i = 0
  · subst e0; rw [upd_same]; omega
  · rw [upd_ne _ _ _ _ e0]
    by_cases e1 : i = 21
    · subst e1; rw [upd_same]; omega
    · rw [upd_ne _ _ _ _ e1]; have := hb i hi; omega

theorem pass_sum (h : Nat → Int) (i : Nat) (hi : i < 21) : sumf 4096 (upd (upd h (i + 1) (h (i + 1) + h i / 4096)) i (h i % 4096)) 22 = sumf 4096 h 22 := by
  rw [sumf_upd _ _ _ _ _ (by omega), upd_ne _ _ _ _ (by omega), sumf_upd _ _ _ _ _ (by omega), Int.pow_succ]
  have e : h i % 4096 = h i - 4096 * (h i / 4096) := by omega
  rw [e]
  generalize h i / 4096 = q
  generalize (4096 : Int) ^ i = D
  generalize h i = x
  generalize h (i + 1) = y
  grind

theorem s4a (m q : Nat) (G x : Int) (hG : 0 ≤ G) (h : G + x * 7237005577332262213973186563042994240829374041602535252466099000494570602496 = m - q * 57896044618658097711785492504343953926634992332820282019728792003956564819949) (hm : m < 29642774844752946028434172162224104410437116074403984394101141506025761187823616) : x < 4096 := by omega
theorem s4b (m q : Nat) (A r : Int) (hA : 0 ≤ A) (hr : 0 ≤ r) (h : A + (8 * q + r) * 7237005577332262213973186563042994240829374041602535252466099000494570602496 = m) : q * 57896044618658097711785492504343953926634992332820282019728792003956564819949 ≤ m := by omega
theorem s4c (m q : Nat) (A r : Int) (hA : 0 ≤ A) (hA' : A < 7237005577332262213973186563042994240829374041602535252466099000494570602496) (hr : 0 ≤ r) (hr' : r < 8) (h : A + (8 * q + r) * 7237005577332262213973186563042994240829374041602535252466099000494570602496 = m) (hm : m < 29642774844752946028434172162224104410437116074403984394101141506025761187823616) : m - q * 57896044618658097711785492504343953926634992332820282019728792003956564819949 < 57896044618658097711785492504343953926634992332820282019728792003956564829696 := by omega
theorem s4d (m q : Nat) (A r : Int) (hA : 0 ≤ A) (hA' : A < 7237005577332262213973186563042994240829374041602535252466099000494570602496) (hr : 0 ≤ r) (hr' : r < 8) (h : A + (8 * q + r) * 7237005577332262213973186563042994240829374041602535252466099000494570602496 = m) (hm : m < 57896044618658097711785492504343953926634992332820282019728792003956564829696) : m - q * 57896044618658097711785492504343953926634992332820282019728792003956564819949 < 57896044618658097711785492504343953926634992332820282019728792003956564819968 := by omega
theorem s4e (m q : Nat) (h : q * 57896044618658097711785492504343953926634992332820282019728792003956564819949 ≤ m) : ((m - q * 57896044618658097711785492504343953926634992332820282019728792003956564819949 : Nat) : Int) = m - q * 57896044618658097711785492504343953926634992332820282019728792003956564819949 := by omega
theorem s4f (m q : Nat) (h : q * 57896044618658097711785492504343953926634992332820282019728792003956564819949 ≤ m) : m = (m - q * 57896044618658097711785492504343953926634992332820282019728792003956564819949) + 57896044618658097711785492504343953926634992332820282019728792003956564819949 * q := by omega

theorem inv4_step (n k : Nat) (h g : Nat → Int) (hk : k < 2) (h1 : Inv4 n k h) (hb : ∀ i, i < 21 → 0 ≤ g i ∧ g i < 4096) (h21 : 0 ≤ g 21) (hs : sumf 4096 g 22 = sumf 4096 (mid h) 22) : Inv4 n (k + 1) g := by
  obtain ⟨m, hm, hmod, hlt⟩ := h1.num
  have hb21 := h1.bd 21 (by omega)
  have hlow := sumf_lt 4096 (by decide) h 21 (fun i hi => (h1.bd i (by omega)).2)
  have hlow0 := sumf_nonneg 4096 (by decide) h 21 (fun i hi => (h1.bd i (by omega)).1)
  have hg0 := sumf_nonneg 4096 (by decide) g 21 (fun i hi => (hb i hi).1)
  rw [mid_sum, hm] at hs
  have e : (PP : Int) = 57896044618658097711785492504343953926634992332820282019728792003956564819949 := by decide +kernel
  have e' : PP = 57896044618658097711785492504343953926634992332820282019728792003956564819949 := rfl
  have hm' : sumf 4096 h 21 + h 21 * 4096 ^ 21 = m := hm
  have hs' : sumf 4096 g 21 + g 21 * 4096 ^ 21 = m - h 21 / 8 * (PP : Int) := hs
  obtain ⟨q, hq⟩ := Int.eq_ofNat_of_zero_le (show 0 ≤ h 21 / 8 by omega)
  have hdec : h 21 = 8 * q + h 21 % 8 := by omega
  have hr : 0 ≤ h 21 % 8 := by omega
  have hr' : h 21 % 8 < 8 := by omega
  generalize h 21 % 8 = r at *
  rw [p21] at hm' hs' hlow
  rw [hdec] at hm'
  rw [hq, e] at hs' hs
  have hle := s4b m q _ r hlow0 hr hm'
  refine ⟨?_, m - q * 57896044618658097711785492504343953926634992332820282019728792003956564819949, ?_, ?_, ?_⟩
  · intro i hi
    by_cases e1 : i = 21
    · subst e1
      refine ⟨h21, s4a m q _ _ hg0 hs' ?_⟩
      unfold bnd4 at hlt
      split at hlt
      · exact hlt
      · split at hlt <;> omega
    · exact hb i (by omega)
  · rw [hs, s4e m q hle]
  · have := s4f m q hle
    rw [← hmod]
    conv => rhs; rw [this, ← e']
    rw [Nat.add_mul_mod_self_left, e']
  · unfold bnd4 at hlt ⊢
    rcases (show k = 0 ∨ k = 1 by omega) with rfl | rfl
    · simp only [if_true, Nat.zero_add, Nat.one_ne_zero, if_false] at hlt ⊢
      exact s4c m q _ r hlow0 hlow hr hr' hm' hlt
    · simp only [if_true, Nat.one_ne_zero, if_false] at hlt ⊢
      rw [if_neg (by omega), if_neg (by omega)]
      exact s4d m q _ r hlow0 hlow hr hr' hm' hlt

theorem inv4_end (n : Nat) (h : Nat → Int) (h1 : Inv4 n 2 h) : ∃ m : Nat, row .i64 22 h = r22 m ∧ m % PP = n % PP ∧ m < 57896044618658097711785492504343953926634992332820282019728792003956564819968 := by
  obtain ⟨m, hm, hmod, hlt⟩ := h1.num
  exact ⟨m, row_ext _ _ _ _ (sumf_uniq 4096 h m 22 h1.bd hm), hmod, hlt⟩
end Go.Proofs.Ytjiagjonlcadiaa
end
section
namespace Go
variable {P : Program} {md : Region.Mode} {ops : Array Oper} {Q : Exit → Act → World → Prop} {f : Nat} {S : World → Prop}

/-- whatever order is picked from here on; behind each operation but number f the world meets S -/
def wpBut (P : Program) (md : Region.Mode) (ops : Array Oper) (Q : Exit → Act → World → Prop) (f : Nat) (S : World → Prop) : Nat → Array Bool → Act → World → Prop
  | 0, listed, a, w => Region.ready md ops listed = [] ∧ Q .normal a w
  | n + 1, listed, a, w => (Region.ready md ops listed = [] → Q .normal a w) ∧
      ∀ j ∈ Region.ready md ops listed, wpOp P ops Q j (fun a' w' => (j ≠ f → S w') ∧ wpBut P md ops Q f S n (listed.setIfInBounds j true) a' w') a w

theorem wpAny_of_but (n : Nat) : ∀ (listed : Array Bool) (a : Act) (w : World), wpBut P md ops Q f S n listed a w → wpAny P md ops Q n listed a w := by
  induction n with
  | zero => intro _ _ _ h; exact h
  | succ n ih => intro listed a w h; exact ⟨h.1, fun j hj => wpOp_mono (fun a' w' h' => ih _ a' w' h'.2) (h.2 j hj)⟩

theorem wpBut_gen {i : Nat} {oi : Oper} {v : Value} (hi : ops[i]? = some oi) (hsel : ∀ (j : Nat) (o : Oper) cs b, ops[j]? = some o → o.op ≠ .select cs b)
    (hif : i ≠ f) (hf : ∀ o, ops[f]? = some o → ∃ e ∈ o.after, Region.binds md e = true ∧ e.on = i) (hQ : ∀ c a w, Q (.panic c) (a.put oi.dst v) w → Q (.panic c) a w) (n : Nat) :
    ∀ (listed : Array Bool) (a : Act) (w : World),
      (∀ j oj, ops[j]? = some oj → j ≠ i → listed.getD j true = false → (∀ e ∈ oj.after, Region.binds md e = true → e.on ≠ i) → oi.apart ops oj = true) →
      i ∈ Region.ready md ops listed → YieldsIf P ops S oi v a → S w →
      wpBut P md ops Q f S n (listed.setIfInBounds i true) (a.put oi.dst v) w → wpBut P md ops Q f S (n + 1) listed a w := by
  induction n with
  | zero =>
    intro listed a w _ hr hy hS H
    refine ⟨fun h => (by rw [h] at hr; cases hr), fun j hj => ?_⟩
    by_cases hji : j = i
    · subst hji; exact hy.wpOp hi hS ⟨fun _ => hS, H⟩
    · have h0 := ready_mono hj hji
      rw [H.1] at h0
      cases h0
  | succ n ih =>
    intro listed a w hfree hr hy hS H
    refine ⟨fun h => (by rw [h] at hr; cases hr), fun j hj => ?_⟩
    by_cases hji : j = i
    · subst hji; exact hy.wpOp hi hS ⟨fun _ => hS, H⟩
    have hiun := (mem_ready.1 hr).1
    obtain ⟨hjun, oj, hoj, hall⟩ := mem_ready.1 hj
    -- j does not wait for i, which has not come up: so j is not f
    have hnot : ∀ e ∈ oj.after, Region.binds md e = true → e.on ≠ i := by
      intro e he hb heq
      have h1 := hall e he hb
      rw [heq] at h1
      by_cases hlt : i < listed.size
      · simp [hlt] at hiun h1; rw [hiun] at h1; cases h1
      · simp [Array.getElem?_eq_none (Nat.le_of_not_lt hlt)] at h1
    have hjf : j ≠ f := by
      rintro rfl
      obtain ⟨e, he, hb, hon⟩ := hf oj hoj
      exact hnot e he hb hon
    have hstep := wpOp_putIf hoj (hfree j oj hoj hji hjun hnot) (fun cs b => hsel i oi cs b hi) (fun cs b => hsel j oj cs b hoj) hQ hy (H.2 j (ready_mono hj hji))
    refine wpOp_mono (fun a' w' hk => ?_) hstep
    have hSw := hk.2.1 hjf
    refine ⟨fun _ => hSw, ih (listed.setIfInBounds j true) a' w' ?_ (ready_mono hr (Ne.symm hji)) hk.1 hSw ?_⟩
    · intro k ok hok hki hun hno
      refine hfree k ok hok hki ?_ hno
      by_cases hjk : j = k
      · subst hjk; exact hjun
      · rw [getD_set_ne true hjk] at hun; exact hun
    · rw [Array.setIfInBounds_comm _ _ hji]; exact hk.2.2

/-- does number f wait for number i? -/
def waitsFor (md : Region.Mode) (ops : Array Oper) (f i : Nat) : Bool := match ops[f]? with
  | some o => o.after.any fun e => Region.binds md e && e.on == i
  | none => true

/-- take number i first -/
theorem wpBut_take {i : Nat} {oi : Oper} {v : Value} {n : Nat} {listed : Array Bool} {a : Act} {w : World} (hi : ops[i]? = some oi) (hs : Region.noSelect ops = true) (hfr : Region.free md ops listed i = true)
    (hr : (Region.ready md ops listed).contains i = true) (hif : (i == f) = false) (hf : waitsFor md ops f i = true) (hQ : ∀ c a w, Q (.panic c) (a.put oi.dst v) w → Q (.panic c) a w) (hy : YieldsIf P ops S oi v a) (hS : S w)
    (h : wpBut P md ops Q f S n (listed.setIfInBounds i true) (a.put oi.dst v) w) : wpBut P md ops Q f S (n + 1) listed a w := by
  refine wpBut_gen hi (Region.noSelect_spec hs) (by simpa using hif) (fun o ho => ?_) hQ n listed a w (Region.free_spec hi hfr) (by simpa using hr) hy hS h
  unfold waitsFor at hf
  rw [ho] at hf
  simp only [Array.any_eq_true'] at hf
  obtain ⟨e, he, hb⟩ := hf
  simp only [Bool.and_eq_true, beq_iff_eq] at hb
  exact ⟨e, he, hb.1, hb.2⟩

theorem yieldsIf_load_row {oi : Oper} {a : Act} (hw : Region.wanted oi (yielded ops a.tmps) = true) (ty : TypeId) (x : Operand) (ho : oi.op = .load ty x) (g : Nat) (hx : a.eval x = .pointer (some ⟨g, 0, none⟩)) (t : TypeId) (cs : Array Value)
    {d : TypeDesc} (hS : ∀ w, S w → w.heap[g]? = some (.cells cs t (0, 0))) (hu : P.underlying ty = some d) (hd : (match d with | .struct _ | .array _ _ => true | _ => false) = true) (hi : (P.info? ty).map (·.size) = some cs.size) :
    YieldsIf P ops S oi (.agg cs) a := by
  refine Or.inl ⟨hw, fun w h => ?_⟩
  unfold execOp
  simp only [ho, hx, Instr.loadAt, Instr.sureAddr, Sem.run_bind, Sem.run_pure, Result.andThen_ok, run_loadVar_row w g t ty cs (0, 0) d (hS w h) hu hd hi]

/-- one operation alone may come up -/
theorem wpBut_one {i : Nat} {oi : Oper} {n : Nat} {listed : Array Bool} {a : Act} {w : World} (hr : Region.ready md ops listed = [i]) (hi : ops[i]? = some oi)
    (h : ∀ K : Act → World → Prop, Shut (∀ a' w', (i ≠ f → S w') → wpBut P md ops Q f S n (listed.setIfInBounds i true) a' w' → K a' w') → if Region.wanted oi (yielded ops a.tmps) = true then Oper.wp P oi a w K Q else K (a.put oi.dst undef) w) :
    wpBut P md ops Q f S (n + 1) listed a w := by
  refine ⟨fun h0 => (by rw [hr] at h0; cases h0), fun j hj => ?_⟩
  rw [hr] at hj
  obtain rfl : j = i := by simpa using hj
  exact wpOp_step hi fun K hK => h K fun a' w' hS hW => hK a' w' ⟨hS, hW⟩

/-- two operations may come up -/
theorem wpBut_two {i j : Nat} {oi oj : Oper} {n : Nat} {listed : Array Bool} {a : Act} {w : World} (hr : Region.ready md ops listed = [i, j]) (hi : ops[i]? = some oi) (hj : ops[j]? = some oj)
    (h1 : ∀ K : Act → World → Prop, Shut (∀ a' w', (i ≠ f → S w') → wpBut P md ops Q f S n (listed.setIfInBounds i true) a' w' → K a' w') → if Region.wanted oi (yielded ops a.tmps) = true then Oper.wp P oi a w K Q else K (a.put oi.dst undef) w)
    (h2 : ∀ K : Act → World → Prop, Shut (∀ a' w', (j ≠ f → S w') → wpBut P md ops Q f S n (listed.setIfInBounds j true) a' w' → K a' w') → if Region.wanted oj (yielded ops a.tmps) = true then Oper.wp P oj a w K Q else K (a.put oj.dst undef) w) :
    wpBut P md ops Q f S (n + 1) listed a w := by
  refine ⟨fun h0 => (by rw [hr] at h0; cases h0), fun k hk => ?_⟩
  rw [hr] at hk
  simp only [List.mem_cons, List.not_mem_nil, or_false] at hk
  rcases hk with rfl | rfl
  · exact wpOp_step hi fun K hK => h1 K fun a' w' hS hW => hK a' w' ⟨hS, hW⟩
  · exact wpOp_step hj fun K hK => h2 K fun a' w' hS hW => hK a' w' ⟨hS, hW⟩

theorem wpBut_done {n : Nat} {listed : Array Bool} {a : Act} {w : World} (hr : Region.ready md ops listed = []) (h : Q .normal a w) : wpBut P md ops Q f S n listed a w := by
  cases n with
  | zero => exact ⟨hr, h⟩
  | succ n => exact ⟨fun _ => h, by rw [hr]; simp⟩

theorem wp_region_but {id : Nat} {a : Act} {w : World} (f : Nat) (S : World → Prop) (hm : P.follows .mixedOrders = true)
    (h : wpBut P .any ops Q f S ops.size (Array.replicate ops.size false) a w.drew) : (Code.region id ops true).wp P Q a w :=
  wp_region_any hm (wpAny_of_but _ _ _ _ h)
/-- the ways through a region meet again: what is known of the block that it made -/
theorem wp_region_join {id : Nat} {b : Bool} {a : Act} {w : World} (C : World → Nat → World → Prop) (F : Act → Nat → Act)
    (h : ∀ Q' : Exit → Act → World → Prop, (∀ B w', C w B w' → Q' .normal (F a B) w') → (Code.region id ops b).wp P Q' a w) (hQ : ∀ W0 B w', W0 = w → C W0 B w' → Q .normal (F a B) w') : (Code.region id ops b).wp P Q a w :=
  h Q fun B w' hC => hQ w B w' rfl hC

/-- the condition: nothing that was there when the region began has turned -/
theorem wp_region_below {id : Nat} {a : Act} {w : World} (f : Nat) (hm : P.follows .mixedOrders = true)
    (h : ∀ W0 : World, W0 = w → wpBut P .any ops Q f (fun w' => Go.RowKit.Below W0.heap.size W0 w') ops.size (Array.replicate ops.size false) a W0.drew) : (Code.region id ops true).wp P Q a w :=
  wp_region_but f _ hm (h w rfl)
end Go
end
section
namespace Go.Proofs.Ytjiagjonlcadiaa
open Go.RowKit Go.Lib

theorem PP_pos : 0 < PP := by decide +kernel
theorem lt_p22 (n : Nat) (h : n < 57896044618658097711785492504343953926634992332820282019728792003956564819968) : n < 4096 ^ 22 := Nat.lt_trans h (by decide +kernel)

set_option maxRecDepth 100000 in
set_option maxHeartbeats 4000000 in
theorem least_any (n : Nat) (f : Nat → Int) (hf : Inv1 n 0 f) (w : World) :
    Calls Try.prog 78 #[.agg (row .i64 44 f)] w fun e w' => e = .returned (.agg (r22 (n % PP))) ∧ Below w.heap.size w w' := by
  have HF := Lib.hid hf; clear hf
  go_enter Try.func78, Try.ntmps78
  go_wp2_with fail
  go_loopw [3] (fun i wr => ∃ (k : Nat) (h : Nat → Int), k ≤ 5 ∧ i = .int .i64 k ∧ Inv1 n k h ∧ Has wr w.heap.size (row .i64 44 h) 101 ∧ HasN wr (w.heap.size + 1) 22 40 ∧ Below w.heap.size w wr) (fun i _ => 5 - (intOf i).toNat)
  case atStart => exact ⟨0, f, by omega, rfl, HF.out, (Has.new _ _ _).alloc _, HasN.new1 _ _ _ _ 22 rfl, below_2 _ _ _⟩
  case round =>
    obtain ⟨k, h, hk, rfl, hI, m0, m1, hB⟩ := hrel
    have M0 := Lib.hid m0; clear m0
    have M1 := Lib.hid m1; clear m1
    have HI := Lib.hid hI; clear hI
    by_cases hlt : k < 5
    · -- the pass of the carry
      go_wp2_with fail
      obtain ⟨w1, rfl⟩ : ∃ w1 : World, w1 = wr := ⟨_, rfl⟩
      go_loopw [4, 5] (fun c i wr => ∃ (j : Nat) (g : Nat → Int) (cv : Int), j ≤ 44 ∧ i = .int .i64 j ∧ c = .int .i64 cv ∧ 0 ≤ cv ∧ cv ≤ 1073741824 ∧ (∀ l, j ≤ l → g l = h l) ∧ (∀ l, l < j → 0 ≤ g l ∧ g l < 4096) ∧ sumf 4096 g j + cv * 4096 ^ j = sumf 4096 h j ∧ Has wr w.heap.size (row .i64 44 g) 101 ∧ HasN wr (w.heap.size + 1) 22 40 ∧ Below w.heap.size w wr) (fun _ i _ => 44 - (intOf i).toNat)
      case atStart => exact ⟨0, h, 0, by omega, rfl, rfl, by omega, by omega, fun _ _ => rfl, fun l hl => by omega, by simp [sumf], M0.out, M1.out, hB⟩
      case round =>
        obtain ⟨j, g, cv, hj, rfl, rfl, hc0, hc1, hg, hd, hs, m0, m1, hB'⟩ := hrel
        have N0 := Lib.hid m0; clear m0
        have N1 := Lib.hid m1; clear m1
        have HG := Lib.hid hg; clear hg
        have HD := Lib.hid hd; clear hd
        have HS := Lib.hid hs; clear hs
        by_cases hjl : j < 44
        · have h1 := N0.out.cell j hjl
          have hfz := N0.out.frozen j
          have hx1 := HI.out.bd j hjl
          rw [← HG.out j (Nat.le_refl _)] at hx1
          obtain ⟨x, hx⟩ : ∃ x, x = g j := ⟨_, rfl⟩
          rw [← hx] at h1 hx1
          have Hx := Lib.hid hx; clear hx
          obtain ⟨hx0, hx1⟩ := hx1
          go_wp2_with fail
          go_roundw
          case measure => simp [intOf]; omega
          case rel =>
            refine ⟨j + 1, upd g j ((x + cv) % 4096), (x + cv) / 4096, by omega, by go_num, rfl, by omega, by omega, ?_, ?_, ?_, N0.out.set _ _, N1.out.other _ _ (by simp), hB'.setCell (by simp) _⟩
            · intro l hl; rw [upd_ne _ _ _ _ (by omega)]; exact HG.out l (by omega)
            · intro l hl
              by_cases e : l = j
              · subst e; rw [upd_same]; omega
              · rw [upd_ne _ _ _ _ e]; exact HD.out l (by omega)
            · simp only [sumf]
              rw [sumf_upd_above _ _ _ _ _ (Nat.le_refl _), upd_same, ← HG.out j (Nat.le_refl _), ← Hx.out, Int.pow_succ]
              exact carry_step _ _ _ _ _ _ _ HS.out (by omega)
        · obtain rfl : j = 44 := by omega
          have hI2 := inv2_of n k h g cv HI.out hc0 HD.out HS.out
          have HI2 := Lib.hid hI2; clear hI2
          clear HD HS HG hjl hj M0 M1 HI hB
          -- the fold
          go_wp2_with fail
          obtain ⟨w2, rfl⟩ : ∃ w2 : World, w2 = wr := ⟨_, rfl⟩
          go_loopw [7] (fun i wr => ∃ (j : Nat) (u : Nat → Int), j ≤ 22 ∧ i = .int .i64 j ∧ (∀ l, l < j → u l = g l + 9728 * g (l + 22) ∧ u (l + 22) = 0) ∧ (∀ l, j ≤ l → l < 22 → u l = g l ∧ u (l + 22) = g (l + 22)) ∧ Has wr w.heap.size (row .i64 44 u) 101 ∧ HasN wr (w.heap.size + 1) 22 40 ∧ Below w.heap.size w wr) (fun i _ => 22 - (intOf i).toNat)
          case atStart => exact ⟨0, g, by omega, rfl, fun l hl => by omega, fun _ _ _ => ⟨rfl, rfl⟩, N0.out, N1.out, hB'⟩
          case round =>
            obtain ⟨j, u, hj, rfl, hu1, hu2, m0, m1, hB⟩ := hrel
            have O0 := Lib.hid m0; clear m0
            have O1 := Lib.hid m1; clear m1
            have HU1 := Lib.hid hu1; clear hu1
            have HU2 := Lib.hid hu2; clear hu2
            by_cases hjl : j < 22
            · have h1 := O0.out.cell j (by omega)
              have h2 := O0.out.cell (j + 22) (by omega)
              have hf1 := O0.out.frozen j
              have hf2 := O0.out.frozen (j + 22)
              have hy1 := HI2.out.bd j (by omega)
              have hz1 := HI2.out.bd (j + 22) (by omega)
              rw [← (HU2.out j (Nat.le_refl _) hjl).1] at hy1
              rw [← (HU2.out j (Nat.le_refl _) hjl).2] at hz1
              obtain ⟨y, hy⟩ : ∃ y, y = u j := ⟨_, rfl⟩
              obtain ⟨z, hz⟩ : ∃ z, z = u (j + 22) := ⟨_, rfl⟩
              rw [← hy] at h1 hy1
              rw [← hz] at h2 hz1
              have Hy := Lib.hid hy; clear hy
              have Hz := Lib.hid hz; clear hz
              obtain ⟨hy0, hy1⟩ := hy1
              obtain ⟨hz0, hz1⟩ := hz1
              have hne : (j = j + 22) = False := by simp
              go_wp2_with fail
              go_region
              go_wp2_with fail
              go_roundw
              case measure => simp [intOf]; omega
              case rel =>
                refine ⟨j + 1, upd (upd u j (y + 9728 * z)) (j + 22) 0, by omega, by go_num, ?_, ?_, (O0.out.set _ _).set _ _, (O1.out.other _ _ (by simp)).other _ _ (by simp), ((hB.setCell (Nat.le_refl _) _).setCell (Nat.le_refl _) _).drew⟩
                · intro l hl
                  by_cases e : l = j
                  · subst e
                    rw [upd_ne _ _ _ _ (by omega), upd_same, upd_same, Hy.out, Hz.out, (HU2.out l (Nat.le_refl _) hjl).1, (HU2.out l (Nat.le_refl _) hjl).2]
                    exact ⟨rfl, rfl⟩
                  · rw [upd_ne _ _ _ _ (by omega), upd_ne _ _ _ _ e, upd_ne _ _ _ _ (by omega), upd_ne _ _ _ _ (by omega)]
                    exact HU1.out l (by omega)
                · intro l hl hl'
                  rw [upd_ne _ _ _ _ (by omega), upd_ne _ _ _ _ (by omega), upd_ne _ _ _ _ (by omega), upd_ne _ _ _ _ (by omega)]
                  exact HU2.out l (by omega) hl'
            · obtain rfl : j = 22 := by omega
              have hI1 := inv1_of n k g hlt HI2.out u (fun i hi => (HU1.out i hi).1) (fun i hi hi' => by
                have := (HU1.out (i - 22) (by omega)).2
                rwa [show i - 22 + 22 = i by omega] at this)
              have HI1 := Lib.hid hI1; clear hI1
              clear HU1 HU2 hjl hj N0 N1 HI2 hB'
              go_wp2_with fail
              go_roundw
              case measure => simp [intOf]; omega
              case rel => exact ⟨k + 1, u, by omega, by go_num, HI1.out, O0.out, O1.out, hB⟩
    · obtain rfl : k = 5 := by omega
      have HI4 := Lib.hid (inv4_of n h HI.out)
      clear HI hlt hk HF
      go_wp2_with fail
      obtain ⟨w1, rfl⟩ : ∃ w1 : World, w1 = wr := ⟨_, rfl⟩
      -- what is beyond 255 bits
      go_loopw [8] (fun i wr => ∃ (k : Nat) (h : Nat → Int), k ≤ 2 ∧ i = .int .i64 k ∧ Inv4 n k h ∧ Has wr w.heap.size (row .i64 44 h) 101 ∧ HasN wr (w.heap.size + 1) 22 40 ∧ Below w.heap.size w wr) (fun i _ => 2 - (intOf i).toNat)
      case atStart => exact ⟨0, h, by omega, rfl, HI4.out, M0.out, M1.out, hB⟩
      case round =>
        clear M0 M1 HI4 hB
        obtain ⟨k, h, hk, rfl, hI, m0, m1, hB⟩ := hrel
        have M0 := Lib.hid m0; clear m0
        have M1 := Lib.hid m1; clear m1
        have HI := Lib.hid hI; clear hI
        by_cases hlt : k < 2
        · have h1 := M0.out.cell 0 (by omega)
          have h2 := M0.out.cell 21 (by omega)
          have hf1 := M0.out.frozen 0
          have hf2 := M0.out.frozen 21
          have hy1 := HI.out.bd 0 (by omega)
          have hz1 := HI.out.bd 21 (by omega)
          obtain ⟨y, hy⟩ : ∃ y, y = h 0 := ⟨_, rfl⟩
          obtain ⟨z, hz⟩ : ∃ z, z = h 21 := ⟨_, rfl⟩
          rw [← hy] at h1 hy1
          rw [← hz] at h2 hz1
          have hm : mid h = upd (upd h 21 (z % 8)) 0 (y + 19 * (z / 8)) := by rw [hy, hz]; rfl
          have m2 := (M0.out.set 21 (z % 8)).set 0 (y + 19 * (z / 8))
          rw [← hm] at m2
          have M2 := Lib.hid m2; clear m2
          have hM1 := (M1.out.other ⟨w.heap.size, 21, none⟩ (.int .i64 (z % 8)) (by simp)).other ⟨w.heap.size, 0, none⟩ (.int .i64 (y + 19 * (z / 8))) (by simp)
          have M3 := Lib.hid hM1; clear hM1
          have hB2 := (hB.setCell (p := ⟨w.heap.size, 21, none⟩) (by simp) (.int .i64 (z % 8))).setCell (p := ⟨w.heap.size, 0, none⟩) (by simp) (.int .i64 (y + 19 * (z / 8)))
          have HB2 := Lib.hid hB2; clear hB2
          have Hy := Lib.hid hy; clear hy
          have Hz := Lib.hid hz; clear hz
          have Hm := Lib.hid hm; clear hm
          obtain ⟨hy0, hy1⟩ := hy1
          obtain ⟨hz0, hz1⟩ := hz1
          go_wp2_with fail
          go_loopw [10] (fun i wr => ∃ (j : Nat) (g : Nat → Int), j ≤ 21 ∧ i = .int .i64 j ∧ (∀ l, l < j → 0 ≤ g l ∧ g l < 4096) ∧ (∀ l, j < l → l < 22 → g l = mid h l) ∧ 0 ≤ g j ∧ g j ≤ 1048576 ∧ sumf 4096 g 22 = sumf 4096 (mid h) 22 ∧ Has wr w.heap.size (row .i64 44 g) 101 ∧ HasN wr (w.heap.size + 1) 22 40 ∧ Below w.heap.size w wr) (fun i _ => 21 - (intOf i).toNat)
          case atStart =>
            have hb := mid_bd h HI.out.bd 0 (by omega)
            exact ⟨0, mid h, by omega, rfl, fun l hl => by omega, fun _ _ _ => rfl, hb.1, by omega, rfl, M2.out, M3.out, HB2.out⟩
          case round =>
            obtain ⟨j, g, hj, rfl, hg1, hg2, hg3, hg4, hs, m0, m1, hB'⟩ := hrel
            clear M2 M3 h1 h2 hf1 hf2
            have N0 := Lib.hid m0; clear m0
            have N1 := Lib.hid m1; clear m1
            have HG1 := Lib.hid hg1; clear hg1
            have HG2 := Lib.hid hg2; clear hg2
            have HS := Lib.hid hs; clear hs
            by_cases hjl : j < 21
            · have h1 := N0.out.cell j (by omega)
              have h2 := N0.out.cell (j + 1) (by omega)
              have hf1 := N0.out.frozen j
              have hf2 := N0.out.frozen (j + 1)
              have hv1 := mid_bd h HI.out.bd (j + 1) (by omega)
              rw [← HG2.out (j + 1) (by omega) (by omega)] at hv1
              obtain ⟨u, hu⟩ : ∃ u, u = g j := ⟨_, rfl⟩
              obtain ⟨v, hv⟩ : ∃ v, v = g (j + 1) := ⟨_, rfl⟩
              rw [← hu] at h1 hg3 hg4
              rw [← hv] at h2 hv1
              have Hu := Lib.hid hu; clear hu
              have Hv := Lib.hid hv; clear hv
              obtain ⟨hv0, hv1⟩ := hv1
              have hne : (j + 1 = j) = False := by simp
              go_wp2_with fail
              go_region
              go_wp2_with fail
              go_roundw
              case measure => simp [intOf]; omega
              case rel =>
                refine ⟨j + 1, upd (upd g (j + 1) (v + u / 4096)) j (u % 4096), by omega, by go_num, ?_, ?_, ?_, ?_, ?_, (N0.out.set _ _).set _ _, (N1.out.other _ _ (by simp)).other _ _ (by simp), ((hB'.setCell (Nat.le_refl _) _).setCell (Nat.le_refl _) _).drew⟩
                · intro l hl
                  by_cases e : l = j
                  · subst e; rw [upd_same]; omega
                  · rw [upd_ne _ _ _ _ e, upd_ne _ _ _ _ (by omega)]; exact HG1.out l (by omega)
                · intro l hl hl'
                  rw [upd_ne _ _ _ _ (by omega), upd_ne _ _ _ _ (by omega)]; exact HG2.out l (by omega) hl'
                · rw [upd_ne _ _ _ _ (by omega), upd_same]; omega
                · rw [upd_ne _ _ _ _ (by omega), upd_same]; omega
                · rw [Hu.out, Hv.out, pass_sum g j hjl]; exact HS.out
            · obtain rfl : j = 21 := by omega
              have hI1 := inv4_step n k h g hlt HI.out HG1.out hg3 HS.out
              have HI1 := Lib.hid hI1; clear hI1
              clear HG1 HG2 HS hjl hj hg3 hg4
              go_wp2_with fail
              go_roundw
              case measure => simp [intOf]; omega
              case rel => exact ⟨k + 1, g, by omega, by go_num, HI1.out, N0.out, N1.out, hB'⟩
        · obtain rfl : k = 2 := by omega
          have HI4 := Lib.hid (inv4_end n h HI.out)
          clear HI hlt hk
          go_wp2_with fail
          have hlt1 := M1.out.lt
          have hne : ¬ wr.heap.size = w.heap.size := by omega
          have hne' : ¬ w.heap.size = wr.heap.size := by omega
          have N0 := Lib.hid (M0.out.alloc (.cells (row .i64 22 fun _ => 0) 40))
          have N1 := Lib.hid (M1.out.alloc (.cells (row .i64 22 fun _ => 0) 40))
          have N2 := Lib.hid (Has.new wr (row .i64 22 fun _ => 0) 40)
          have HB := Lib.hid (hB.alloc (by omega) (.cells (row .i64 22 fun _ => 0) 40))
          clear M0 M1 hB
          obtain ⟨w3, rfl⟩ : ∃ w3 : World, w3 = wr := ⟨_, rfl⟩
          go_loopw [12] (fun i wx => ∃ (j : Nat) (g : Nat → Int), j ≤ 22 ∧ i = .int .i64 j ∧ (∀ l, l < j → g l = h l) ∧ Has wx w.heap.size (row .i64 44 h) 101 ∧ HasN wx (w.heap.size + 1) 22 40 ∧ Has wx w3.heap.size (row .i64 22 g) 40 ∧ Below w.heap.size w wx) (fun i _ => 22 - (intOf i).toNat)
          case atStart => exact ⟨0, fun _ => 0, by omega, rfl, fun l hl => by omega, N0.out, N1.out, N2.out, HB.out⟩
          case round =>
            clear N0 N1 N2 HB
            obtain ⟨j, g, hj, rfl, hg, m0, m1, m2, hB⟩ := hrel
            have N0 := Lib.hid m0; clear m0
            have N1 := Lib.hid m1; clear m1
            have N2 := Lib.hid m2; clear m2
            have HG := Lib.hid hg; clear hg
            by_cases hjl : j < 22
            · have h1 := N0.out.cell j (by omega)
              have h2 := N2.out.cell j (by omega)
              have hf2 := N2.out.frozen j
              obtain ⟨u, hu⟩ : ∃ u, u = h j := ⟨_, rfl⟩
              rw [← hu] at h1
              have Hu := Lib.hid hu; clear hu
              go_wp2_with fail
              go_roundw
              case measure => simp [intOf]; omega
              case rel =>
                refine ⟨j + 1, upd g j u, by omega, by go_num, ?_, N0.out.other _ _ (by simpa using hne'), N1.out.other _ _ (by simp; omega), N2.out.set _ _, hB.setCell (by simp; omega) _⟩
                intro l hl
                by_cases e : l = j
                · subst e; rw [upd_same, Hu.out]
                · rw [upd_ne _ _ _ _ e]; exact HG.out l (by omega)
            · obtain rfl : j = 22 := by omega
              obtain ⟨m, hm, hmod, hm255⟩ := HI4.out
              rw [← row_ext _ _ _ _ HG.out] at hm
              have m2 := N2.out
              rw [hm] at m2
              have O2 := Lib.hid m2; clear m2
              have HM := Lib.hid hmod; clear hmod
              have HM2 := Lib.hid hm255; clear hm255 hm
              clear N2 HG hjl hj HI4 N0
              go_wp2_with fail
              obtain ⟨w4, rfl⟩ : ∃ w4 : World, w4 = wr := ⟨_, rfl⟩
              go_loopg [101] m (fun gk _ wx => gk % PP = n % PP ∧ gk < 57896044618658097711785492504343953926634992332820282019728792003956564819968 ∧ HasN wx (w.heap.size + 1) 22 40 ∧ Has wx w3.heap.size (r22 gk) 40 ∧ Below w.heap.size w wx)
              case atStart => exact ⟨HM.out, HM2.out, N1.out, O2.out, hB⟩
              case round =>
                clear N1 O2 HM HM2 hB
                obtain ⟨hmod, h255, n1, m2, hB⟩ := hrel
                have N1 := Lib.hid n1; clear n1
                have M2 := Lib.hid m2; clear m2
                have HM := Lib.hid hmod; clear hmod
                have H255 := Lib.hid h255; clear h255
                obtain ⟨w5, rfl⟩ : ∃ w5 : World, w5 = wr := ⟨_, rfl⟩
                have hlt5 := M2.out.lt
                have hu := Try.underlying40
                have hi : (Try.prog.info? 40).map (·.size) = some (rowl .i64 22 (dg 4096 gk)).length := by rw [rowl_len]; kernel_rfl
                have hR : w5.rangeAt w3.heap.size 0 (rowl .i64 22 (dg 4096 gk)) := M2.out.range
                have hgk : gk < 4096 ^ 22 := lt_p22 _ H255.out
                have HGK := Lib.hid hgk; clear hgk
                have HB := Lib.hid hB; clear hB
                by_cases hp : gk < PP
                · have hd : decide (gk < PP) = true := by simpa using hp
                  have hres : gk = n % PP := by rw [← HM.out, Nat.mod_eq_of_lt hp]
                  have HR := Lib.hid hres; clear hres hp
                  have Hd := Lib.hid hd; clear hd
                  go_wp2_with fail
                  go_region_held3 (fun w' => Below w5.heap.size w5 w' ∧ w'.rangeAt w3.heap.size 0 (rowl .i64 22 (dg 4096 gk)))
                    ((first | assumption | exact ⟨(Below.refl _ _).drew, hR⟩ | (have hk := held_next (‹Below w5.heap.size w5 _ ∧ _›).1 hb; exact ⟨hk, range_below hR hk hlt5⟩)))
                    ((first | (go_at_call 82; refine (prime_any _).mono ?_; rintro e w1 ⟨rfl, hb⟩) | (go_at_call 109; refine (below_any gk PP HGK.out PP_lt _).mono ?_; rintro e w1 ⟨rfl, hb⟩; rw [Hd.out])))
                  have hH := Lib.hid (‹Below w5.heap.size w5 _ ∧ _›).1
                  have P2 := Lib.hid (M2.out.below hH.out hlt5)
                  obtain ⟨Z, hZ, m1⟩ := N1.out.below hH.out N1.out.lt
                  have P1 := Lib.hid m1; clear m1
                  have HZ := Lib.hid hZ; clear hZ
                  have HBB := Lib.hid ((below_setRow (HB.out.trans (hH.out.mono HB.out.size)) (w.heap.size + 1) (r22 gk) (by omega)))
                  clear hR hu hi
                  go_wp2_with (first | (refine wpList_load_row rfl 40 _ rfl w3.heap.size rfl 40 (r22 gk) (0, 0) _ P2.out Try.underlying40 rfl (by rw [r22_size]; kernel_rfl) ?_) | (refine wpList_store_row rfl 40 _ _ rfl (w.heap.size + 1) _ rfl rfl 40 Z P1.out (by rw [r22_size]; kernel_rfl) (HZ.out.trans (r22_size _).symm) (row_one _ _ _) ?_))
                  exact bodyPost_ret (v := .agg (r22 (n % PP))) (results_cell_row (t := 40) (by rfl) _ _ (w.heap.size + 1) _ _ _ rfl ((P1.out.setRow _).trans (by rw [← HR.out])) Try.underlying40 rfl (by rw [r22_size]; kernel_rfl)) rfl ⟨rfl, HBB.out⟩
                · have hd : decide (gk < PP) = false := by simpa using hp
                  have Hp := Lib.hid (Nat.not_lt.1 hp); clear hp
                  have Hd := Lib.hid hd; clear hd
                  go_wp2_with fail
                  go_region_held3 (fun w' => Below w5.heap.size w5 w' ∧ w'.rangeAt w3.heap.size 0 (rowl .i64 22 (dg 4096 gk)))
                    ((first | exact ⟨(Below.refl _ _).drew, hR⟩ | exact (‹Below w5.heap.size w5 _ ∧ _›) | (have hk := held_next (‹Below w5.heap.size w5 _ ∧ _›).1 hb; exact ⟨hk, range_below hR hk hlt5⟩)))
                    ((first | (go_at_call 82; refine (prime_any _).mono ?_; rintro e w1 ⟨rfl, hb⟩) | (go_at_call 109; refine (below_any gk PP HGK.out PP_lt _).mono ?_; rintro e w1 ⟨rfl, hb⟩; rw [Hd.out])))
                  have hH := Lib.hid (‹Below w5.heap.size w5 _ ∧ _›).1
                  obtain ⟨w6, rfl⟩ : ∃ w6 : World, w6 = w1 := ⟨_, rfl⟩
                  have P2 := Lib.hid (M2.out.below hH.out hlt5)
                  have P1 := Lib.hid (N1.out.below hH.out N1.out.lt)
                  have HBB := Lib.hid (HB.out.trans (hH.out.mono HB.out.size))
                  clear hR
                  obtain ⟨gd, hgd⟩ : ∃ d, d = gk - PP := ⟨_, rfl⟩
                  have hl := fun w => less_any gk PP Hp.out HGK.out w
                  rw [← hgd] at hl
                  have HL := Lib.hid hl; clear hl
                  have He := Lib.hid hgd; clear hgd
                  have hlt6 := P2.out.lt
                  obtain ⟨gd, hgd⟩ : ∃ d, d = gk - PP := ⟨_, rfl⟩
                  have hl := fun w => less_any gk PP Hp.out HGK.out w
                  rw [← hgd] at hl
                  have HL := Lib.hid hl; clear hl
                  have He := Lib.hid hgd; clear hgd
                  clear hi hu
                  go_wp2_with fail
                  refine wp_region_noPanic ?_
                  refine wp_region_but 3 (fun w' => Below w6.heap.size w6 w' ∧ Has w' w3.heap.size (r22 gk) 40) (by kernel_rfl) ?_
                  refine wpBut_take (i := 0) rfl (by kernel_rfl) (by kernel_rfl) (by kernel_rfl) (by kernel_rfl) (by kernel_rfl) (fun _ _ _ h => h) (yieldsIf_load_row (by rfl) 40 _ rfl w3.heap.size rfl 40 (r22 gk) (fun w h => h.2) Try.underlying40 rfl (by rw [r22_size]; kernel_rfl)) ⟨(Below.refl _ _).drew, P2.out⟩ ?_
                  simp only [Act.put, List.setIfInBounds_toArray]
                  refine wpBut_one (i := 1) (by kernel_rfl) rfl (fun K hK => ?_)
                  go_simp
                  go_at_call 82
                  refine (prime_any _).mono ?_
                  rintro e w7 ⟨rfl, hb⟩
                  refine hK.out _ _ (fun _ => ⟨held_next (Below.refl _ _).drew hb, P2.out.below (held_next (Below.refl _ _).drew hb) hlt6⟩) ?_
                  have hk7 := held_next (w4 := w6) (Below.refl _ _).drew hb
                  clear hK K hb
                  refine wpBut_one (i := 2) (by kernel_rfl) rfl (fun K hK => ?_)
                  go_simp
                  go_at_call 81
                  refine (HL.out _).mono ?_
                  rintro e w8 ⟨rfl, hb⟩
                  have hk8 := held_next hk7 hb
                  refine hK.out _ _ (fun _ => ⟨hk8, P2.out.below hk8 hlt6⟩) ?_
                  clear hK K hb hk7
                  refine wpBut_one (i := 3) (by kernel_rfl) rfl (fun K hK => ?_)
                  rw [if_pos (by rfl)]
                  refine wp_store_row 40 _ _ rfl w3.heap.size _ rfl rfl 40 (r22 gk) (P2.out.below hk8 hlt6) (by rw [r22_size]; kernel_rfl) ((r22_size _).trans (r22_size _).symm) (row_one _ _ _) ?_
                  refine hK.out _ _ (fun h => (h rfl).elim) ?_
                  clear hK K
                  simp only [Act.put, List.setIfInBounds_toArray]
                  refine wpBut_done (by kernel_rfl) (NoPanic.normal ?_)
                  go_wp2_with fail
                  go_roundg gd
                  case measure => rw [He.out]; exact Nat.sub_lt (Nat.lt_of_lt_of_le PP_pos Hp.out) PP_pos
                  case rel =>
                    refine ⟨?_, ?_, (P1.out.below hk8 P1.out.lt).setRow_other _ _ (by omega), (P2.out.below hk8 hlt6).setRow _, below_setRow (HBB.out.trans (hk8.mono HBB.out.size)) _ _ (by omega)⟩
                    · rw [He.out, ← HM.out]; exact (Nat.mod_eq_sub_mod Hp.out).symm
                    · rw [He.out]; exact Nat.lt_of_le_of_lt (Nat.sub_le _ _) H255.out
end Go.Proofs.Ytjiagjonlcadiaa
end
section
namespace Go.Proofs.Ytjiagjonlcadiaa
open Go.RowKit Go.Lib

theorem inv1_init (n : Nat) (h : Nat → Int) (hb : ∀ i, i < 44 → 0 ≤ h i ∧ h i ≤ 1099511627776) (hs : sumf 4096 h 44 = n) (hn : n < bnd 0) : Inv1 n 0 h :=
  ⟨hb, ⟨n, hs, rfl, hn⟩, fun h => by omega, fun h => by omega⟩
theorem bnd0 : bnd 0 = 878694100496718043517683302282418331810487718418343092402491322775749527474899974671687634004666183037093927858109549828751614463963730408009475621262727315456 := by unfold bnd; rw [if_pos rfl]
theorem n22 : (4096 : Nat) ^ 22 = 29642774844752946028434172162224104410437116074403984394101141506025761187823616 := by decide +kernel
theorem sumf_dg22 (a : Nat) (ha : a < 4096 ^ 22) : sumf 4096 (dg 4096 a) 22 = a := by
  have := sumf_dg 4096 a 22
  rwa [Nat.mod_eq_of_lt ha] at this
theorem dg_le (n i : Nat) : dg 4096 n i ≤ 4095 := by have := (dg_bd 4096 n i (by decide)).2; omega
theorem dg_nn (n i : Nat) : 0 ≤ dg 4096 n i := (dg_bd 4096 n i (by decide)).1

theorem plus_inv (a b : Nat) (ha : a < 4096 ^ 22) (hb : b < 4096 ^ 22) (h : Nat → Int) (hl : ∀ i, i < 22 → h i = dg 4096 a i + dg 4096 b i) (hh : ∀ i, 22 ≤ i → h i = 0) : Inv1 (a + b) 0 h := by
  refine inv1_init _ h (fun i hi => ?_) ?_ ?_
  · by_cases h2 : i < 22
    · rw [hl i h2]
      have h1 := dg_le a i; have h3 := dg_le b i; have h4 := dg_nn a i; have h5 := dg_nn b i
      omega
    · rw [hh i (by omega)]; omega
  · rw [show (44 : Nat) = 22 + 22 from rfl, sumf_split, sumf_zero 4096 (fun j => h (j + 22)) 22 (fun i hi => hh (i + 22) (by omega)), sumf_congr 4096 h (fun j => dg 4096 a j + 1 * dg 4096 b j) 22 (fun i hi => by rw [hl i hi, Int.one_mul]), sumf_lin, sumf_dg22 a ha, sumf_dg22 b hb]
    omega
  · rw [bnd0]; rw [n22] at ha hb; omega

set_option maxHeartbeats 1000000 in
theorem rplus_any (a b : Nat) (ha : a < 4096 ^ 22) (hb : b < 4096 ^ 22) (w : World) :
    Calls Try.prog 38 #[.agg (r22 a), .agg (r22 b)] w fun e w' => e = .returned (.agg (r22 ((a + b) % PP))) ∧ Below w.heap.size w w' := by
  have HI := Lib.hid (plus_inv a b ha hb); clear ha hb
  go_enter Try.func38, Try.ntmps38
  go_wp2_with fail
  go_loopw [6] (fun i wr => ∃ (k : Nat) (h : Nat → Int), k ≤ 22 ∧ i = .int .i64 k ∧ (∀ j, j < k → h j = dg 4096 a j + dg 4096 b j) ∧ (∀ j, k ≤ j → h j = 0) ∧ Has wr w.heap.size (r22 a) 40 ∧ Has wr (w.heap.size + 1) (r22 b) 40 ∧ HasN wr (w.heap.size + 1 + 1) 22 40 ∧ Has wr (w.heap.size + 1 + 1 + 1) (row .i64 44 h) 101 ∧ Below w.heap.size w wr) (fun i _ => 22 - (intOf i).toNat)
  case atStart =>
    exact ⟨0, fun _ => 0, by omega, rfl, fun j hj => by omega, fun _ _ => rfl, ((Has.new _ _ _).alloc _ |>.alloc _).alloc _, ((Has.new1 _ _ _ _).alloc _).alloc _, (HasN.new2 _ _ _ _ _ 22 rfl).alloc _, Has.new3 _ _ _ _ _ _, below_4 _ _ _ _ _⟩
  case round =>
    obtain ⟨k, h, hk, rfl, hl, hh, m0, m1, m2, m3, hB⟩ := hrel
    have M0 := Lib.hid m0; clear m0
    have M1 := Lib.hid m1; clear m1
    have M2 := Lib.hid m2; clear m2
    have M3 := Lib.hid m3; clear m3
    have HL := Lib.hid hl; clear hl
    have HH := Lib.hid hh; clear hh
    by_cases hlt : k < 22
    · have h1 := M0.out.cell k hlt
      have h2 := M1.out.cell k hlt
      have h3 := M3.out.cell k (by omega)
      have hfz := M3.out.frozen k
      have x0 := dg_nn a k
      have x1 := dg_le a k
      have y0 := dg_nn b k
      have y1 := dg_le b k
      obtain ⟨x, hx⟩ : ∃ x, x = dg 4096 a k := ⟨_, rfl⟩
      obtain ⟨y, hy⟩ : ∃ y, y = dg 4096 b k := ⟨_, rfl⟩
      rw [← hx] at h1 x0 x1
      rw [← hy] at h2 y0 y1
      have Hx := Lib.hid hx; clear hx
      have Hy := Lib.hid hy; clear hy
      go_wp2_with fail
      go_region
      go_wp2_with fail
      go_roundw
      case measure => simp [intOf]; omega
      case rel =>
        refine ⟨k + 1, upd h k (x + y), by omega, by go_num, ?_, ?_, M0.out.other _ _ (by simp <;> omega), M1.out.other _ _ (by simp <;> omega), M2.out.other _ _ (by simp), M3.out.set _ _, (hB.setCell (by simp <;> omega) _).drew⟩
        · intro j hj
          by_cases e : j = k
          · subst e; rw [upd_same, Hx.out, Hy.out]
          · rw [upd_ne _ _ _ _ e]; exact HL.out j (by omega)
        · intro j hj; rw [upd_ne _ _ _ _ (by omega)]; exact HH.out j (by omega)
    · obtain rfl : k = 22 := by omega
      have HC := Lib.hid (HI.out h HL.out HH.out)
      go_wp2_with (first | (refine wpList_load_row rfl 101 _ rfl (w.heap.size + 1 + 1 + 1) rfl 101 (row .i64 44 h) (0, 0) _ M3.out Try.underlying101 rfl (by kernel_rfl) ?_))
      refine (least_any _ h HC.out _).mono ?_
      rintro e w1 ⟨rfl, hb1⟩
      obtain ⟨Z, hZ, m1⟩ := M2.out.below hb1 M2.out.lt
      have P1 := Lib.hid m1; clear m1
      have HZ := Lib.hid hZ; clear hZ
      have HBB := Lib.hid (below_setRow (hB.trans (hb1.mono hB.size)) (w.heap.size + 1 + 1) (r22 ((a + b) % PP)) (by omega))
      clear hb1
      go_wp2_with (refine wpList_store_row rfl 40 _ _ rfl (w.heap.size + 1 + 1) _ rfl rfl 40 Z P1.out (by rw [r22_size]; kernel_rfl) (HZ.out.trans (r22_size _).symm) (row_one _ _ _) ?_)
      exact bodyPost_ret (v := .agg (r22 ((a + b) % PP))) (results_cell_row (t := 40) (by rfl) _ _ (w.heap.size + 1 + 1) _ _ _ rfl (P1.out.setRow _) Try.underlying40 rfl (by rw [r22_size]; kernel_rfl)) rfl ⟨rfl, HBB.out⟩
end Go.Proofs.Ytjiagjonlcadiaa
end
section
namespace Go.Proofs.Ytjiagjonlcadiaa
open Go.RowKit Go.Lib

theorem mul_bd (x y : Int) (hx0 : 0 ≤ x) (hx : x ≤ 4095) (hy0 : 0 ≤ y) (hy : y ≤ 4095) : 0 ≤ x * y ∧ x * y ≤ 16769025 :=
  ⟨Int.mul_nonneg hx0 hy0, by have := Int.mul_le_mul hx hy hy0 (by decide); omega⟩

theorem times_inv (a b : Nat) (ha : a < PP) (hb : b < PP) (h : Nat → Int) (hd : ∀ j, j < 44 → 0 ≤ h j ∧ h j ≤ 484 * 16769025) (hs : sumf 4096 h 44 = sumf 4096 (dg 4096 a) 22 * b) : Inv1 (a * b) 0 h := by
  have h22 := PP_lt
  refine inv1_init _ h (fun i hi => by have := hd i hi; omega) ?_ ?_
  · rw [hs, sumf_dg22 a (by omega)]; norm_cast
  · rw [bnd0]
    have e : PP < 2 ^ 255 := by decide +kernel
    have h1 : a * b < 2 ^ 255 * 2 ^ 255 := Nat.mul_lt_mul'' (by omega) (by omega)
    have e2 : (2 : Nat) ^ 255 * 2 ^ 255 = 3351951982485649274893506249551461531869841455148098344430890360930441007518386744200468574541725856922507964546621512713438470702986642486608412251521024 := by decide +kernel
    omega

set_option maxHeartbeats 1000000 in
theorem rtimes_any (a b : Nat) (ha : a < PP) (hb : b < PP) (w : World) :
    Calls Try.prog 32 #[.agg (r22 a), .agg (r22 b)] w fun e w' => e = .returned (.agg (r22 (a * b % PP))) ∧ Below w.heap.size w w' := by
  have hb2 : (b : Int) = sumf 4096 (dg 4096 b) 22 := (sumf_dg22 b (Nat.lt_trans hb PP_lt)).symm
  have HB2 := Lib.hid hb2; clear hb2
  have HI := Lib.hid (times_inv a b ha hb); clear ha hb
  go_enter Try.func32, Try.ntmps32
  go_wp2_with fail
  go_loopw [6] (fun i wr => ∃ (k : Nat) (h : Nat → Int), k ≤ 22 ∧ i = .int .i64 k ∧ (∀ j, j < 44 → 0 ≤ h j ∧ h j ≤ 22 * (k : Int) * 16769025) ∧ sumf 4096 h 44 = sumf 4096 (dg 4096 a) k * b ∧ Has wr w.heap.size (r22 a) 40 ∧ Has wr (w.heap.size + 1) (r22 b) 40 ∧ HasN wr (w.heap.size + 1 + 1) 22 40 ∧ Has wr (w.heap.size + 1 + 1 + 1) (row .i64 44 h) 101 ∧ Below w.heap.size w wr) (fun i _ => 22 - (intOf i).toNat)
  case atStart =>
    exact ⟨0, fun _ => 0, by omega, rfl, fun j hj => by simp, by rw [sumf_zero _ _ _ (fun _ _ => rfl)]; simp [sumf], ((Has.new _ _ _).alloc _ |>.alloc _).alloc _, ((Has.new1 _ _ _ _).alloc _).alloc _, (HasN.new2 _ _ _ _ _ 22 rfl).alloc _, Has.new3 _ _ _ _ _ _, below_4 _ _ _ _ _⟩
  case round =>
    obtain ⟨i, h0, hi, rfl, hd, hs, m0, m1, m2, m3, hB⟩ := hrel
    have M0 := Lib.hid m0; clear m0
    have M1 := Lib.hid m1; clear m1
    have M2 := Lib.hid m2; clear m2
    have M3 := Lib.hid m3; clear m3
    have HD := Lib.hid hd; clear hd
    have HS := Lib.hid hs; clear hs
    by_cases hlt : i < 22
    · go_wp2_with fail
      obtain ⟨wo, rfl⟩ : ∃ wo : World, wo = wr := ⟨_, rfl⟩
      go_loopw [7] (fun s wr => ∃ (k : Nat) (h : Nat → Int), k ≤ 22 ∧ s = .int .i64 k ∧ (∀ j, j < 44 → 0 ≤ h j ∧ h j ≤ (22 * (i : Int) + k) * 16769025) ∧ sumf 4096 h 44 = sumf 4096 (dg 4096 a) i * b + dg 4096 a i * 4096 ^ i * sumf 4096 (dg 4096 b) k ∧ Has wr w.heap.size (r22 a) 40 ∧ Has wr (w.heap.size + 1) (r22 b) 40 ∧ HasN wr (w.heap.size + 1 + 1) 22 40 ∧ Has wr (w.heap.size + 1 + 1 + 1) (row .i64 44 h) 101 ∧ Below w.heap.size w wr) (fun s _ => 22 - (intOf s).toNat)
      case atStart => exact ⟨0, h0, by omega, rfl, fun j hj => by have := HD.out j hj; omega, by rw [show sumf 4096 (dg 4096 b) 0 = 0 from rfl, Int.mul_zero, Int.add_zero]; exact HS.out, M0.out, M1.out, M2.out, M3.out, hB⟩
      case round =>
        clear M0 M1 M2 M3 hB
        obtain ⟨k, h, hk, rfl, hd, hs, m0, m1, m2, m3, hB⟩ := hrel
        have M0 := Lib.hid m0; clear m0
        have M1 := Lib.hid m1; clear m1
        have M2 := Lib.hid m2; clear m2
        have M3 := Lib.hid m3; clear m3
        have HE := Lib.hid hd; clear hd
        have HT := Lib.hid hs; clear hs
        by_cases hlk : k < 22
        · have h1 := M0.out.cell i hlt
          have h2 := M1.out.cell k hlk
          have h3 := M3.out.cell (i + k) (by omega)
          have hfz := M3.out.frozen (i + k)
          have x0 := dg_nn a i
          have x1 := dg_le a i
          have y0 := dg_nn b k
          have y1 := dg_le b k
          have hz := HE.out (i + k) (by omega)
          obtain ⟨x, hx⟩ : ∃ x, x = dg 4096 a i := ⟨_, rfl⟩
          obtain ⟨y, hy⟩ : ∃ y, y = dg 4096 b k := ⟨_, rfl⟩
          obtain ⟨z, hzz⟩ : ∃ z, z = h (i + k) := ⟨_, rfl⟩
          rw [← hx] at h1 x0 x1
          rw [← hy] at h2 y0 y1
          rw [← hzz] at h3 hz
          have hxy := mul_bd x y x0 x1 y0 y1
          obtain ⟨xy0, xy1⟩ := hxy
          obtain ⟨z0, z1⟩ := hz
          have Hx := Lib.hid hx; clear hx
          have Hy := Lib.hid hy; clear hy
          have Hz := Lib.hid hzz; clear hzz
          go_wp2_with fail
          go_region
          go_wp2_with fail
          go_roundw
          case measure => simp [intOf]; omega
          case rel =>
            refine ⟨k + 1, upd h (i + k) (z + x * y), by omega, by go_num, ?_, ?_, M0.out.other _ _ (by simp <;> omega), M1.out.other _ _ (by simp <;> omega), M2.out.other _ _ (by simp <;> omega), M3.out.set _ _, (hB.setCell (by simp <;> omega) _).drew⟩
            · intro j hj
              by_cases e : j = i + k
              · subst e; rw [upd_same]; omega
              · rw [upd_ne _ _ _ _ e]; have := HE.out j hj; omega
            · rw [sumf_upd _ _ _ _ _ (by omega), HT.out, ← Hz.out, ← Hx.out]
              simp only [sumf]
              rw [← Hy.out, Int.pow_add]
              grind
        · obtain rfl : k = 22 := by omega
          go_wp2_with fail
          go_roundw
          case measure => simp [intOf]; omega
          case rel =>
            refine ⟨i + 1, h, by omega, by go_num, fun j hj => by have := HE.out j hj; omega, ?_, M0.out, M1.out, M2.out, M3.out, hB⟩
            rw [HT.out, ← HB2.out]
            simp only [sumf]
            rw [Int.add_mul]
    · obtain rfl : i = 22 := by omega
      have HC := Lib.hid (HI.out h0 (fun j hj => by have := HD.out j hj; omega) HS.out)
      go_wp2_with (first | (refine wpList_load_row rfl 101 _ rfl (w.heap.size + 1 + 1 + 1) rfl 101 (row .i64 44 h0) (0, 0) _ M3.out Try.underlying101 rfl (by kernel_rfl) ?_))
      refine (least_any _ h0 HC.out _).mono ?_
      rintro e w1 ⟨rfl, hb1⟩
      obtain ⟨Z, hZ, m1⟩ := M2.out.below hb1 M2.out.lt
      have P1 := Lib.hid m1; clear m1
      have HZ := Lib.hid hZ; clear hZ
      have HBB := Lib.hid (below_setRow (hB.trans (hb1.mono hB.size)) (w.heap.size + 1 + 1) (r22 (a * b % PP)) (by omega))
      clear hb1
      go_wp2_with (refine wpList_store_row rfl 40 _ _ rfl (w.heap.size + 1 + 1) _ rfl rfl 40 Z P1.out (by rw [r22_size]; kernel_rfl) (HZ.out.trans (r22_size _).symm) (row_one _ _ _) ?_)
      exact bodyPost_ret (v := .agg (r22 (a * b % PP))) (results_cell_row (t := 40) (by rfl) _ _ (w.heap.size + 1 + 1) _ _ _ rfl (P1.out.setRow _) Try.underlying40 rfl (by rw [r22_size]; kernel_rfl)) rfl ⟨rfl, HBB.out⟩

set_option maxRecDepth 100000 in
set_option maxHeartbeats 1000000 in
theorem rminus_any (a b : Nat) (ha : a < PP) (hb : b < PP) (w : World) :
    Calls Try.prog 40 #[.agg (r22 a), .agg (r22 b)] w fun e w' => e = .returned (.agg (r22 ((a + (PP - b)) % PP))) ∧ Below w.heap.size w w' := by
  have h22 := PP_lt
  have hpb : PP - b < 4096 ^ 22 := Nat.lt_of_le_of_lt (Nat.sub_le _ _) h22
  have ha2 := Nat.lt_trans ha h22
  obtain ⟨d, hd⟩ : ∃ d, d = PP - b := ⟨_, rfl⟩
  have hl := fun w => less_any PP b (Nat.le_of_lt hb) h22 w
  rw [← hd] at hl hpb ⊢
  have hp := fun w => rplus_any a d ha2 hpb w
  obtain ⟨r, hr⟩ : ∃ r, r = (a + d) % PP := ⟨_, rfl⟩
  rw [← hr] at hp ⊢
  have HL := Lib.hid hl; clear hl
  have HP := Lib.hid hp; clear hp
  clear hr hd ha hb h22 hpb ha2
  go_enter Try.func40, Try.ntmps40
  go_wp2_with fail
  refine wp_region_noPanic ?_
  refine wp_region_below 5 (by kernel_rfl) ?_
  intro W0 hW0
  have M0 := Lib.hid (show Has W0 w.heap.size (r22 a) 40 by rw [hW0]; exact ((Has.new _ _ _).alloc _).alloc _)
  have M1 := Lib.hid (show Has W0 (w.heap.size + 1) (r22 b) 40 by rw [hW0]; exact (Has.new1 _ _ _ _).alloc _)
  have M2 := Lib.hid (show HasN W0 (w.heap.size + 1 + 1) 22 40 by rw [hW0]; exact HasN.new2 _ _ _ _ _ 22 rfl)
  have HB := Lib.hid (show Below w.heap.size w W0 by rw [hW0]; exact below_3 _ _ _ _)
  clear hW0
  refine wpBut_take (i := 0) rfl (by kernel_rfl) (by kernel_rfl) (by kernel_rfl) (by kernel_rfl) (by kernel_rfl) (fun _ _ _ h => h) (yieldsIf_load_row (by rfl) 40 _ rfl (w.heap.size) rfl 40 (r22 a) (fun _ h => M0.out.below h M0.out.lt) Try.underlying40 rfl (by rw [r22_size]; kernel_rfl)) ((Below.refl _ _).drew) ?_
  (try simp only [Act.put]); (try simp only [List.setIfInBounds_toArray])
  refine wpBut_take (i := 2) rfl (by kernel_rfl) (by kernel_rfl) (by kernel_rfl) (by kernel_rfl) (by kernel_rfl) (fun _ _ _ h => h) (yieldsIf_load_row (by rfl) 40 _ rfl (w.heap.size + 1) rfl 40 (r22 b) (fun _ h => M1.out.below h M1.out.lt) Try.underlying40 rfl (by rw [r22_size]; kernel_rfl)) ((Below.refl _ _).drew) ?_
  (try simp only [Act.put]); (try simp only [List.setIfInBounds_toArray])
  refine wpBut_one (i := 1) (by kernel_rfl) rfl (fun K hK => ?_)
  go_simp
  go_at_call 82
  refine (prime_any _).mono ?_
  rintro e wW01 ⟨rfl, hb⟩
  have hkW01 := held_next (Below.refl _ _).drew hb
  refine hK.out _ _ (fun _ => hkW01) ?_
  clear hK K hb
  refine wpBut_one (i := 3) (by kernel_rfl) rfl (fun K hK => ?_)
  go_simp
  go_at_call 81
  refine (HL.out _).mono ?_
  rintro e wW02 ⟨rfl, hb⟩
  have hkW02 := held_next hkW01 hb
  refine hK.out _ _ (fun _ => hkW02) ?_
  clear hK K hb
  refine wpBut_one (i := 4) (by kernel_rfl) rfl (fun K hK => ?_)
  go_simp
  go_at_call 38
  refine (HP.out _).mono ?_
  rintro e wW03 ⟨rfl, hb⟩
  have hkW03 := held_next hkW02 hb
  refine hK.out _ _ (fun _ => hkW03) ?_
  clear hK K hb
  obtain ⟨Z, hZ, mZ⟩ := M2.out.below hkW03 M2.out.lt
  have MZ := Lib.hid mZ; clear mZ
  have HZ := Lib.hid hZ; clear hZ
  refine wpBut_one (i := 5) (by kernel_rfl) rfl (fun K hK => ?_)
  rw [if_pos (by rfl)]
  refine wp_store_row 40 _ _ rfl (w.heap.size + 1 + 1) _ rfl rfl 40 Z MZ.out (by rw [r22_size]; kernel_rfl) (HZ.out.trans (r22_size _).symm) (row_one _ _ _) ?_
  refine hK.out _ _ (fun h => (h rfl).elim) ?_
  clear hK K
  (try simp only [Act.put]); (try simp only [List.setIfInBounds_toArray])
  refine wpBut_done (by kernel_rfl) (NoPanic.normal ?_)
  go_wp2_with fail
  exact bodyPost_ret (v := .agg (r22 r)) (results_cell_row (t := 40) (by rfl) _ _ (w.heap.size + 1 + 1) _ _ _ rfl (MZ.out.setRow _) Try.underlying40 rfl (by rw [r22_size]; kernel_rfl)) rfl ⟨rfl, below_setRow (HB.out.trans (hkW03.mono HB.out.size)) _ _ (by omega)⟩
end Go.Proofs.Ytjiagjonlcadiaa
end
section
namespace Go.Proofs.Ytjiagjonlcadiaa
open Go.RowKit Go.Lib

theorem half_fig (n i : Nat) : dg 4096 (n / 2) i = (dg 4096 n i + dg 4096 n (i + 1) % 2 * 4096) / 2 := by
  unfold dg
  have e1 : n / 2 / 4096 ^ i = n / 4096 ^ i / 2 := by rw [Nat.div_div_eq_div_mul, Nat.div_div_eq_div_mul, Nat.mul_comm]
  have e2 : n / 4096 ^ (i + 1) = n / 4096 ^ i / 4096 := by rw [Nat.pow_succ, Nat.div_div_eq_div_mul]
  rw [e1, e2]
  generalize n / 4096 ^ i = q
  omega
theorem half_top (n : Nat) (hn : n < 4096 ^ 22) : dg 4096 n 22 = 0 := by
  unfold dg
  rw [Nat.div_eq_of_lt hn]; rfl
theorem half_last (n : Nat) (hn : n < 4096 ^ 22) : dg 4096 (n / 2) 21 = dg 4096 n 21 / 2 := by
  rw [half_fig, half_top n hn]; omega

set_option maxRecDepth 100000 in
set_option maxHeartbeats 1000000 in
theorem half_any (n : Nat) (hn : n < 4096 ^ 22) (w : World) :
    Calls Try.prog 86 #[.agg (r22 n)] w fun e w' => e = .returned (.agg (r22 (n / 2))) ∧ Below w.heap.size w w' := by
  have HE := Lib.hid (half_fig n)
  have HL := Lib.hid (half_last n hn); clear hn
  obtain ⟨d, hd⟩ : ∃ d, d = n / 2 := ⟨_, rfl⟩
  rw [← hd] at HE HL ⊢
  clear hd
  go_enter Try.func86, Try.ntmps86
  go_wp2_with fail
  go_loopw [3] (fun i wr => ∃ (k : Nat) (h : Nat → Int), k ≤ 22 ∧ i = .int .i64 k ∧ (∀ j, j < k → h j = dg 4096 d j) ∧ (∀ j, k ≤ j → h j = dg 4096 n j) ∧ Has wr w.heap.size (row .i64 22 h) 40 ∧ HasN wr (w.heap.size + 1) 22 40 ∧ Below w.heap.size w wr) (fun i _ => 22 - (intOf i).toNat)
  case atStart => exact ⟨0, dg 4096 n, by omega, rfl, fun j hj => by omega, fun _ _ => rfl, (Has.new _ _ _).alloc _, HasN.new1 _ _ _ _ 22 rfl, below_2 _ _ _⟩
  case round =>
    obtain ⟨k, h, hk, rfl, hl, hh, m0, m1, hB⟩ := hrel
    have M0 := Lib.hid m0; clear m0
    have M1 := Lib.hid m1; clear m1
    have Hl := Lib.hid hl; clear hl
    have Hh := Lib.hid hh; clear hh
    by_cases hlt : k < 22
    · have h1 := M0.out.cell k hlt
      have hfz := M0.out.frozen k
      have x0 := dg_nn n k
      have x1 := dg_le n k
      have y0 := dg_nn n (k + 1)
      have y1 := dg_le n (k + 1)
      rw [Hh.out k (Nat.le_refl _)] at h1
      obtain ⟨x, hx⟩ : ∃ x, x = dg 4096 n k := ⟨_, rfl⟩
      obtain ⟨y, hy⟩ : ∃ y, y = dg 4096 n (k + 1) := ⟨_, rfl⟩
      rw [← hx] at h1 x0 x1
      rw [← hy] at y0 y1
      by_cases hl21 : k < 21
      · have h2 := M0.out.cell (k + 1) (by omega)
        rw [Hh.out (k + 1) (by omega), ← hy] at h2
        have hres : dg 4096 d k = (x + y % 2 * 4096) / 2 := by rw [hx, hy]; exact HE.out k
        have HR := Lib.hid hres; clear hres
        have Hx := Lib.hid hx; clear hx
        have Hy := Lib.hid hy; clear hy
        go_wp2_with fail
        go_roundw
        case measure => simp [intOf]; omega
        case rel =>
          refine ⟨k + 1, upd h k ((x + y % 2 * 4096) / 2), by omega, by go_num, ?_, ?_, M0.out.set _ _, M1.out.other _ _ (by simp <;> omega), hB.setCell (by simp <;> omega) _⟩
          · intro j hj
            by_cases e : j = k
            · subst e; rw [upd_same, HR.out]
            · rw [upd_ne _ _ _ _ e]; exact Hl.out j (by omega)
          · intro j hj; rw [upd_ne _ _ _ _ (by omega)]; exact Hh.out j (by omega)
      · obtain rfl : k = 21 := by omega
        have hres : dg 4096 d 21 = x / 2 := by rw [hx]; exact HL.out
        have HR := Lib.hid hres; clear hres
        have Hx := Lib.hid hx; clear hx
        have Hy := Lib.hid hy; clear hy
        go_wp2_with fail
        go_roundw
        case measure => simp [intOf]
        case rel =>
          refine ⟨22, upd h 21 (x / 2), by omega, by go_num, ?_, ?_, M0.out.set _ _, M1.out.other _ _ (by simp <;> omega), hB.setCell (by simp <;> omega) _⟩
          · intro j hj
            by_cases e : j = 21
            · subst e; rw [upd_same, HR.out]
            · rw [upd_ne _ _ _ _ e]; exact Hl.out j (by omega)
          · intro j hj; rw [upd_ne _ _ _ _ (by omega)]; exact Hh.out j (by omega)
    · obtain rfl : k = 22 := by omega
      have m0 := M0.out
      rw [row_ext .i64 22 h (dg 4096 d) (fun i hi => Hl.out i hi)] at m0
      have M2 := Lib.hid (show Has wr w.heap.size (r22 d) 40 from m0); clear m0
      obtain ⟨Z, hZ, mz⟩ := M1.out
      have MZ := Lib.hid mz; clear mz
      have HZ := Lib.hid hZ; clear hZ
      go_wp2_with (first | (refine wpList_load_row rfl 40 _ rfl (w.heap.size) rfl 40 (r22 d) (0, 0) _ M2.out Try.underlying40 rfl (by rw [r22_size]; kernel_rfl) ?_) | (refine wpList_store_row rfl 40 _ _ rfl (w.heap.size + 1) _ rfl rfl 40 Z MZ.out (by rw [r22_size]; kernel_rfl) (HZ.out.trans (r22_size _).symm) (row_one _ _ _) ?_))
      exact bodyPost_ret (v := .agg (r22 d)) (results_cell_row (t := 40) (by rfl) _ _ (w.heap.size + 1) _ _ _ rfl (MZ.out.setRow _) Try.underlying40 rfl (by rw [r22_size]; kernel_rfl)) rfl ⟨rfl, below_setRow hB _ _ (by omega)⟩
end Go.Proofs.Ytjiagjonlcadiaa
end
section
namespace Go.Proofs.Ytjiagjonlcadiaa
open Go.RowKit Go.Lib
/-- a key's bytes -/
def k32 (n : Nat) : Array Value := row .u8 32 (dg 256 n)
theorem k32_size (n : Nat) : (k32 n).size = 32 := row_size _ _ _

theorem bit8 (n k : Nat) : (n / 256 ^ (k / 8) % 256) / 2 ^ (k % 8) % 2 = n / 2 ^ k % 2 := by
  have e : 2 ^ k = 256 ^ (k / 8) * 2 ^ (k % 8) := by
    rw [show (256 : Nat) = 2 ^ 8 from rfl, ← Nat.pow_mul, ← Nat.pow_add, Nat.div_add_mod]
  rw [e, ← Nat.div_div_eq_div_mul]
  generalize n / 256 ^ (k / 8) = q
  have hr : k % 8 < 8 := Nat.mod_lt _ (by decide)
  generalize k % 8 = r at *
  rcases (show r = 0 ∨ r = 1 ∨ r = 2 ∨ r = 3 ∨ r = 4 ∨ r = 5 ∨ r = 6 ∨ r = 7 by omega) with rfl | rfl | rfl | rfl | rfl | rfl | rfl | rfl <;> simp <;> omega
theorem bit12 (n k : Nat) : (n / 4096 ^ (k / 12) % 4096) / 2 ^ (k % 12) % 2 = n / 2 ^ k % 2 := by
  have e : 2 ^ k = 4096 ^ (k / 12) * 2 ^ (k % 12) := by
    rw [show (4096 : Nat) = 2 ^ 12 from rfl, ← Nat.pow_mul, ← Nat.pow_add, Nat.div_add_mod]
  rw [e, ← Nat.div_div_eq_div_mul]
  generalize n / 4096 ^ (k / 12) = q
  have hr : k % 12 < 12 := Nat.mod_lt _ (by decide)
  generalize k % 12 = r at *
  rcases (show r = 0 ∨ r = 1 ∨ r = 2 ∨ r = 3 ∨ r = 4 ∨ r = 5 ∨ r = 6 ∨ r = 7 ∨ r = 8 ∨ r = 9 ∨ r = 10 ∨ r = 11 by omega) with rfl | rfl | rfl | rfl | rfl | rfl | rfl | rfl | rfl | rfl | rfl | rfl <;> simp <;> omega
theorem pow12 (k : Nat) : (2 : Int) ^ (k % 12) * 4096 ^ (k / 12) = 2 ^ k := by
  rw [show (4096 : Int) = 2 ^ 12 from rfl, ← Int.pow_mul, ← Int.pow_add, Nat.mod_add_div]
theorem mod_succ_pow (n k : Nat) : n % 2 ^ (k + 1) = n % 2 ^ k + n / 2 ^ k % 2 * 2 ^ k := by
  rw [Nat.pow_succ, Nat.mod_mul, Nat.mul_comm]
/-- a figure alone is not more than all -/
theorem fig_le (B : Int) (hB : 0 < B) (f : Nat → Int) (n i : Nat) (hi : i < n) (h : ∀ j, j < n → 0 ≤ f j) : f i * B ^ i ≤ sumf B f n := by
  have h1 := sumf_upd B f n i 0 hi
  have h2 := sumf_nonneg B hB (upd f i 0) n (fun j hj => by
    by_cases e : j = i
    · subst e; rw [upd_same]; omega
    · rw [upd_ne _ _ _ _ e]; exact h j hj)
  rw [h1, Int.zero_sub, Int.neg_mul] at h2
  omega
theorem room12 (h : Nat → Int) (n k : Nat) (hk : k < 264) (hd : ∀ j, j < 44 → 0 ≤ h j ∧ h j < 4096) (hs : sumf 4096 h 44 = ((n % 2 ^ k : Nat) : Int)) : h (k / 12) < 2 ^ (k % 12) := by
  have h1 := fig_le 4096 (by decide) h 44 (k / 12) (by omega) (fun j hj => (hd j hj).1)
  rw [hs] at h1
  have h2 : ((n % 2 ^ k : Nat) : Int) < 2 ^ k := by
    have : n % 2 ^ k < 2 ^ k := Nat.mod_lt _ (Nat.pow_pos (by decide))
    have e : ((2 ^ k : Nat) : Int) = (2 : Int) ^ k := by rw [Int.natCast_pow]; rfl
    omega
  rw [← pow12 k] at h2
  exact Int.lt_of_mul_lt_mul_right (Int.lt_of_le_of_lt h1 h2) (Int.le_of_lt (Int.pow_pos (by decide)))
theorem pow12_le (k : Nat) : (2 : Int) ^ (k % 12) ≤ 2048 := by
  have hr : k % 12 < 12 := Nat.mod_lt _ (by decide)
  generalize k % 12 = r at *
  rcases (show r = 0 ∨ r = 1 ∨ r = 2 ∨ r = 3 ∨ r = 4 ∨ r = 5 ∨ r = 6 ∨ r = 7 ∨ r = 8 ∨ r = 9 ∨ r = 10 ∨ r = 11 by omega) with rfl | rfl | rfl | rfl | rfl | rfl | rfl | rfl | rfl | rfl | rfl | rfl <;> decide
theorem div_pow_bd (x : Int) (k : Nat) (h0 : 0 ≤ x) (h1 : x < 256) : 0 ≤ x / 2 ^ k ∧ x / 2 ^ k < 256 := by
  have hp : (0 : Int) < 2 ^ k := Int.pow_pos (by decide)
  refine ⟨Int.ediv_nonneg h0 (Int.le_of_lt hp), ?_⟩
  have := Int.ediv_le_self (2 ^ k) h0
  omega
theorem of_inv (n : Nat) (h : Nat → Int) (hd : ∀ j, j < 44 → 0 ≤ h j ∧ h j < 4096) (hs : sumf 4096 h 44 = ((n % 2 ^ 255 : Nat) : Int)) : Inv1 (n % 2 ^ 255) 0 h := by
  refine inv1_init _ h (fun i hi => by have := hd i hi; omega) hs ?_
  rw [bnd0]
  have : n % 2 ^ 255 < 2 ^ 255 := Nat.mod_lt _ (Nat.pow_pos (by decide))
  have e : (2 : Nat) ^ 255 = 57896044618658097711785492504343953926634992332820282019728792003956564819968 := by decide +kernel
  omega
theorem dbl_le (b v : Int) (j m : Nat) (hb0 : 0 ≤ b) (hb : b ≤ 1) (hj : j < m) (hm : (2 : Int) ^ m ≤ 2048) (hv : v = b * 2 ^ j) : 0 ≤ v ∧ v ≤ 1024 := by
  have hp : (0 : Int) < 2 ^ j := Int.pow_pos (by decide)
  have h2 : (2 : Int) ^ (j + 1) ≤ 2 ^ m := by
    obtain ⟨d, rfl⟩ : ∃ d, m = j + 1 + d := ⟨m - (j + 1), by omega⟩
    rw [Int.pow_add 2 (j + 1) d]
    have hd : (1 : Int) ≤ 2 ^ d := by have : (0 : Int) < 2 ^ d := Int.pow_pos (by decide); omega
    have h3 : (2 : Int) ^ (j + 1) * 1 ≤ 2 ^ (j + 1) * 2 ^ d := Int.mul_le_mul_of_nonneg_left hd (Int.le_of_lt (Int.pow_pos (by decide)))
    omega
  rw [Int.pow_succ] at h2
  rcases (show b = 0 ∨ b = 1 by omega) with rfl | rfl
  · rw [hv]; simp
  · rw [hv]; omega
theorem ofbit (n k : Nat) (x : Int) (hx : x = dg 256 n (k / 8)) : x / 2 ^ (k % 8) % 2 = ((n / 2 ^ k % 2 : Nat) : Int) := by
  rw [hx, dg, ← bit8 n k]
  norm_cast

set_option maxRecDepth 100000 in
set_option maxHeartbeats 2000000 in
theorem rof_any (n : Nat) (w : World) :
    Calls Try.prog 33 #[.agg (k32 n)] w fun e w' => e = .returned (.agg (r22 (n % 2 ^ 255 % PP))) ∧ Below w.heap.size w w' := by
  have HI := Lib.hid (of_inv n)
  obtain ⟨m, hm⟩ : ∃ m, m = n % 2 ^ 255 := ⟨_, rfl⟩
  obtain ⟨r, hr⟩ : ∃ r, r = m % PP := ⟨_, rfl⟩
  have hle := fun h hi w => least_any m h hi w
  rw [← hm] at HI ⊢
  rw [← hr] at hle ⊢
  have Hle := Lib.hid hle; clear hle
  have Hm := Lib.hid hm; clear hm
  clear hr
  go_enter Try.func33, Try.ntmps33
  go_wp2_with fail
  go_loopw [4] (fun i wr => ∃ (k : Nat) (h : Nat → Int), k ≤ 255 ∧ i = .int .i64 k ∧ (∀ j, j < 44 → 0 ≤ h j ∧ h j < 4096) ∧ sumf 4096 h 44 = ((n % 2 ^ k : Nat) : Int) ∧ Has wr w.heap.size (k32 n) 24 ∧ HasN wr (w.heap.size + 1) 22 40 ∧ Has wr (w.heap.size + 1 + 1) (row .i64 44 h) 101 ∧ Below w.heap.size w wr) (fun i _ => 255 - (intOf i).toNat)
  case atStart => exact ⟨0, fun _ => 0, by omega, rfl, fun j hj => by simp, by rw [sumf_zero _ _ _ (fun _ _ => rfl)]; simp [Nat.mod_one], ((Has.new _ _ _).alloc _).alloc _, (HasN.new1 _ _ _ _ 22 rfl).alloc _, Has.new2 _ _ _ _ _, below_3 _ _ _ _⟩
  case round =>
    obtain ⟨k, h, hk, rfl, hd, hs, m0, m1, m2, hB⟩ := hrel
    have M0 := Lib.hid m0; clear m0
    have M1 := Lib.hid m1; clear m1
    have M2 := Lib.hid m2; clear m2
    have Hd := Lib.hid hd; clear hd
    have Hs := Lib.hid hs; clear hs
    by_cases hlt : k < 255
    · have h1 := M0.out.cell (k / 8) (by omega)
      have x0 := (dg_bd 256 n (k / 8) (by decide)).1
      have x1 := (dg_bd 256 n (k / 8) (by decide)).2
      obtain ⟨x, hx⟩ : ∃ x, x = dg 256 n (k / 8) := ⟨_, rfl⟩
      rw [← hx] at h1 x0 x1
      have hbit := ofbit n k x hx
      have k0 : (0 : Int) ≤ (k : Int) % 8 := by omega
      have k1 : (k : Int) % 8 < 8 := by omega
      have k2 : (0 : Int) ≤ (k : Int) / 8 := by omega
      have k3 : (k : Int) / 8 < 32 := by omega
      obtain ⟨s0, s1⟩ := div_pow_bd x (k % 8) x0 x1
      have Hx := Lib.hid hx; clear hx
      have Hbit := Lib.hid hbit; clear hbit
      go_wp2_with fail
      obtain ⟨b, hb⟩ : ∃ b, b = x / 2 ^ (k % 8) % 2 := ⟨_, rfl⟩
      rw [← hb]
      have b0 : 0 ≤ b := by omega
      have b1 : b ≤ 1 := by omega
      have hbn : b = ((n / 2 ^ k % 2 : Nat) : Int) := hb.trans Hbit.out
      have hp12 := pow12_le k
      have Hb := Lib.hid hb; clear hb
      have Hbn := Lib.hid hbn; clear hbn
      have Hp12 := Lib.hid hp12; clear hp12
      clear h1 Hbit s0 s1
      obtain ⟨wo, rfl⟩ : ∃ wo : World, wo = wr := ⟨_, rfl⟩
      go_loop [5, 6] (fun t i => ∃ (j : Nat) (v : Int), j ≤ k % 12 ∧ i = .int .i64 j ∧ t = .int .i64 v ∧ v = b * 2 ^ j) (fun _ i => k % 12 - (intOf i).toNat)
      case atStart => exact ⟨0, b, by omega, rfl, rfl, by simp⟩
      case round =>
        obtain ⟨j, v, hj, rfl, rfl, hv⟩ := hrel
        by_cases hjl : j < k % 12
        · have hvb := dbl_le b v j (k % 12) b0 b1 hjl Hp12.out hv
          obtain ⟨v0, v1⟩ := hvb
          have hj2 : (j : Int) < (k : Int) % 12 := by omega
          have Hv := Lib.hid hv; clear hv
          go_wp2_with fail
          go_round
          case measure => simp [intOf]; omega
          case rel => exact ⟨j + 1, 2 * v, by omega, by go_num, rfl, by rw [Hv.out, Int.pow_succ, Int.mul_comm 2, Int.mul_assoc]⟩
        · obtain rfl : j = k % 12 := by omega
          have hj2 : (k : Int) % 12 ≤ (((k % 12 : Nat) : Int)) := by omega
          have h2 := M2.out.cell (k / 12) (by omega)
          have hfz := M2.out.frozen (k / 12)
          have hy := room12 h n k (by omega) Hd.out Hs.out
          have hy0 := (Hd.out (k / 12) (by omega)).1
          obtain ⟨y, hyy⟩ : ∃ y, y = h (k / 12) := ⟨_, rfl⟩
          rw [← hyy] at h2 hy hy0
          have hvle : v ≤ 2 ^ (k % 12) := by
            have hpp : (0 : Int) < 2 ^ (k % 12) := Int.pow_pos (by decide)
            rcases (show b = 0 ∨ b = 1 by omega) with e | e
            · rw [hv, e]; omega
            · rw [hv, e]; omega
          have hv0 : 0 ≤ v := by
            have hpp : (0 : Int) < 2 ^ (k % 12) := Int.pow_pos (by decide)
            rcases (show b = 0 ∨ b = 1 by omega) with e | e
            · rw [hv, e]; omega
            · rw [hv, e]; omega
          have hyv : y + v < 4096 := by have := Hp12.out; omega
          clear hy hvle
          have k4 : (0 : Int) ≤ (k : Int) / 12 := by omega
          have k5 : (k : Int) / 12 < 44 := by omega
          have Hv := Lib.hid hv; clear hv
          have Hyy := Lib.hid hyy; clear hyy
          go_wp2_with fail
          go_roundw
          case measure => simp [intOf]; omega
          case rel =>
            refine ⟨k + 1, upd h (k / 12) (y + v), by omega, by go_num, ?_, ?_, M0.out.other _ _ (by simp <;> omega), M1.out.other _ _ (by simp <;> omega), M2.out.set _ _, hB.setCell (by simp <;> omega) _⟩
            · intro j hj
              by_cases e : j = k / 12
              · subst e; rw [upd_same]; omega
              · rw [upd_ne _ _ _ _ e]; exact Hd.out j hj
            · rw [sumf_upd _ _ _ _ _ (by omega), Hs.out, mod_succ_pow, ← Hyy.out, Hv.out, Hbn.out]
              have e := pow12 k
              have e2 : ((n % 2 ^ k + n / 2 ^ k % 2 * 2 ^ k : Nat) : Int) = ((n % 2 ^ k : Nat) : Int) + ((n / 2 ^ k % 2 : Nat) : Int) * 2 ^ k := by
                rw [Int.natCast_add, Int.natCast_mul, Int.natCast_pow]; rfl
              rw [e2, ← e]
              generalize ((n / 2 ^ k % 2 : Nat) : Int) = B
              generalize (2 : Int) ^ (k % 12) = U
              generalize (4096 : Int) ^ (k / 12) = V
              grind
    · obtain rfl : k = 255 := by omega
      have HC := Lib.hid (HI.out h Hd.out (by rw [Hs.out, ← Hm.out]))
      go_wp2_with (first | (refine wpList_load_row rfl 101 _ rfl (w.heap.size + 1 + 1) rfl 101 (row .i64 44 h) (0, 0) _ M2.out Try.underlying101 rfl (by rw [row_size]; kernel_rfl) ?_))
      refine (Hle.out h HC.out _).mono ?_
      rintro e w1 ⟨rfl, hb1⟩
      obtain ⟨Z, hZ, mz⟩ := M1.out.below hb1 M1.out.lt
      have HBB := Lib.hid (below_setRow (hB.trans (hb1.mono hB.size)) (w.heap.size + 1) (r22 r) (by omega))
      clear hb1
      have Mz := Lib.hid mz; clear mz
      have HZ := Lib.hid hZ; clear hZ
      go_wp2_with (refine wpList_store_row rfl 40 _ _ rfl (w.heap.size + 1) _ rfl rfl 40 Z Mz.out (by rw [r22_size]; kernel_rfl) (HZ.out.trans (r22_size _).symm) (row_one _ _ _) ?_)
      exact bodyPost_ret (v := .agg (r22 r)) (results_cell_row (t := 40) (by rfl) _ _ (w.heap.size + 1) _ _ _ rfl (Mz.out.setRow _) Try.underlying40 rfl (by rw [r22_size]; kernel_rfl)) rfl ⟨rfl, HBB.out⟩
end Go.Proofs.Ytjiagjonlcadiaa
end
section
namespace Go.Proofs.Ytjiagjonlcadiaa
open Go.RowKit Go.Lib

theorem pow8 (k : Nat) : (2 : Int) ^ (k % 8) * 256 ^ (k / 8) = 2 ^ k := by
  rw [show (256 : Int) = 2 ^ 8 from rfl, ← Int.pow_mul, ← Int.pow_add, Nat.mod_add_div]
theorem pow8_le (k : Nat) : (2 : Int) ^ (k % 8) ≤ 128 ∧ (0 : Int) < 2 ^ (k % 8) := by
  refine ⟨?_, Int.pow_pos (by decide)⟩
  have hr : k % 8 < 8 := Nat.mod_lt _ (by decide)
  generalize k % 8 = r at *
  rcases (show r = 0 ∨ r = 1 ∨ r = 2 ∨ r = 3 ∨ r = 4 ∨ r = 5 ∨ r = 6 ∨ r = 7 by omega) with rfl | rfl | rfl | rfl | rfl | rfl | rfl | rfl <;> decide
theorem room8 (h : Nat → Int) (n k : Nat) (hk : k < 256) (hd : ∀ j, j < 32 → 0 ≤ h j ∧ h j < 256) (hs : sumf 256 h 32 = ((n % 2 ^ k : Nat) : Int)) : h (k / 8) < 2 ^ (k % 8) := by
  have h1 := fig_le 256 (by decide) h 32 (k / 8) (by omega) (fun j hj => (hd j hj).1)
  rw [hs] at h1
  have h2 : ((n % 2 ^ k : Nat) : Int) < 2 ^ k := by
    have : n % 2 ^ k < 2 ^ k := Nat.mod_lt _ (Nat.pow_pos (by decide))
    have e : ((2 ^ k : Nat) : Int) = (2 : Int) ^ k := by rw [Int.natCast_pow]; rfl
    omega
  rw [← pow8 k] at h2
  exact Int.lt_of_mul_lt_mul_right (Int.lt_of_le_of_lt h1 h2) (Int.le_of_lt (Int.pow_pos (by decide)))
theorem div_pow_bd12 (x : Int) (k : Nat) (h0 : 0 ≤ x) (h1 : x ≤ 4095) : 0 ≤ x / 2 ^ k ∧ x / 2 ^ k ≤ 4095 := by
  have hp : (0 : Int) < 2 ^ k := Int.pow_pos (by decide)
  refine ⟨Int.ediv_nonneg h0 (Int.le_of_lt hp), ?_⟩
  have := Int.ediv_le_self (2 ^ k) h0
  omega
theorem bitr (n k : Nat) (x : Int) (hx : x = dg 4096 n (k / 12)) : x / 2 ^ (k % 12) % 2 = ((n / 2 ^ k % 2 : Nat) : Int) := by
  rw [hx, dg, ← bit12 n k]
  norm_cast
theorem key_end (n : Nat) (hn : n < 2 ^ 256) (h : Nat → Int) (hd : ∀ j, j < 32 → 0 ≤ h j ∧ h j < 256) (hs : sumf 256 h 32 = ((n % 2 ^ 256 : Nat) : Int)) : row .u8 32 h = k32 n := by
  rw [Nat.mod_eq_of_lt hn] at hs
  exact row_ext _ _ _ _ (sumf_uniq 256 h n 32 hd hs)

set_option maxRecDepth 100000 in
set_option maxHeartbeats 2000000 in
theorem rkey_any (n : Nat) (hn : n < 2 ^ 256) (w : World) :
    Calls Try.prog 74 #[.agg (r22 n)] w fun e w' => e = .returned (.agg (k32 n)) ∧ Below w.heap.size w w' := by
  have HE := Lib.hid (key_end n hn); clear hn
  go_enter Try.func74, Try.ntmps74
  go_wp2_with fail
  go_loopw [4] (fun i wr => ∃ (k : Nat) (h : Nat → Int), k ≤ 256 ∧ i = .int .i64 k ∧ (∀ j, j < 32 → 0 ≤ h j ∧ h j < 256) ∧ sumf 256 h 32 = ((n % 2 ^ k : Nat) : Int) ∧ Has wr w.heap.size (r22 n) 40 ∧ HasN wr (w.heap.size + 1) 32 24 ∧ Has wr (w.heap.size + 1 + 1) (row .u8 32 h) 24 ∧ Below w.heap.size w wr) (fun i _ => 256 - (intOf i).toNat)
  case atStart => exact ⟨0, fun _ => 0, by omega, rfl, fun j hj => by simp, by rw [sumf_zero _ _ _ (fun _ _ => rfl)]; simp [Nat.mod_one], ((Has.new _ _ _).alloc _).alloc _, (HasN.new1 _ _ _ _ 32 rfl).alloc _, Has.new2 _ _ _ _ _, below_3 _ _ _ _⟩
  case round =>
    obtain ⟨k, h, hk, rfl, hd, hs, m0, m1, m2, hB⟩ := hrel
    have M0 := Lib.hid m0; clear m0
    have M1 := Lib.hid m1; clear m1
    have M2 := Lib.hid m2; clear m2
    have Hd := Lib.hid hd; clear hd
    have Hs := Lib.hid hs; clear hs
    by_cases hlt : k < 256
    · have h1 := M0.out.cell (k / 12) (by omega)
      have x0 := dg_nn n (k / 12)
      have x1 := dg_le n (k / 12)
      obtain ⟨x, hx⟩ : ∃ x, x = dg 4096 n (k / 12) := ⟨_, rfl⟩
      rw [← hx] at h1 x0 x1
      have hbit := bitr n k x hx
      have k0 : (0 : Int) ≤ (k : Int) % 12 := by omega
      have k1 : (k : Int) % 12 < 12 := by omega
      have k2 : (0 : Int) ≤ (k : Int) / 12 := by omega
      have k3 : (k : Int) / 12 < 22 := by omega
      have k4 : (0 : Int) ≤ (k : Int) % 8 := by omega
      have k5 : (k : Int) % 8 < 8 := by omega
      have k6 : (0 : Int) ≤ (k : Int) / 8 := by omega
      have k7 : (k : Int) / 8 < 32 := by omega
      obtain ⟨s0, s1⟩ := div_pow_bd12 x (k % 12) x0 x1
      have h2 := M2.out.cell (k / 8) (by omega)
      have hfz := M2.out.frozen (k / 8)
      have hy := room8 h n k hlt Hd.out Hs.out
      have hy0 := (Hd.out (k / 8) (by omega)).1
      obtain ⟨y, hyy⟩ : ∃ y, y = h (k / 8) := ⟨_, rfl⟩
      rw [← hyy] at h2 hy hy0
      have hp8 := (pow8_le k).1
      have hp80 := (pow8_le k).2
      have Hx := Lib.hid hx; clear hx
      have Hbit := Lib.hid hbit; clear hbit
      have Hyy := Lib.hid hyy; clear hyy
      by_cases hb1 : x / 2 ^ (k % 12) % 2 = 1
      · have ht : (x / 2 ^ (k % 12) % 2 == 1) = true := by simp [hb1]
        have Hb1 := Lib.hid hb1; clear hb1
        go_wp2_with fail
        go_roundw
        case measure => simp [intOf]; omega
        case rel =>
          refine ⟨k + 1, upd h (k / 8) (y + 2 ^ (k % 8)), by omega, by go_num, ?_, ?_, M0.out.other _ _ (by simp <;> omega), M1.out.other _ _ (by simp <;> omega), M2.out.set _ _, hB.setCell (by simp <;> omega) _⟩
          · intro j hj
            by_cases e : j = k / 8
            · subst e; rw [upd_same]; omega
            · rw [upd_ne _ _ _ _ e]; exact Hd.out j hj
          · have hb2 : ((n / 2 ^ k % 2 : Nat) : Int) = 1 := Hbit.out.symm.trans Hb1.out
            rw [sumf_upd _ _ _ _ _ (by omega), Hs.out, mod_succ_pow, ← Hyy.out]
            have e := pow8 k
            have e2 : ((n % 2 ^ k + n / 2 ^ k % 2 * 2 ^ k : Nat) : Int) = ((n % 2 ^ k : Nat) : Int) + ((n / 2 ^ k % 2 : Nat) : Int) * 2 ^ k := by
              rw [Int.natCast_add, Int.natCast_mul, Int.natCast_pow]; rfl
            rw [e2, hb2, ← e]
            generalize (2 : Int) ^ (k % 8) = U
            generalize (256 : Int) ^ (k / 8) = V
            grind
      · have ht : (x / 2 ^ (k % 12) % 2 == 1) = false := by simp [hb1]
        have hb0 : x / 2 ^ (k % 12) % 2 = 0 := by omega
        clear hb1
        have Hb0 := Lib.hid hb0; clear hb0
        go_wp2_with fail
        go_roundw
        case measure => simp [intOf]; omega
        case rel =>
          refine ⟨k + 1, h, by omega, by go_num, Hd.out, ?_, M0.out, M1.out, M2.out, hB⟩
          have hb2 : n / 2 ^ k % 2 = 0 := by have := Hbit.out.symm.trans Hb0.out; omega
          rw [Hs.out, mod_succ_pow, hb2, Nat.zero_mul, Nat.add_zero]
    · obtain rfl : k = 256 := by omega
      have m2 := M2.out
      rw [HE.out h Hd.out Hs.out] at m2
      obtain ⟨Z, hZ, mz⟩ := M1.out
      have M2 := Lib.hid m2; clear m2
      have Mz := Lib.hid mz; clear mz
      have HZ := Lib.hid hZ; clear hZ
      go_wp2_with (first | (refine wpList_load_row rfl 24 _ rfl (w.heap.size + 1 + 1) rfl 24 (k32 n) (0, 0) _ M2.out Try.underlying24 rfl (by rw [k32_size]; kernel_rfl) ?_) | (refine wpList_store_row rfl 24 _ _ rfl (w.heap.size + 1) _ rfl rfl 24 Z Mz.out (by rw [k32_size]; kernel_rfl) (HZ.out.trans (k32_size _).symm) (row_one _ _ _) ?_))
      exact bodyPost_ret (v := .agg (k32 n)) (results_cell_row (t := 24) (by rfl) _ _ (w.heap.size + 1) _ _ _ rfl (Mz.out.setRow _) Try.underlying24 rfl (by rw [k32_size]; kernel_rfl)) rfl ⟨rfl, below_setRow hB _ _ (by omega)⟩

theorem div_succ (n k : Nat) : n / 4096 ^ (k + 1) = n / 4096 ^ k / 4096 := by rw [Nat.pow_succ, Nat.div_div_eq_div_mul]
theorem int_inv (n : Nat) (hn : n < 9223372036854775808) (h : Nat → Int) (hl : ∀ j, j < 6 → h j = dg 4096 n j) (hh : ∀ j, 6 ≤ j → h j = 0) : Inv1 n 0 h := by
  have hz : ∀ j, 6 ≤ j → dg 4096 n j = 0 := by
    intro j hj
    unfold dg
    have : n < 4096 ^ j := Nat.lt_of_lt_of_le (Nat.lt_of_lt_of_le hn (by decide)) (Nat.pow_le_pow_right (by decide) hj)
    rw [Nat.div_eq_of_lt this]; rfl
  have he : ∀ j, h j = dg 4096 n j := fun j => by
    by_cases hj : j < 6
    · exact hl j hj
    · rw [hh j (by omega), hz j (by omega)]
  refine inv1_init _ h (fun i _ => ?_) ?_ ?_
  · rw [he i]; have a := dg_nn n i; have b := dg_le n i; omega
  · rw [sumf_congr 4096 h (dg 4096 n) 44 (fun i _ => he i)]
    have := sumf_dg 4096 n 44
    rw [Nat.mod_eq_of_lt (Nat.lt_of_lt_of_le hn (by decide +kernel))] at this
    exact this
  · rw [bnd0]; omega

set_option maxRecDepth 100000 in
set_option maxHeartbeats 1000000 in
theorem rint_nn (n : Nat) (hn : n < 9223372036854775808) (w : World) :
    Calls Try.prog 35 #[.int .i64 n] w fun e w' => e = .returned (.agg (r22 (n % PP))) ∧ Below w.heap.size w w' := by
  have HI := Lib.hid (int_inv n hn)
  have hq0 : n / 4096 ^ 0 < 9223372036854775808 := by simpa using hn
  have hend : n / 4096 ^ 6 = 0 := Nat.div_eq_of_lt (Nat.lt_of_lt_of_le hn (by decide))
  obtain ⟨r, hr⟩ : ∃ r, r = n % PP := ⟨_, rfl⟩
  have hle := fun h hi w => least_any n h hi w
  rw [← hr] at hle ⊢
  have hdl : ∀ k, n / 4096 ^ k ≤ n := fun k => Nat.div_le_self _ _
  have Hle := Lib.hid hle; clear hle
  have Hend := Lib.hid hend; clear hend
  have Hq0 := Lib.hid hq0; clear hq0
  have Hdl := Lib.hid hdl; clear hdl
  clear hr
  go_enter Try.func35, Try.ntmps35
  go_wp2_with fail
  go_loopw [0, 4] (fun q i wr => ∃ (k : Nat) (h : Nat → Int), k ≤ 6 ∧ i = .int .i64 k ∧ q = .int .i64 ((n / 4096 ^ k : Nat) : Int) ∧ (∀ j, j < k → h j = dg 4096 n j) ∧ (∀ j, k ≤ j → h j = 0) ∧ HasN wr w.heap.size 22 40 ∧ Has wr (w.heap.size + 1) (row .i64 44 h) 101 ∧ Below w.heap.size w wr) (fun _ i _ => 6 - (intOf i).toNat)
  case atStart => exact ⟨0, fun _ => 0, by omega, rfl, by simp, fun j hj => by omega, fun _ _ => rfl, (HasN.new _ _ _ 22 rfl).alloc _, Has.new1 _ _ _ _, below_2 _ _ _⟩
  case round =>
    obtain ⟨k, h, hk, rfl, rfl, hl, hh, m0, m1, hB⟩ := hrel
    have M0 := Lib.hid m0; clear m0
    have M1 := Lib.hid m1; clear m1
    have Hl := Lib.hid hl; clear hl
    have Hh := Lib.hid hh; clear hh
    by_cases hlt : k < 6
    · have h2 := M1.out.cell k (by omega)
      have hfz := M1.out.frozen k
      have hq1 := Hdl.out k
      have hfig : ((n / 4096 ^ k : Nat) : Int) % 4096 = dg 4096 n k := by unfold dg; omega
      have hnx : ((n / 4096 ^ k : Nat) : Int) / 4096 = ((n / 4096 ^ (k + 1) : Nat) : Int) := by rw [div_succ]; omega
      obtain ⟨q, hq⟩ : ∃ q, q = n / 4096 ^ k := ⟨_, rfl⟩
      rw [← hq] at hq1 hfig hnx
      rw [← hq]
      have Hq := Lib.hid hq; clear hq
      have Hfig := Lib.hid hfig; clear hfig
      have Hnx := Lib.hid hnx; clear hnx
      go_wp2_with fail
      go_roundw
      case measure => simp [intOf]; omega
      case rel =>
        refine ⟨k + 1, upd h k ((q : Int) % 4096), by omega, by go_num, by rw [← Hnx.out], ?_, ?_, M0.out.other _ _ (by simp <;> omega), M1.out.set _ _, hB.setCell (by simp <;> omega) _⟩
        · intro j hj
          by_cases e : j = k
          · subst e; rw [upd_same, Hfig.out]
          · rw [upd_ne _ _ _ _ e]; exact Hl.out j (by omega)
        · intro j hj; rw [upd_ne _ _ _ _ (by omega)]; exact Hh.out j (by omega)
    · obtain rfl : k = 6 := by omega
      have HC := Lib.hid (HI.out h Hl.out Hh.out)
      go_wp2_with (first | (refine wpList_load_row rfl 101 _ rfl (w.heap.size + 1) rfl 101 (row .i64 44 h) (0, 0) _ M1.out Try.underlying101 rfl (by rw [row_size]; kernel_rfl) ?_))
      refine (Hle.out h HC.out _).mono ?_
      rintro e w1 ⟨rfl, hb1⟩
      obtain ⟨Z, hZ, mz⟩ := M0.out.below hb1 M0.out.lt
      have HBB := Lib.hid (below_setRow (hB.trans (hb1.mono hB.size)) w.heap.size (r22 r) (by omega))
      clear hb1
      have Mz := Lib.hid mz; clear mz
      have HZ := Lib.hid hZ; clear hZ
      go_wp2_with (refine wpList_store_row rfl 40 _ _ rfl (w.heap.size) _ rfl rfl 40 Z Mz.out (by rw [r22_size]; kernel_rfl) (HZ.out.trans (r22_size _).symm) (row_one _ _ _) ?_)
      exact bodyPost_ret (v := .agg (r22 r)) (results_cell_row (t := 40) (by rfl) _ _ (w.heap.size) _ _ _ rfl (Mz.out.setRow _) Try.underlying40 rfl (by rw [r22_size]; kernel_rfl)) rfl ⟨rfl, HBB.out⟩
end Go.Proofs.Ytjiagjonlcadiaa
end
section
namespace Go.Proofs.Ytjiagjonlcadiaa
open Go.RowKit Go.Lib

theorem zero22 : (#[.int .i64 0, .int .i64 0, .int .i64 0, .int .i64 0, .int .i64 0, .int .i64 0, .int .i64 0, .int .i64 0, .int .i64 0, .int .i64 0, .int .i64 0, .int .i64 0, .int .i64 0, .int .i64 0, .int .i64 0, .int .i64 0, .int .i64 0, .int .i64 0, .int .i64 0, .int .i64 0, .int .i64 0, .int .i64 0] : Array Value) = r22 0 := by
  have : r22 0 = row .i64 22 (fun _ => 0) := row_ext _ _ _ _ fun i _ => by unfold dg; simp
  rw [this]; rfl
theorem PP_val : PP = 57896044618658097711785492504343953926634992332820282019728792003956564819949 := rfl
theorem int_num (n : Int) (m : Nat) (h : n = -(m : Int) - 1) : ((0 + (PP - m % PP)) % PP + (PP - 1 % PP)) % PP = (n % (PP : Int)).toNat := by
  subst h
  have hp := PP_val
  have hpos := PP_pos
  have hlt := Nat.mod_lt m hpos
  have hdm := Nat.div_add_mod m PP
  generalize m % PP = r at *
  generalize m / PP = q at *
  subst hdm
  have e1 : 1 % PP = 1 := by decide +kernel
  rw [e1]
  have e2 : (-((PP * q + r : Nat) : Int) - 1) = (-(r : Int) - 1) + (PP : Int) * (-(q : Int)) := by
    rw [Int.natCast_add, Int.natCast_mul, Int.mul_neg]; omega
  rw [e2, Int.add_mul_emod_self_left]
  rw [hp] at *
  omega

set_option maxRecDepth 100000 in
set_option maxHeartbeats 1000000 in
theorem rint_neg (n : Int) (hn : n < 0) (hn2 : -9223372036854775808 ≤ n) (w : World) :
    Calls Try.prog 35 #[.int .i64 n] w fun e w' => e = .returned (.agg (r22 (n % (PP : Int)).toNat)) ∧ Below w.heap.size w w' := by
  obtain ⟨m, hm⟩ : ∃ m : Nat, -(n + 1) = (m : Int) := ⟨(-(n + 1)).toNat, by omega⟩
  have hres := int_num n m (by omega)
  obtain ⟨r, hr⟩ : ∃ r, r = (n % (PP : Int)).toNat := ⟨_, rfl⟩
  rw [← hr] at hres ⊢
  have hc1 := fun w => rint_nn m (by omega) w
  have hc2 := fun w => rint_nn 1 (by omega) w
  have hm1 := fun w => rminus_any 0 (m % PP) PP_pos (Nat.mod_lt _ PP_pos) w
  obtain ⟨x, hx⟩ : ∃ x, x = m % PP := ⟨_, rfl⟩
  obtain ⟨o, ho⟩ : ∃ o, o = 1 % PP := ⟨_, rfl⟩
  obtain ⟨y, hy⟩ : ∃ y, y = (0 + (PP - x)) % PP := ⟨_, rfl⟩
  have hm2 := fun w => rminus_any y o (by rw [hy]; exact Nat.mod_lt _ PP_pos) (by rw [ho]; exact Nat.mod_lt _ PP_pos) w
  rw [← hx] at hc1 hm1 hres
  rw [← ho] at hc2 hres
  rw [← hy] at hm1 hres
  rw [hres] at hm2
  have hz22 := zero22
  have Hc1 := Lib.hid hc1; clear hc1
  have Hc2 := Lib.hid hc2; clear hc2
  have Hm1 := Lib.hid hm1; clear hm1
  have Hm2 := Lib.hid hm2; clear hm2
  have Hm := Lib.hid hm; clear hm
  clear hr hx ho hy hres
  go_enter Try.func35, Try.ntmps35
  go_wp2_with fail
  rw [Hm.out]
  refine (Hc1.out _).mono ?_
  rintro e w1 ⟨rfl, b1⟩
  have B1 := Lib.hid b1; clear b1
  go_wp2_with fail
  refine (Hm1.out _).mono ?_
  rintro e w2 ⟨rfl, b2⟩
  have B2 := Lib.hid b2; clear b2
  go_wp2_with fail
  refine (Hc2.out _).mono ?_
  rintro e w3 ⟨rfl, b3⟩
  have B3 := Lib.hid b3; clear b3
  go_wp2_with fail
  refine (Hm2.out _).mono ?_
  rintro e w4 ⟨rfl, b4⟩
  have B4 := Lib.hid b4; clear b4
  have HBB := Lib.hid (held_next (held_next (held_next (held_next (below_1 w (.cells (r22 0) 40)) B1.out) B2.out) B3.out) B4.out)
  obtain ⟨Z, hZ, mz⟩ := ((((HasN.new w (r22 0) 40 22 (r22_size _)).call B1.out).call B2.out).call B3.out).call B4.out
  have Mz := Lib.hid mz; clear mz
  have HZ := Lib.hid hZ; clear hZ
  go_wp2_with (refine wpList_store_row rfl 40 _ _ rfl (w.heap.size) _ rfl rfl 40 Z Mz.out (by rw [r22_size]; kernel_rfl) (HZ.out.trans (r22_size _).symm) (row_one _ _ _) ?_)
  exact bodyPost_ret (v := .agg (r22 r)) (results_cell_row (t := 40) (by rfl) _ _ (w.heap.size) _ _ _ rfl (Mz.out.setRow _) Try.underlying40 rfl (by rw [r22_size]; kernel_rfl)) rfl ⟨rfl, below_setRow HBB.out _ _ (Nat.le_refl _)⟩

theorem rint_any (n : Int) (h1 : -9223372036854775808 ≤ n) (h2 : n < 9223372036854775808) (w : World) :
    Calls Try.prog 35 #[.int .i64 n] w fun e w' => e = .returned (.agg (r22 (n % (PP : Int)).toNat)) ∧ Below w.heap.size w w' := by
  by_cases h : n < 0
  · exact rint_neg n h h1 w
  · obtain ⟨m, rfl⟩ := Int.eq_ofNat_of_zero_le (show 0 ≤ n by omega)
    have := rint_nn m (by omega) w
    rwa [show ((m : Int) % (PP : Int)).toNat = m % PP by rw [← Int.natCast_emod, Int.toNat_natCast]]

theorem pow_next (a e k x b : Nat) (hx : x = a ^ (e / 2 ^ (k + 1)) % PP) (hb : b = e / 2 ^ k % 2) : (if b = 1 then x * x % PP * a % PP else x * x % PP) = a ^ (e / 2 ^ k) % PP := by
  have h1 : e / 2 ^ k = 2 * (e / 2 ^ (k + 1)) + b := by
    rw [hb, Nat.pow_succ, ← Nat.div_div_eq_div_mul]; omega
  have hb2 : b < 2 := by rw [hb]; exact Nat.mod_lt _ (by decide)
  rw [h1, hx]
  generalize e / 2 ^ (k + 1) = E
  clear h1 hx hb
  have h2 : a ^ E % PP * (a ^ E % PP) % PP = a ^ (2 * E) % PP := by rw [← Nat.mul_mod, Nat.two_mul, Nat.pow_add]
  rw [h2]
  rcases (show b = 0 ∨ b = 1 by omega) with h0 | h0
  · rw [if_neg (by omega), h0]; rfl
  · rw [if_pos h0, h0, Nat.mod_mul_mod]; rfl

set_option maxRecDepth 100000 in
set_option maxHeartbeats 2000000 in
theorem rpower_any (a e : Nat) (ha : a < PP) (he : e < 2 ^ 255) (w : World) :
    Calls Try.prog 85 #[.agg (r22 a), .agg (r22 e)] w fun en w' => en = .returned (.agg (r22 (a ^ e % PP))) ∧ Below w.heap.size w w' := by
  have he0 : a ^ (e / 2 ^ 0) % PP = a ^ e % PP := by rw [Nat.pow_zero, Nat.div_one]
  have he1 : a ^ (e / 2 ^ 255) % PP = 1 % PP := by rw [Nat.div_eq_of_lt he, Nat.pow_zero]
  have hnx := pow_next a e
  have ht := fun x y hx hy w => rtimes_any x y hx hy w
  have hc1 := fun w => rint_nn 1 (by omega) w
  have He0 := Lib.hid he0; clear he0
  have He1 := Lib.hid he1; clear he1
  have Hnx := Lib.hid hnx; clear hnx
  have Ht := Lib.hid ht; clear ht
  have Hc1 := Lib.hid hc1; clear hc1
  have Ha := Lib.hid ha; clear ha
  have He := Lib.hid he; clear he
  go_enter Try.func85, Try.ntmps85
  go_wp2_with fail
  refine (Hc1.out _).mono ?_
  rintro en w1 ⟨rfl, b1⟩
  have m0 := (((Has.new w (r22 a) 40).alloc (.cells (r22 e) 40)).alloc (.cells (row .i64 22 fun _ => 0) 40)).call b1
  have m1 := ((Has.new1 w (.cells (r22 a) 40) (r22 e) 40).alloc (.cells (row .i64 22 fun _ => 0) 40)).call b1
  have m2 := (HasN.new2 w (.cells (r22 a) 40) (.cells (r22 e) 40) (row .i64 22 fun _ => 0) 40 22 (row_size _ _ _)).call b1
  have hB := held_next (below_3 w (.cells (r22 a) 40) (.cells (r22 e) 40) (.cells (row .i64 22 fun _ => 0) 40)) b1
  clear b1
  have h1r : (1 % PP) < PP := Nat.mod_lt _ PP_pos
  obtain ⟨o, ho⟩ : ∃ o, o = 1 % PP := ⟨_, rfl⟩
  rw [← ho] at h1r ⊢
  have M0 := Lib.hid m0; clear m0
  have M1 := Lib.hid m1; clear m1
  have M2 := Lib.hid m2; clear m2
  have HB := Lib.hid hB; clear hB
  have H1r := Lib.hid h1r; clear h1r
  have Ho := Lib.hid ho; clear ho
  obtain ⟨Z, hZ, mz⟩ := HasN.new w1 (row .i64 22 fun _ => 0) 40 22 (row_size _ _ _)
  have q0 := (M0.out.alloc (.cells (row .i64 22 fun _ => 0) 40)).setRow_other w1.heap.size (r22 o) (by have := M0.out.lt; omega)
  have q1 := (M1.out.alloc (.cells (row .i64 22 fun _ => 0) 40)).setRow_other w1.heap.size (r22 o) (by have := M1.out.lt; omega)
  have q2 := (M2.out.alloc (.cells (row .i64 22 fun _ => 0) 40)).setRow_other w1.heap.size (r22 o) (by have := M2.out.lt; omega)
  have q3 := mz.setRow (r22 o)
  have hB2 := below_setRow (HB.out.alloc HB.out.size (.cells (row .i64 22 fun _ => 0) 40)) w1.heap.size (r22 o) HB.out.size
  have hlt3 := M2.out.lt
  have Mz := Lib.hid mz; clear mz
  have HZ := Lib.hid hZ; clear hZ
  have Q0 := Lib.hid q0; clear q0
  have Q1 := Lib.hid q1; clear q1
  have Q2 := Lib.hid q2; clear q2
  have Q3 := Lib.hid q3; clear q3
  have HB2 := Lib.hid hB2; clear hB2
  clear M0 M1 M2 HB
  go_wp2_with (refine wpList_store_row rfl 40 _ _ rfl (w1.heap.size) _ rfl rfl 40 Z Mz.out (by rw [r22_size]; kernel_rfl) (HZ.out.trans (r22_size _).symm) (row_one _ _ _) ?_)
  clear Mz HZ
  go_loopw [6] (fun i wr => ∃ (k x : Nat), k ≤ 255 ∧ i = .int .i64 ((k : Int) - 1) ∧ x < PP ∧ x = a ^ (e / 2 ^ k) % PP ∧ Has wr w.heap.size (r22 a) 40 ∧ Has wr (w.heap.size + 1) (r22 e) 40 ∧ HasN wr (w.heap.size + 1 + 1) 22 40 ∧ Has wr w1.heap.size (r22 x) 40 ∧ Below w.heap.size w wr) (fun i _ => (intOf i + 1).toNat)
  case atStart => exact ⟨255, o, by omega, rfl, H1r.out, by rw [He1.out, Ho.out], Q0.out, Q1.out, Q2.out, Q3.out, HB2.out⟩
  case round =>
    clear Q0 Q1 Q2 Q3 HB2
    obtain ⟨k, x, hk, rfl, hxp, hx, m0, m1, m2, m3, hB⟩ := hrel
    have M0 := Lib.hid m0; clear m0
    have M1 := Lib.hid m1; clear m1
    have M2 := Lib.hid m2; clear m2
    have M3 := Lib.hid m3; clear m3
    have HB := Lib.hid hB; clear hB
    have Hxp := Lib.hid hxp; clear hxp
    have Hx := Lib.hid hx; clear hx
    by_cases hlt : 0 < k
    · obtain ⟨k, rfl⟩ : ∃ j, k = j + 1 := ⟨k - 1, by omega⟩
      rw [show (((k + 1 : Nat) : Int) - 1) = (k : Int) by omega]
      go_wp2_with (refine wpList_load_row rfl 40 _ rfl (w1.heap.size) rfl 40 (r22 x) (0, 0) _ M3.out Try.underlying40 rfl (by rw [r22_size]; kernel_rfl) ?_)
      have hy0 : x * x % PP < PP := Nat.mod_lt _ PP_pos
      obtain ⟨y, hy⟩ : ∃ y, y = x * x % PP := ⟨_, rfl⟩
      have hc := fun w => Ht.out x x Hxp.out Hxp.out w
      rw [← hy] at hc hy0
      have Hc := Lib.hid hc; clear hc
      have Hy := Lib.hid hy; clear hy
      have Hy0 := Lib.hid hy0; clear hy0
      refine (Hc.out _).mono ?_
      rintro en w2 ⟨rfl, b2⟩
      have m0 := M0.out.call b2
      have m1 := M1.out.call b2
      have m2 := M2.out.call b2
      obtain ⟨Z, hZ, mz⟩ := (M3.out.toN (r22_size _)).call b2
      have hB2 := held_next HB.out b2
      have q0 := m0.setRow_other w1.heap.size (r22 y) (by omega)
      have q1 := m1.setRow_other w1.heap.size (r22 y) (by omega)
      have q2 := m2.setRow_other w1.heap.size (r22 y) (by omega)
      have q3 := mz.setRow (r22 y)
      have hB3 := below_setRow hB2 w1.heap.size (r22 y) (by omega)
      clear m0 m1 m2 b2 hB2
      clear M0 M1 M2 M3 HB Hc
      have h1 := q1.cell (k / 12) (by omega)
      have x0 := dg_nn e (k / 12)
      have x1 := dg_le e (k / 12)
      obtain ⟨z, hz⟩ : ∃ z, z = dg 4096 e (k / 12) := ⟨_, rfl⟩
      rw [← hz] at h1 x0 x1
      have hbit := bitr e k z hz
      have k0 : (0 : Int) ≤ (k : Int) % 12 := by omega
      have k1 : (k : Int) % 12 < 12 := by omega
      have k2 : (0 : Int) ≤ (k : Int) / 12 := by omega
      have k3 : (k : Int) / 12 < 22 := by omega
      obtain ⟨s0, s1⟩ := div_pow_bd12 z (k % 12) x0 x1
      have Mz := Lib.hid mz; clear mz
      have HZ := Lib.hid hZ; clear hZ
      have Q0 := Lib.hid q0; clear q0
      have Q1 := Lib.hid q1; clear q1
      have Q2 := Lib.hid q2; clear q2
      have Q3 := Lib.hid q3; clear q3
      have HB3 := Lib.hid hB3; clear hB3
      have Hz := Lib.hid hz; clear hz
      have Hbit := Lib.hid hbit; clear hbit
      by_cases hb1 : z / 2 ^ (k % 12) % 2 = 1
      · have ht : (z / 2 ^ (k % 12) % 2 == 1) = true := by simp [hb1]
        have hbn : 1 = e / 2 ^ k % 2 := by have := Hbit.out; omega
        have hnx := Hnx.out k x 1 Hx.out hbn
        rw [if_pos rfl, ← Hy.out] at hnx
        have hv0 : y * a % PP < PP := Nat.mod_lt _ PP_pos
        obtain ⟨v, hv⟩ : ∃ v, v = y * a % PP := ⟨_, rfl⟩
        have hc := fun w => Ht.out y a Hy0.out Ha.out w
        rw [← hv] at hc hv0 hnx
        clear hv hbn
        have Hb1 := Lib.hid hb1; clear hb1
        have Hc := Lib.hid hc; clear hc
        have Hv0 := Lib.hid hv0; clear hv0
        have Hnx := Lib.hid hnx; clear hnx
        go_wp2_with (first | (refine wpList_store_row rfl 40 _ _ rfl (w1.heap.size) _ rfl rfl 40 Z Mz.out (by rw [r22_size]; kernel_rfl) (HZ.out.trans (r22_size _).symm) (row_one _ _ _) ?_) | (refine wpList_load_row rfl 40 _ rfl (w1.heap.size) rfl 40 (r22 y) (0, 0) _ Q3.out Try.underlying40 rfl (by rw [r22_size]; kernel_rfl) ?_) | (refine wpList_load_row rfl 40 _ rfl (w.heap.size) rfl 40 (r22 a) (0, 0) _ Q0.out Try.underlying40 rfl (by rw [r22_size]; kernel_rfl) ?_))
        refine (Hc.out _).mono ?_
        rintro en w3 ⟨rfl, b3⟩
        have m0 := Q0.out.call b3
        have m1 := Q1.out.call b3
        have m2 := Q2.out.call b3
        obtain ⟨Z', hZ', mz'⟩ := (Q3.out.toN (r22_size _)).call b3
        have hB4 := held_next HB3.out b3
        have p0 := m0.setRow_other w1.heap.size (r22 v) (by omega)
        have p1 := m1.setRow_other w1.heap.size (r22 v) (by omega)
        have p2 := m2.setRow_other w1.heap.size (r22 v) (by omega)
        have p3 := mz'.setRow (r22 v)
        have hB5 := below_setRow hB4 w1.heap.size (r22 v) (by omega)
        clear m0 m1 m2 b3 hB4
        have Mz' := Lib.hid mz'; clear mz'
        have HZ' := Lib.hid hZ'; clear hZ'
        have P0 := Lib.hid p0; clear p0
        have P1 := Lib.hid p1; clear p1
        have P2 := Lib.hid p2; clear p2
        have P3 := Lib.hid p3; clear p3
        have HB5 := Lib.hid hB5; clear hB5
        go_wp2_with (refine wpList_store_row rfl 40 _ _ rfl (w1.heap.size) _ rfl rfl 40 Z' Mz'.out (by rw [r22_size]; kernel_rfl) (HZ'.out.trans (r22_size _).symm) (row_one _ _ _) ?_)
        go_roundw
        case measure => simp [intOf]
        case rel => exact ⟨k, v, by omega, rfl, Hv0.out, Hnx.out, P0.out, P1.out, P2.out, P3.out, HB5.out⟩
      · have ht : (z / 2 ^ (k % 12) % 2 == 1) = false := by simp [hb1]
        have hbn : 0 = e / 2 ^ k % 2 := by have := Hbit.out; omega
        have hnx := Hnx.out k x 0 Hx.out hbn
        rw [if_neg (by decide), ← Hy.out] at hnx
        clear hb1 hbn
        have Hnx := Lib.hid hnx; clear hnx
        go_wp2_with (refine wpList_store_row rfl 40 _ _ rfl (w1.heap.size) _ rfl rfl 40 Z Mz.out (by rw [r22_size]; kernel_rfl) (HZ.out.trans (r22_size _).symm) (row_one _ _ _) ?_)
        go_roundw
        case measure => simp [intOf]
        case rel => exact ⟨k, y, by omega, rfl, Hy0.out, Hnx.out, Q0.out, Q1.out, Q2.out, Q3.out, HB3.out⟩
    · obtain rfl : k = 0 := by omega
      have hx2 : x = a ^ e % PP := Hx.out.trans He0.out
      obtain ⟨Z, hZ, mz⟩ := M2.out
      have Mz := Lib.hid mz; clear mz
      have HZ := Lib.hid hZ; clear hZ
      have Hx2 := Lib.hid hx2; clear hx2
      have HBB := Lib.hid (below_setRow HB.out (w.heap.size + 1 + 1) (r22 x) (by omega))
      go_wp2_with (first | (refine wpList_load_row rfl 40 _ rfl (w1.heap.size) rfl 40 (r22 x) (0, 0) _ M3.out Try.underlying40 rfl (by rw [r22_size]; kernel_rfl) ?_) | (refine wpList_store_row rfl 40 _ _ rfl (w.heap.size + 1 + 1) _ rfl rfl 40 Z Mz.out (by rw [r22_size]; kernel_rfl) (HZ.out.trans (r22_size _).symm) (row_one _ _ _) ?_))
      exact bodyPost_ret (v := .agg (r22 x)) (results_cell_row (t := 40) (by rfl) _ _ (w.heap.size + 1 + 1) _ _ _ rfl (Mz.out.setRow _) Try.underlying40 rfl (by rw [r22_size]; kernel_rfl)) rfl ⟨by rw [Hx2.out], HBB.out⟩

/-- a power modulo the prime, under a name: a closed one must not be reckoned by Nat's own power -/
def pwm (b e : Nat) : Nat := b ^ e % PP
theorem pwm_lt (b e : Nat) : pwm b e < PP := Nat.mod_lt _ PP_pos
theorem rpow_any (a e : Nat) (ha : a < PP) (he : e < 2 ^ 255) (w : World) :
    Calls Try.prog 85 #[.agg (r22 a), .agg (r22 e)] w fun en w' => en = .returned (.agg (r22 (pwm a e))) ∧ Below w.heap.size w w' := rpower_any a e ha he w
end Go.Proofs.Ytjiagjonlcadiaa
end
section
namespace Go.Proofs.Ytjiagjonlcadiaa
open Go.RowKit Go.Lib
section
variable {P : Program} (w : World)
def eqr (n : Nat) (f g : Nat → Int) : Bool := (List.range n).all fun i => f i == g i
theorem run_equalIn_row (d : Nat) (t e : TypeId) (n : Nat) (kd : IntKind) (ht : P.underlying t = some (.array n e)) (he : P.underlying e = some (.int kd)) (hsz : ∀ w, (sizeOf e).run P w = .ok 1 w) (f g : Nat → Int) :
    (Op.equalIn (d + 2) t (.agg (row kd n f)) (.agg (row kd n g))).run P w = .ok (eqr n f g) w := by
  unfold eqr
  rw [List.range_eq_range', Op.equalIn]
  simp only [Sem.run_bind, run_underlying ht, Result.andThen_ok, hsz, Std.Legacy.Range.forIn_eq_forIn_range', Std.Legacy.Range.size, Nat.sub_zero, Nat.add_sub_cancel, Nat.div_one]
  have hl : ∀ i ∈ List.range' 0 n 1, i < n := fun i hi => by simpa using (List.mem_range'_1.1 hi).2
  generalize List.range' 0 n 1 = l at hl ⊢
  induction l with
  | nil => simp
  | cons i l ih =>
    have hi : i < n := hl i (by simp)
    have px : ∀ h : Nat → Int, (part e (row kd n h) (i * 1)).run P w = .ok (.int kd (h i)) w := fun h => by
      have hg := row_get kd n h i hi
      simp [part, isAgg, run_underlying he, hg]
    simp only [List.forIn_cons, Sem.run_bind, px, run_equalIn_int w d e kd kd _ _ he, Result.andThen_ok, List.all_cons]
    cases hb : (f i == g i)
    · simp
    · simp only [Bool.not_true, Bool.false_eq_true, if_false, Sem.run_pure, Result.andThen_ok, Bool.true_and]
      exact ih fun j hj => hl j (by simp [hj])
theorem run_index_row (t e : TypeId) (n : Nat) (kd : IntKind) (ht : P.underlying t = some (.array n e)) (he : P.underlying e = some (.int kd)) (hsz : ∀ w, (sizeOf e).run P w = .ok 1 w) (f : Nat → Int) (k : Nat) (hk : k < n) :
    (Instr.index t (.agg (row kd n f)) (.int .i64 (k : Int))).run P w = .ok (.int kd (f k)) w := by
  have hg := row_get kd n f k hk
  simp [Instr.index, asIntOf, run_underlying ht, hk, hsz, part, isAgg, run_underlying he, hg]
theorem run_eql_row (t e : TypeId) (n : Nat) (kd : IntKind) (ht : P.underlying t = some (.array n e)) (he : P.underlying e = some (.int kd)) (hsz : ∀ w, (sizeOf e).run P w = .ok 1 w) (f g : Nat → Int) :
    (binOp .eql t (.agg (row kd n f)) (.agg (row kd n g))).run P w = .ok (.bool (eqr n f g)) w := by
  rw [run_eql_struct, run_equalIn_row w 9998 t e n kd ht he hsz]
  rfl
theorem run_neq_row (t e : TypeId) (n : Nat) (kd : IntKind) (ht : P.underlying t = some (.array n e)) (he : P.underlying e = some (.int kd)) (hsz : ∀ w, (sizeOf e).run P w = .ok 1 w) (f g : Nat → Int) :
    (binOp .neq t (.agg (row kd n f)) (.agg (row kd n g))).run P w = .ok (.bool (!eqr n f g)) w := by
  rw [run_neq_struct, run_equalIn_row w 9998 t e n kd ht he hsz]
  rfl
end
theorem eqr_dg (B n x y : Nat) (hx : x < B ^ n) (hy : y < B ^ n) : eqr n (dg B x) (dg B y) = decide (x = y) := by
  unfold eqr
  rw [Bool.eq_iff_iff]
  simp only [List.all_eq_true, List.mem_range, beq_iff_eq, decide_eq_true_eq]
  constructor
  · intro h
    have e1 := sumf_dg B x n
    have e2 := sumf_dg B y n
    rw [Nat.mod_eq_of_lt hx] at e1
    rw [Nat.mod_eq_of_lt hy] at e2
    rw [sumf_congr (B : Int) _ _ n h] at e1
    omega
  · rintro rfl i _; rfl
/-- two results: a row in a cell's block, and a slot -/
theorem results_cell_tmp_row {P : Program} {fn : Func} {p t2 : Tmp} {ty : TypeId} (h : fn.results = #[.cell p ty, .tmp t2]) (tmps : Array Value) (w : World) (g : Nat) (t : TypeId) (cs : Array Value) (fr : Nat × Nat) (d : TypeDesc)
    (hp : tmps.getD p undef = .pointer (some ⟨g, 0, none⟩)) (hg : w.heap[g]? = some (.cells cs t fr))
    (hu : P.underlying ty = some d) (hd : (match d with | .struct _ | .array _ _ => true | _ => false) = true) (hi : (P.info? ty).map (·.size) = some cs.size) :
    (results fn tmps).run P w = .ok (.tuple #[.agg cs, tmps.getD t2 undef]) w := by
  have hp' : tmps[p]?.getD undef = .pointer (some ⟨g, 0, none⟩) := by simpa using hp
  simp [results, h, hp', asAddr, run_loadVar_row w g t ty cs fr d hg hu hd hi]
theorem sz_int (w : World) : (sizeOf 3).run Try.prog w = .ok 1 w := by kernel_rfl
theorem sz_u8 (w : World) : (sizeOf 5).run Try.prog w = .ok 1 w := by kernel_rfl
theorem sz_u64 (w : World) : (sizeOf 34).run Try.prog w = .ok 1 w := by kernel_rfl
end Go.Proofs.Ytjiagjonlcadiaa
end
section
namespace Go.Proofs.Ytjiagjonlcadiaa
open Go.RowKit Go.Lib

theorem two_lt : 2 % PP < PP := Nat.mod_lt _ PP_pos
theorem pm2_lt : PP - 2 % PP < 2 ^ 255 := by decide +kernel
theorem pm2 : PP - 2 % PP = PP - 2 := by decide +kernel

set_option maxRecDepth 100000 in
set_option maxHeartbeats 2000000 in
theorem rover_any (a b : Nat) (ha : a < PP) (hb : b < PP) (w : World) :
    Calls Try.prog 43 #[.agg (r22 a), .agg (r22 b)] w fun en w' => en = .returned (.agg (r22 (a * pwm b (PP - 2) % PP))) ∧ Below w.heap.size w w' := by
  have h1 := fun w => rint_nn 2 (by omega) w
  have h2 := fun w => less_any PP (2 % PP) (Nat.le_of_lt two_lt) PP_lt w
  have h3 := fun w => rpow_any b (PP - 2 % PP) hb pm2_lt w
  rw [pm2] at h2 h3
  obtain ⟨t, ht⟩ : ∃ t, t = 2 % PP := ⟨_, rfl⟩
  obtain ⟨e, he⟩ : ∃ e, e = PP - 2 := ⟨_, rfl⟩
  rw [← ht] at h1 h2
  rw [← he] at h2 h3 ⊢
  have hy := pwm_lt b e
  obtain ⟨y, hyy⟩ : ∃ y, y = pwm b e := ⟨_, rfl⟩
  rw [← hyy] at h3 hy ⊢
  have h4 := fun w => rtimes_any a y ha hy w
  obtain ⟨r, hr⟩ : ∃ r, r = a * y % PP := ⟨_, rfl⟩
  rw [← hr] at h4 ⊢
  have H1 := Lib.hid h1; clear h1
  have H2 := Lib.hid h2; clear h2
  have H3 := Lib.hid h3; clear h3
  have H4 := Lib.hid h4; clear h4
  clear hr hyy hy he ht ha hb
  go_enter Try.func43, Try.ntmps43
  go_wp2_with fail
  refine wp_region_noPanic ?_
  refine wp_region_below 7 (by kernel_rfl) ?_
  intro W0 hW0
  have M0 := Lib.hid (show Has W0 w.heap.size (r22 a) 40 by rw [hW0]; exact ((Has.new _ _ _).alloc _).alloc _)
  have M1 := Lib.hid (show Has W0 (w.heap.size + 1) (r22 b) 40 by rw [hW0]; exact (Has.new1 _ _ _ _).alloc _)
  have M2 := Lib.hid (show HasN W0 (w.heap.size + 1 + 1) 22 40 by rw [hW0]; exact HasN.new2 _ _ _ _ _ 22 rfl)
  have HB := Lib.hid (show Below w.heap.size w W0 by rw [hW0]; exact below_3 _ _ _ _)
  clear hW0
  refine wpBut_take (i := 0) rfl (by kernel_rfl) (by kernel_rfl) (by kernel_rfl) (by kernel_rfl) (by kernel_rfl) (fun _ _ _ h => h) (yieldsIf_load_row (by rfl) 40 _ rfl (w.heap.size) rfl 40 (r22 a) (fun _ h => M0.out.below h M0.out.lt) Try.underlying40 rfl (by rw [r22_size]; kernel_rfl)) ((Below.refl _ _).drew) ?_
  (try simp only [Act.put]); (try simp only [List.setIfInBounds_toArray])
  refine wpBut_take (i := 1) rfl (by kernel_rfl) (by kernel_rfl) (by kernel_rfl) (by kernel_rfl) (by kernel_rfl) (fun _ _ _ h => h) (yieldsIf_load_row (by rfl) 40 _ rfl (w.heap.size + 1) rfl 40 (r22 b) (fun _ h => M1.out.below h M1.out.lt) Try.underlying40 rfl (by rw [r22_size]; kernel_rfl)) ((Below.refl _ _).drew) ?_
  (try simp only [Act.put]); (try simp only [List.setIfInBounds_toArray])
  refine wpBut_one (i := 2) (by kernel_rfl) rfl (fun K hK => ?_)
  go_simp
  go_at_call 82
  refine (prime_any _).mono ?_
  rintro e wW01 ⟨rfl, hb⟩
  have hkW01 := held_next (Below.refl _ _).drew hb
  refine hK.out _ _ (fun _ => hkW01) ?_
  clear hK K hb
  refine wpBut_one (i := 3) (by kernel_rfl) rfl (fun K hK => ?_)
  go_simp
  go_at_call 35
  refine (H1.out _).mono ?_
  rintro e wW02 ⟨rfl, hb⟩
  have hkW02 := held_next hkW01 hb
  refine hK.out _ _ (fun _ => hkW02) ?_
  clear hK K hb
  refine wpBut_one (i := 4) (by kernel_rfl) rfl (fun K hK => ?_)
  go_simp
  go_at_call 81
  refine (H2.out _).mono ?_
  rintro e wW03 ⟨rfl, hb⟩
  have hkW03 := held_next hkW02 hb
  refine hK.out _ _ (fun _ => hkW03) ?_
  clear hK K hb
  refine wpBut_one (i := 5) (by kernel_rfl) rfl (fun K hK => ?_)
  go_simp
  go_at_call 85
  refine (H3.out _).mono ?_
  rintro e wW04 ⟨rfl, hb⟩
  have hkW04 := held_next hkW03 hb
  refine hK.out _ _ (fun _ => hkW04) ?_
  clear hK K hb
  refine wpBut_one (i := 6) (by kernel_rfl) rfl (fun K hK => ?_)
  go_simp
  go_at_call 32
  refine (H4.out _).mono ?_
  rintro e wW05 ⟨rfl, hb⟩
  have hkW05 := held_next hkW04 hb
  refine hK.out _ _ (fun _ => hkW05) ?_
  clear hK K hb
  obtain ⟨Z, hZ, mZ⟩ := M2.out.below hkW05 M2.out.lt
  have MZ := Lib.hid mZ; clear mZ
  have HZ := Lib.hid hZ; clear hZ
  refine wpBut_one (i := 7) (by kernel_rfl) rfl (fun K hK => ?_)
  rw [if_pos (by rfl)]
  refine wp_store_row 40 _ _ rfl (w.heap.size + 1 + 1) _ rfl rfl 40 Z MZ.out (by rw [r22_size]; kernel_rfl) (HZ.out.trans (r22_size _).symm) (row_one _ _ _) ?_
  refine hK.out _ _ (fun h => (h rfl).elim) ?_
  clear hK K
  (try simp only [Act.put]); (try simp only [List.setIfInBounds_toArray])
  refine wpBut_done (by kernel_rfl) (NoPanic.normal ?_)
  go_wp2_with fail
  exact bodyPost_ret (v := .agg (r22 r)) (results_cell_row (t := 40) (by rfl) _ _ (w.heap.size + 1 + 1) _ _ _ rfl (MZ.out.setRow _) Try.underlying40 rfl (by rw [r22_size]; kernel_rfl)) rfl ⟨rfl, below_setRow (HB.out.trans (hkW05.mono HB.out.size)) _ _ (by omega)⟩

end Go.Proofs.Ytjiagjonlcadiaa
end
section
namespace Go
variable {P : Program} {md : Region.Mode} {ops : Array Oper} {Q : Exit → Act → World → Prop} {f : Nat} {S : World → Prop}

abbrev tt : Bool := true
abbrev ff : Bool := false
/-- function g has a body, and is entered by a call -/
def Enters (P : Program) (g : FuncId) : Prop := ∃ fn : Func, P.funcs[g]? = some fn ∧ (fn.name == "runtime.NumGoroutine") = false ∧ fn.body.isNone = false

theorem run_call_enter {a : Act} {o : Oper} {c : Call} {x : Operand} {g : FuncId} {vl : List Value} (ho : o.op = .call c) (hc : c.callee = .value x) (hx : a.eval x = .func (.func g) #[] #[]) (he : Enters P g)
    (hv : c.args.toList.map a.eval = vl) (w : World) : (execOp a.eval o).run P w = .ok (.enter g vl.toArray) w := by
  obtain ⟨fn, h1, h2, h3⟩ := he
  have h4 : fn.name ≠ "runtime.NumGoroutine" := by simpa using h2
  have h5 : c.args.map a.eval = vl.toArray := by apply Array.ext'; rw [← hv]; simp
  unfold execOp
  simp only [ho, resolve, hc, hx, h5]
  cases hb : fn.body with
  | none => rw [hb] at h3; cases h3
  | some code => simp [Deferred.ofValue, invoke, callFunc, h1, h4, hb]

theorem wp_call_to {a : Act} {o : Oper} {c : Call} {x : Operand} {g : FuncId} {vl : List Value} {w : World} {K : Act → World → Prop} {R : Ending → World → Prop} (ho : o.op = .call c) (hc : c.callee = .value x) (hx : a.eval x = .func (.func g) #[] #[]) (he : Enters P g)
    (hv : c.args.toList.map a.eval = vl) (h : Calls P g vl.toArray w R) (hR : ∀ e w', R e w' → ∃ v, e = .returned v ∧ K (a.put o.dst v) w') : o.wp P a w K Q := by
  unfold Oper.wp
  rw [run_call_enter ho hc hx he hv w, Oper.upon_enter]
  refine h.mono fun e w' hr => ?_
  obtain ⟨v, rfl, hK⟩ := hR e w' hr
  exact hK

/-- operation i, and what comes behind it -/
def BStep (P : Program) (md : Region.Mode) (ops : Array Oper) (Q : Exit → Act → World → Prop) (f : Nat) (S : World → Prop) (n : Nat) (listed : Array Bool) (a : Act) (w : World) (i : Nat) : Prop :=
  wpOp P ops Q i (fun a' w' => (i ≠ f → S w') ∧ wpBut P md ops Q f S n (listed.setIfInBounds i true) a' w') a w
variable {n : Nat} {listed : Array Bool} {a : Act} {w : World}
theorem wpBut_r1 {i : Nat} (hr : Region.ready md ops listed = [i]) (h : BStep P md ops Q f S n listed a w i) : wpBut P md ops Q f S (n + 1) listed a w := by
  refine ⟨fun h0 => (by rw [h0] at hr; cases hr), fun j hj => ?_⟩
  rw [hr] at hj
  obtain rfl : j = i := by simpa using hj
  exact h
theorem wpBut_r2 {i j : Nat} (hr : Region.ready md ops listed = [i, j]) (h1 : BStep P md ops Q f S n listed a w i) (h2 : BStep P md ops Q f S n listed a w j) : wpBut P md ops Q f S (n + 1) listed a w := by
  refine ⟨fun h0 => (by rw [h0] at hr; cases hr), fun k hk => ?_⟩
  rw [hr] at hk
  simp only [List.mem_cons, List.not_mem_nil, or_false] at hk
  rcases hk with rfl | rfl
  · exact h1
  · exact h2
theorem wpBut_r3 {i j l : Nat} (hr : Region.ready md ops listed = [i, j, l]) (h1 : BStep P md ops Q f S n listed a w i) (h2 : BStep P md ops Q f S n listed a w j) (h3 : BStep P md ops Q f S n listed a w l) : wpBut P md ops Q f S (n + 1) listed a w := by
  refine ⟨fun h0 => (by rw [h0] at hr; cases hr), fun k hk => ?_⟩
  rw [hr] at hk
  simp only [List.mem_cons, List.not_mem_nil, or_false] at hk
  rcases hk with rfl | rfl | rfl
  · exact h1
  · exact h2
  · exact h3
theorem wpBut_r4 {i j l m : Nat} (hr : Region.ready md ops listed = [i, j, l, m]) (h1 : BStep P md ops Q f S n listed a w i) (h2 : BStep P md ops Q f S n listed a w j) (h3 : BStep P md ops Q f S n listed a w l) (h4 : BStep P md ops Q f S n listed a w m) : wpBut P md ops Q f S (n + 1) listed a w := by
  refine ⟨fun h0 => (by rw [h0] at hr; cases hr), fun k hk => ?_⟩
  rw [hr] at hk
  simp only [List.mem_cons, List.not_mem_nil, or_false] at hk
  rcases hk with rfl | rfl | rfl | rfl
  · exact h1
  · exact h2
  · exact h3
  · exact h4
theorem bstep_any {i : Nat} {oi : Oper} (hi : ops[i]? = some oi)
    (h : ∀ K : Act → World → Prop, Shut (∀ a' w', (i ≠ f → S w') → wpBut P md ops Q f S n (listed.setIfInBounds i true) a' w' → K a' w') → if Region.wanted oi (yielded ops a.tmps) = true then Oper.wp P oi a w K Q else K (a.put oi.dst undef) w) : BStep P md ops Q f S n listed a w i :=
  wpOp_step hi fun K hK => h K fun a' w' hS hW => hK a' w' ⟨hS, hW⟩
theorem bstep_wp {i : Nat} {oi : Oper} (hi : ops[i]? = some oi) (hw : Region.wanted oi (yielded ops a.tmps) = true)
    (h : Oper.wp P oi a w (fun a' w' => (i ≠ f → S w') ∧ wpBut P md ops Q f S n (listed.setIfInBounds i true) a' w') Q) : BStep P md ops Q f S n listed a w i :=
  wpOp_step hi fun K hK => by rw [if_pos hw]; exact Oper.wp_mono hK h
theorem bstep_call {i : Nat} {oi : Oper} {c : Call} {x : Operand} {g : FuncId} {vl : List Value} {R : Ending → World → Prop} (hi : ops[i]? = some oi) (hw : Region.wanted oi (yielded ops a.tmps) = true) (ho : oi.op = .call c) (hc : c.callee = .value x)
    (hx : a.eval x = .func (.func g) #[] #[]) (he : Enters P g) (hv : c.args.toList.map a.eval = vl) (h : Calls P g vl.toArray w R)
    (hR : ∀ e w', R e w' → ∃ v, e = .returned v ∧ (i ≠ f → S w') ∧ wpBut P md ops Q f S n (listed.setIfInBounds i true) (a.put oi.dst v) w') : BStep P md ops Q f S n listed a w i :=
  bstep_wp hi hw (wp_call_to ho hc hx he hv h hR)
theorem bstep_store {i : Nat} {oi : Oper} (hi : ops[i]? = some oi) (hw : Region.wanted oi (yielded ops a.tmps) = true) (ty : TypeId) (x y : Operand) (ho : oi.op = .store ty x y)
    (g : Nat) (cells : Array Value) (hx : a.eval x = .pointer (some ⟨g, 0, none⟩)) (hy : a.eval y = .agg cells)
    (t : TypeId) (old : Array Value) (hg : w.heap[g]? = some (.cells old t (0, 0))) (hs : (P.info? ty).map (·.size) = some cells.size)
    (hold : old.size = cells.size) (h1 : cells.all (·.oneCell') = true)
    (h : (i ≠ f → S (w.setRow g cells)) ∧ wpBut P md ops Q f S n (listed.setIfInBounds i true) (a.put oi.dst undef) (w.setRow g cells)) : BStep P md ops Q f S n listed a w i :=
  bstep_wp hi hw (wp_store_row ty x y ho g cells hx hy t old hg hs hold h1 h)

/-- a region that draws, begun: the condition: nothing that was there when it began has turned -/
theorem wp_region_go {id : Nat} (f N : Nat) (l0 : Array Bool) (hm : P.follows .mixedOrders = true) (hN : ops.size = N) (hl : Array.replicate N false = l0)
    (h : ∀ W0 : World, W0 = w → wpBut P .any ops Q f (fun w' => Go.RowKit.Below W0.heap.size W0 w') N l0 a W0.drew) : (Code.region id ops true).wp P Q a w :=
  wp_region_but f _ hm (by subst hl; subst hN; exact h w rfl)
theorem wp_region_goS {id : Nat} (S : World → Prop) (f N : Nat) (l0 : Array Bool) (hm : P.follows .mixedOrders = true) (hN : ops.size = N) (hl : Array.replicate N false = l0)
    (h : wpBut P .any ops Q f S N l0 a w.drew) : (Code.region id ops true).wp P Q a w :=
  wp_region_but f S hm (by subst hl; subst hN; exact h)
theorem put_some {oi : Oper} {d : Tmp} (hd : oi.dst = some d) (a : Act) (v : Value) : a.put oi.dst v = { a with tmps := a.tmps.setIfInBounds d v } := by rw [hd]; rfl
theorem put_none {oi : Oper} (hd : oi.dst = none) (a : Act) (v : Value) : a.put oi.dst v = a := by rw [hd]; rfl
theorem go_take (i : Nat) (d : Tmp) (l' : Array Bool) {oi : Oper} {v : Value} (hi : ops[i]? = some oi) (hd : oi.dst = some d) (hl : listed.setIfInBounds i true = l') (hs : Region.noSelect ops = true) (hfr : Region.free md ops listed i = true)
    (hr : (Region.ready md ops listed).contains i = true) (hif : (i == f) = false) (hf : waitsFor md ops f i = true) (hy : YieldsIf P ops S oi v a) (hS : S w)
    (h : wpBut P md ops (NoPanic Q) f S n l' { a with tmps := a.tmps.setIfInBounds d v } w) : wpBut P md ops (NoPanic Q) f S (n + 1) listed a w :=
  wpBut_take hi hs hfr hr hif hf (fun _ _ _ h => h) hy hS (by rw [put_some hd, hl]; exact h)
/-- may number i be taken first -/
def takeOk (md : Region.Mode) (ops : Array Oper) (listed : Array Bool) (f i : Nat) : Bool := Region.noSelect ops && Region.free md ops listed i && (Region.ready md ops listed).contains i && !(i == f) && waitsFor md ops f i
theorem go_take2 {P : Program} {md : Region.Mode} {ops : Array Oper} {Q : Exit → Act → World → Prop} {f : Nat} {S : World → Prop} {n : Nat} {listed : Array Bool} {a : Act} {w : World} (i : Nat) (d : Tmp) (l' : Array Bool) {oi : Oper} {v : Value} (hi : ops[i]? = some oi) (hd : oi.dst = some d) (hl : listed.setIfInBounds i true = l') (hok : takeOk md ops listed f i = true) (hy : YieldsIf P ops S oi v a) (hS : S w)
    (h : wpBut P md ops (NoPanic Q) f S n l' { a with tmps := a.tmps.setIfInBounds d v } w) : wpBut P md ops (NoPanic Q) f S (n + 1) listed a w := by
  unfold takeOk at hok
  simp only [Bool.and_eq_true, Bool.not_eq_true'] at hok
  obtain ⟨⟨⟨⟨h1, h2⟩, h3⟩, h4⟩, h5⟩ := hok
  exact go_take i d l' hi hd hl h1 h2 h3 h4 h5 hy hS h
theorem sI {α : Type} (l : List α) (i : Nat) (a : α) : l.toArray.setIfInBounds i a = (l.set i a).toArray := List.setIfInBounds_toArray l i a
theorem sS {α : Type} (x : α) (l : List α) (i : Nat) (a : α) : (x :: l).set (i + 1) a = x :: l.set i a := List.set_cons_succ
theorem sZ {α : Type} (x : α) (l : List α) (a : α) : (x :: l).set 0 a = a :: l := List.set_cons_zero
theorem below_dr (w : World) : Go.RowKit.Below w.heap.size w w.drew := (Go.RowKit.Below.refl _ _).drew
theorem go_call (i : Nat) (d : Tmp) (l' : Array Bool) {oi : Oper} {c : Call} {x : Operand} {g : FuncId} {vl : List Value} {R : Ending → World → Prop} (hi : ops[i]? = some oi) (hd : oi.dst = some d) (hl : listed.setIfInBounds i true = l') (hw : Region.wanted oi (yielded ops a.tmps) = true) (ho : oi.op = .call c) (hc : c.callee = .value x)
    (hx : a.eval x = .func (.func g) #[] #[]) (he : Enters P g) (hv : c.args.toList.map a.eval = vl) (h : Calls P g vl.toArray w R)
    (hR : ∀ e w', R e w' → ∃ v, e = .returned v ∧ (i ≠ f → S w') ∧ wpBut P md ops Q f S n l' { a with tmps := a.tmps.setIfInBounds d v } w') : BStep P md ops Q f S n listed a w i :=
  bstep_call hi hw ho hc hx he hv h fun e w' hr => let ⟨v, h1, h2, h3⟩ := hR e w' hr; ⟨v, h1, h2, by rw [put_some hd, hl]; exact h3⟩
theorem go_store (i : Nat) (l' : Array Bool) {oi : Oper} (hi : ops[i]? = some oi) (hd : oi.dst = none) (hl : listed.setIfInBounds i true = l') (hw : Region.wanted oi (yielded ops a.tmps) = true) (ty : TypeId) (x y : Operand) (ho : oi.op = .store ty x y)
    (g : Nat) (cells : Array Value) (hx : a.eval x = .pointer (some ⟨g, 0, none⟩)) (hy : a.eval y = .agg cells)
    (t : TypeId) (old : Array Value) (hg : w.heap[g]? = some (.cells old t (0, 0))) (hs : (P.info? ty).map (·.size) = some cells.size)
    (hold : old.size = cells.size) (h1 : cells.all (·.oneCell') = true)
    (h : (i ≠ f → S (w.setRow g cells)) ∧ wpBut P md ops Q f S n l' a (w.setRow g cells)) : BStep P md ops Q f S n listed a w i :=
  bstep_store hi hw ty x y ho g cells hx hy t old hg hs hold h1 ⟨h.1, by rw [put_none hd, hl]; exact h.2⟩
theorem go_any (i : Nat) (l' : Array Bool) {oi : Oper} (hi : ops[i]? = some oi) (hl : listed.setIfInBounds i true = l')
    (h : ∀ K : Act → World → Prop, Shut (∀ a' w', (i ≠ f → S w') → wpBut P md ops Q f S n l' a' w' → K a' w') → if Region.wanted oi (yielded ops a.tmps) = true then Oper.wp P oi a w K Q else K (a.put oi.dst undef) w) : BStep P md ops Q f S n listed a w i :=
  bstep_any hi (by rw [hl]; exact h)
theorem go_alloc (i : Nat) (d : Tmp) (l' : Array Bool) {oi : Oper} (hi : ops[i]? = some oi) (hd : oi.dst = some d) (hl : listed.setIfInBounds i true = l') (hw : Region.wanted oi (yielded ops a.tmps) = true) (ty : TypeId) (ho : oi.op = .alloc ty) (Z : Array Value)
    (hz : ∀ w : World, (Instr.alloc ty true (.tuple #[])).run P w = .ok (.pointer (some ⟨w.heap.size, 0, none⟩)) (w.alloc (.cells Z ty)))
    (h : ∀ w2, w2 = w.alloc (.cells Z ty) → (i ≠ f → S w2) ∧ wpBut P md ops Q f S n l' { a with tmps := a.tmps.setIfInBounds d (.pointer (some ⟨w.heap.size, 0, none⟩)) } w2) : BStep P md ops Q f S n listed a w i := by
  refine bstep_wp hi hw ?_
  unfold Oper.wp execOp
  simp only [ho, Sem.run_bind, Sem.run_pure, hz, Result.andThen_ok]
  have := h _ rfl
  rw [← put_some hd, ← hl] at this
  exact this
theorem go_store2 (i : Nat) (l' : Array Bool) {oi : Oper} (hi : ops[i]? = some oi) (hd : oi.dst = none) (hl : listed.setIfInBounds i true = l') (hw : Region.wanted oi (yielded ops a.tmps) = true) (ty : TypeId) (x y : Operand) (ho : oi.op = .store ty x y)
    (g : Nat) (cells : Array Value) (hx : a.eval x = .pointer (some ⟨g, 0, none⟩)) (hy : a.eval y = .agg cells)
    (t : TypeId) (old : Array Value) (hg : w.heap[g]? = some (.cells old t (0, 0))) (hs : (P.info? ty).map (·.size) = some cells.size)
    (hold : old.size = cells.size) (h1 : cells.all (·.oneCell') = true)
    (h : ∀ w2, w2 = w.setRow g cells → (i ≠ f → S w2) ∧ wpBut P md ops Q f S n l' a w2) : BStep P md ops Q f S n listed a w i :=
  go_store i l' hi hd hl hw ty x y ho g cells hx hy t old hg hs hold h1 (h _ rfl)
/-- a short name for what is left of a region -/
theorem but_name {n0 : Nat} {l0 : Array Bool} {a0 : Act} {w0 : World} (h : ∀ T : Nat → Array Bool → Act → World → Prop, (∀ n l a w, T n l a w ↔ wpBut P md ops Q f S n l a w) → T n0 l0 a0 w0) : wpBut P md ops Q f S n0 l0 a0 w0 :=
  h (fun n l a w => wpBut P md ops Q f S n l a w) (fun _ _ _ _ => Iff.rfl)
/-- the ways through a region meet again: what is known of the blocks that it made and of the numbers that its calls gave -/
theorem wp_region_meet {α : Type} {P : Program} {ops : Array Oper} {Q : Exit → Act → World → Prop} {id : Nat} {b : Bool} {a : Act} {w : World} (C : World → α → World → Prop) (F : Act → α → Act)
    (h : ∀ Q' : Exit → Act → World → Prop, (∀ x w', C w x w' → Q' .normal (F a x) w') → (Code.region id ops b).wp P Q' a w) (hQ : ∀ W0 x w', W0 = w → C W0 x w' → Q .normal (F a x) w') : (Code.region id ops b).wp P Q a w :=
  h Q fun x w' hC => hQ w x w' rfl hC

theorem wpList_load {rest : List Oper} {o : Oper} (hw : Region.wanted o (yielded ops a.tmps) = true) (ty : TypeId) (x : Operand) (ho : o.op = .load ty x) (g : Nat) (hx : a.eval x = .pointer (some ⟨g, 0, none⟩)) (t : TypeId) (cs : Array Value)
    {d : TypeDesc} (hg : w.heap[g]? = some (.cells cs t (0, 0))) (hu : P.underlying ty = some d) (hd : (match d with | .struct _ | .array _ _ => true | _ => false) = true) (hi : (P.info? ty).map (·.size) = some cs.size)
    (e : Tmp) (he : o.dst = some e) (h : wpList P ops Q rest { a with tmps := a.tmps.setIfInBounds e (.agg cs) } w) : wpList P ops Q (o :: rest) a w := by
  have hy := yieldsIf_load_row (ops := ops) (S := fun w' => w' = w) hw ty x ho g hx t cs (fun w' h' => by rw [h']; exact hg) hu hd hi
  rcases hy with ⟨_, h1⟩ | ⟨h1, _⟩
  · refine wpList_step fun K hK => ?_
    rw [if_pos hw]
    unfold Oper.wp
    rw [h1 w rfl, Oper.upon_value]
    refine hK _ _ ?_
    rw [put_some he]; exact h
  · rw [hw] at h1; cases h1
theorem wpList_call {rest : List Oper} {o : Oper} {c : Call} {x : Operand} {g : FuncId} {vl : List Value} {R : Ending → World → Prop} (hw : Region.wanted o (yielded ops a.tmps) = true) (ho : o.op = .call c) (hc : c.callee = .value x)
    (hx : a.eval x = .func (.func g) #[] #[]) (he : Enters P g) (hv : c.args.toList.map a.eval = vl) (h : Calls P g vl.toArray w R)
    (d : Tmp) (hd : o.dst = some d) (hR : ∀ e w', R e w' → ∃ v, e = .returned v ∧ wpList P ops Q rest { a with tmps := a.tmps.setIfInBounds d v } w') : wpList P ops Q (o :: rest) a w :=
  wpList_step fun K hK => by
    rw [if_pos hw]
    exact Oper.wp_mono hK (wp_call_to ho hc hx he hv h fun e w' hr => let ⟨v, h1, h2⟩ := hR e w' hr; ⟨v, h1, by rw [put_some hd]; exact h2⟩)
end Go
namespace Go.Proofs.Ytjiagjonlcadiaa
def z36 : Array Value := (#[.int .u64 0, .int .u64 0, .int .u64 0, .int .u64 0] : Array Value)
theorem al36 (w : World) : (Instr.alloc 36 true (.tuple #[])).run Try.prog w = .ok (.pointer (some ⟨w.heap.size, 0, none⟩)) (w.alloc (.cells z36 36)) := by
  unfold z36
  go_simp
def z40 : Array Value := (#[.int .i64 0, .int .i64 0, .int .i64 0, .int .i64 0, .int .i64 0, .int .i64 0, .int .i64 0, .int .i64 0, .int .i64 0, .int .i64 0, .int .i64 0, .int .i64 0, .int .i64 0, .int .i64 0, .int .i64 0, .int .i64 0, .int .i64 0, .int .i64 0, .int .i64 0, .int .i64 0, .int .i64 0, .int .i64 0] : Array Value)
theorem al40 (w : World) : (Instr.alloc 40 true (.tuple #[])).run Try.prog w = .ok (.pointer (some ⟨w.heap.size, 0, none⟩)) (w.alloc (.cells z40 40)) := by
  unfold z40
  go_simp
def z24 : Array Value := (#[.int .u8 0, .int .u8 0, .int .u8 0, .int .u8 0, .int .u8 0, .int .u8 0, .int .u8 0, .int .u8 0, .int .u8 0, .int .u8 0, .int .u8 0, .int .u8 0, .int .u8 0, .int .u8 0, .int .u8 0, .int .u8 0, .int .u8 0, .int .u8 0, .int .u8 0, .int .u8 0, .int .u8 0, .int .u8 0, .int .u8 0, .int .u8 0, .int .u8 0, .int .u8 0, .int .u8 0, .int .u8 0, .int .u8 0, .int .u8 0, .int .u8 0, .int .u8 0] : Array Value)
theorem al24 (w : World) : (Instr.alloc 24 true (.tuple #[])).run Try.prog w = .ok (.pointer (some ⟨w.heap.size, 0, none⟩)) (w.alloc (.cells z24 24)) := by
  unfold z24
  go_simp
end Go.Proofs.Ytjiagjonlcadiaa
end
section
namespace Go.Proofs.Ytjiagjonlcadiaa
open Go.RowKit Go.Lib

/-- the reference's root: of a number a -/
def rt1 (a : Nat) : Nat := pwm a ((PP + 3) / 2 / 2 / 2)
def rti : Nat := pwm (2 % PP) ((PP - 1 % PP) / 2 / 2)
def rt2 (a : Nat) : Nat := if rt1 a * rt1 a % PP = a then rt1 a else rt1 a * rti % PP
def rtok (a : Nat) : Bool := decide (rt2 a * rt2 a % PP = a)
def rt3 (a : Nat) : Nat := if rtok a then (if rt2 a % 2 = 1 then PP - rt2 a else rt2 a) else 0

theorem p3_row : row .i64 22 (upd (dg 4096 PP) 0 4080) = r22 (PP + 3) := by
  refine row_ext _ _ _ _ ?_
  have : (List.range 22).all (fun i => upd (dg 4096 PP) 0 4080 i == dg 4096 (PP + 3) i) = true := by decide +kernel
  intro i hi
  simpa using List.all_eq_true.1 this i (by simpa using hi)
theorem pp0 : dg 4096 PP 0 = 4077 := by decide +kernel
theorem p3_lt : PP + 3 < 4096 ^ 22 := by decide +kernel
theorem r22_eq (x y : Nat) (hx : x < 4096 ^ 22) (hy : y < 4096 ^ 22) (w : World) : (Op.equalIn 10000 40 (.agg (r22 x)) (.agg (r22 y))).run Try.prog w = .ok (decide (x = y)) w := by
  rw [← eqr_dg 4096 22 x y hx hy]
  exact run_equalIn_row w 9998 40 3 22 .i64 Try.underlying40 Try.underlying3 sz_int _ _
theorem ei_lt : (PP - 1 % PP) / 2 / 2 < 2 ^ 255 := by decide +kernel
theorem half_lt (n : Nat) (h : n < 4096 ^ 22) : n / 2 < 4096 ^ 22 := Nat.lt_of_le_of_lt (Nat.div_le_self _ _) h
theorem e3_lt : (PP + 3) / 2 / 2 / 2 < 2 ^ 255 := by decide +kernel

theorem ent32 : Enters Try.prog 32 := ⟨_, Try.func32, by kernel_rfl, by kernel_rfl⟩
theorem ent35 : Enters Try.prog 35 := ⟨_, Try.func35, by kernel_rfl, by kernel_rfl⟩
theorem ent81 : Enters Try.prog 81 := ⟨_, Try.func81, by kernel_rfl, by kernel_rfl⟩
theorem ent82 : Enters Try.prog 82 := ⟨_, Try.func82, by kernel_rfl, by kernel_rfl⟩
theorem ent85 : Enters Try.prog 85 := ⟨_, Try.func85, by kernel_rfl, by kernel_rfl⟩
theorem ent86 : Enters Try.prog 86 := ⟨_, Try.func86, by kernel_rfl, by kernel_rfl⟩
theorem r2_cases (a : Nat) (h : rt1 a * rt1 a % PP = a) : rt2 a = rt1 a := by unfold rt2; rw [if_pos h]
theorem r2_other (a : Nat) (h : ¬ rt1 a * rt1 a % PP = a) : rt2 a = rt1 a * rti % PP := by unfold rt2; rw [if_neg h]
theorem rr_lt (a : Nat) : rt2 a < PP := by
  unfold rt2
  by_cases h : rt1 a * rt1 a % PP = a
  · rw [if_pos h]; delta rt1; exact pwm_lt _ _
  · rw [if_neg h]; exact Nat.mod_lt _ PP_pos
theorem r3_odd (a : Nat) (h : rt2 a * rt2 a % PP = a) (ho : rt2 a % 2 = 1) : rt3 a = PP - rt2 a ∧ rtok a = true := by
  have h1 : rtok a = true := by unfold rtok; exact decide_eq_true h
  refine ⟨?_, h1⟩
  unfold rt3
  rw [h1, if_pos rfl, if_pos ho]
theorem r3_even (a : Nat) (h : rt2 a * rt2 a % PP = a) (ho : ¬ rt2 a % 2 = 1) : rt3 a = rt2 a ∧ rtok a = true := by
  have h1 : rtok a = true := by unfold rtok; exact decide_eq_true h
  refine ⟨?_, h1⟩
  unfold rt3
  rw [h1, if_pos rfl, if_neg ho]
theorem r3_non (a : Nat) (h : ¬ rt2 a * rt2 a % PP = a) : rt3 a = 0 ∧ rtok a = false := by
  have h1 : rtok a = false := by unfold rtok; exact decide_eq_false h
  refine ⟨?_, h1⟩
  unfold rt3
  rw [h1, if_neg (by decide)]
theorem r22_same (x : Nat) (hx : x < 4096 ^ 22) (w : World) : (Op.equalIn 10000 40 (.agg (r22 x)) (.agg (r22 x))).run Try.prog w = .ok true w := by
  rw [r22_eq x x hx hx w, decide_eq_true rfl]
theorem r22_other (x y : Nat) (hx : x < 4096 ^ 22) (hy : y < 4096 ^ 22) (h : ¬ x = y) (w : World) : (Op.equalIn 10000 40 (.agg (r22 x)) (.agg (r22 y))).run Try.prog w = .ok false w := by
  rw [r22_eq x y hx hy w, decide_eq_false h]
theorem PPr_22 (x : Nat) (h : x < PP) : x < 4096 ^ 22 := Nat.lt_trans h PP_lt
theorem dg0_odd (r : Nat) (h : r % 2 = 1) : (dg 4096 r 0 % 2 == 1) = true := by
  have hz0 : dg 4096 r 0 % 2 = ((r % 2 : Nat) : Int) := by unfold dg; rw [Nat.pow_zero, Nat.div_one]; omega
  rw [hz0, h]; rfl
theorem dg0_even (r : Nat) (h : ¬ r % 2 = 1) : (dg 4096 r 0 % 2 == 1) = false := by
  have hz0 : dg 4096 r 0 % 2 = ((r % 2 : Nat) : Int) := by unfold dg; rw [Nat.pow_zero, Nat.div_one]; omega
  rw [hz0, show r % 2 = 0 by omega]; rfl

set_option maxRecDepth 100000 in
set_option linter.unusedSimpArgs false in
set_option maxHeartbeats 4000000 in
theorem rroot_any (a : Nat) (ha : a < PP) (w : World) :
    Calls Try.prog 45 #[.agg (r22 a)] w fun en w' => en = .returned (.tuple #[.agg (r22 (rt3 a)), .bool (rtok a)]) ∧ Below w.heap.size w w' := by
  have hp3r := p3_row
  have hp0 := pp0
  have hh1 := fun w => half_any (PP + 3) p3_lt w
  have hh2 := fun w => half_any ((PP + 3) / 2) (half_lt _ p3_lt) w
  have hh3 := fun w => half_any ((PP + 3) / 2 / 2) (half_lt _ (half_lt _ p3_lt)) w
  have hpw := fun w => rpow_any a ((PP + 3) / 2 / 2 / 2) ha e3_lt w
  have hr1 : rt1 a < PP := pwm_lt _ _
  rw [show pwm a ((PP + 3) / 2 / 2 / 2) = rt1 a from rfl] at hpw
  obtain ⟨q, hq⟩ : ∃ q, q = PP + 3 := ⟨_, rfl⟩
  rw [← hq] at hp3r hh1 hh2 hh3 hpw
  obtain ⟨q1, hq1⟩ : ∃ x, x = q / 2 := ⟨_, rfl⟩
  rw [← hq1] at hh1 hh2 hh3 hpw
  obtain ⟨q2, hq2⟩ : ∃ x, x = q1 / 2 := ⟨_, rfl⟩
  rw [← hq2] at hh2 hh3 hpw
  obtain ⟨q3, hq3⟩ : ∃ x, x = q2 / 2 := ⟨_, rfl⟩
  rw [← hq3] at hh3 hpw
  obtain ⟨r1, hrr⟩ : ∃ x, x = rt1 a := ⟨_, rfl⟩
  rw [← hrr] at hpw hr1
  have Hp3r := Lib.hid hp3r; clear hp3r
  have Hp0 := Lib.hid hp0; clear hp0
  have Hh1 := Lib.hid hh1; clear hh1
  have Hh2 := Lib.hid hh2; clear hh2
  have Hh3 := Lib.hid hh3; clear hh3
  have Hpw := Lib.hid hpw; clear hpw
  have Hr1 := Lib.hid hr1; clear hr1
  have Hrr := Lib.hid hrr; clear hrr
  clear hq hq1 hq2 hq3
  go_enter Try.func45, Try.ntmps45
  go_wp2_with fail
  refine (prime_any _).mono ?_
  rintro en w1 ⟨rfl, b1⟩
  have m0 := ((Has.new w (r22 a) 40).alloc (.cells (#[.int .i64 0, .int .i64 0, .int .i64 0, .int .i64 0, .int .i64 0, .int .i64 0, .int .i64 0, .int .i64 0, .int .i64 0, .int .i64 0, .int .i64 0, .int .i64 0, .int .i64 0, .int .i64 0, .int .i64 0, .int .i64 0, .int .i64 0, .int .i64 0, .int .i64 0, .int .i64 0, .int .i64 0, .int .i64 0] : Array Value) 40)).call b1
  have m1 := (HasN.new1 w (.cells (r22 a) 40) (#[.int .i64 0, .int .i64 0, .int .i64 0, .int .i64 0, .int .i64 0, .int .i64 0, .int .i64 0, .int .i64 0, .int .i64 0, .int .i64 0, .int .i64 0, .int .i64 0, .int .i64 0, .int .i64 0, .int .i64 0, .int .i64 0, .int .i64 0, .int .i64 0, .int .i64 0, .int .i64 0, .int .i64 0, .int .i64 0] : Array Value) 40 22 rfl).call b1
  have hB := held_next (below_2 w (.cells (r22 a) 40) (.cells (#[.int .i64 0, .int .i64 0, .int .i64 0, .int .i64 0, .int .i64 0, .int .i64 0, .int .i64 0, .int .i64 0, .int .i64 0, .int .i64 0, .int .i64 0, .int .i64 0, .int .i64 0, .int .i64 0, .int .i64 0, .int .i64 0, .int .i64 0, .int .i64 0, .int .i64 0, .int .i64 0, .int .i64 0, .int .i64 0] : Array Value) 40)) b1
  clear b1
  have hlt1 := m1.lt
  obtain ⟨Z, hZ, mz⟩ := HasN.new w1 (#[.int .i64 0, .int .i64 0, .int .i64 0, .int .i64 0, .int .i64 0, .int .i64 0, .int .i64 0, .int .i64 0, .int .i64 0, .int .i64 0, .int .i64 0, .int .i64 0, .int .i64 0, .int .i64 0, .int .i64 0, .int .i64 0, .int .i64 0, .int .i64 0, .int .i64 0, .int .i64 0, .int .i64 0, .int .i64 0] : Array Value) 40 22 rfl
  have q0 := (m0.alloc (.cells (#[.int .i64 0, .int .i64 0, .int .i64 0, .int .i64 0, .int .i64 0, .int .i64 0, .int .i64 0, .int .i64 0, .int .i64 0, .int .i64 0, .int .i64 0, .int .i64 0, .int .i64 0, .int .i64 0, .int .i64 0, .int .i64 0, .int .i64 0, .int .i64 0, .int .i64 0, .int .i64 0, .int .i64 0, .int .i64 0] : Array Value) 40)).setRow_other w1.heap.size (r22 PP) (by omega)
  have qq1 := (m1.alloc (.cells (#[.int .i64 0, .int .i64 0, .int .i64 0, .int .i64 0, .int .i64 0, .int .i64 0, .int .i64 0, .int .i64 0, .int .i64 0, .int .i64 0, .int .i64 0, .int .i64 0, .int .i64 0, .int .i64 0, .int .i64 0, .int .i64 0, .int .i64 0, .int .i64 0, .int .i64 0, .int .i64 0, .int .i64 0, .int .i64 0] : Array Value) 40)).setRow_other w1.heap.size (r22 PP) (by omega)
  have qq4 := mz.setRow (r22 PP)
  have hB2 := below_setRow (hB.alloc hB.size (.cells (#[.int .i64 0, .int .i64 0, .int .i64 0, .int .i64 0, .int .i64 0, .int .i64 0, .int .i64 0, .int .i64 0, .int .i64 0, .int .i64 0, .int .i64 0, .int .i64 0, .int .i64 0, .int .i64 0, .int .i64 0, .int .i64 0, .int .i64 0, .int .i64 0, .int .i64 0, .int .i64 0, .int .i64 0, .int .i64 0] : Array Value) 40)) w1.heap.size (r22 PP) hB.size
  have h1 := qq4.cell 0 (by omega)
  have hfz := qq4.frozen 0
  rw [Hp0.out] at h1
  have p4 := qq4.set 0 4080
  rw [Hp3r.out] at p4
  have p0 := q0.other ⟨w1.heap.size, 0, none⟩ (.int .i64 4080) (by simp <;> omega)
  have p1 := qq1.other ⟨w1.heap.size, 0, none⟩ (.int .i64 4080) (by simp <;> omega)
  have hB3 := hB2.setCell (p := ⟨w1.heap.size, 0, none⟩) (show w.heap.size ≤ w1.heap.size by omega) (.int .i64 4080)
  clear q0 qq1 hB hB2 m0 m1
  have Mz := Lib.hid mz; clear mz
  have HZ := Lib.hid hZ; clear hZ
  have P0 := Lib.hid p0; clear p0
  have P1 := Lib.hid p1; clear p1
  have P4 := Lib.hid p4; clear p4
  have HB3 := Lib.hid hB3; clear hB3
  have Qq4 := Lib.hid qq4; clear qq4
  go_wp2_with (refine wpList_store_row rfl 40 _ _ rfl (w1.heap.size) _ rfl rfl 40 Z Mz.out (by rw [r22_size]; kernel_rfl) (HZ.out.trans (r22_size _).symm) (row_one _ _ _) ?_)
  clear Mz HZ Qq4 h1 hfz
  refine wp_region_meet (α := Nat) (fun W0 x w' => W0.heap.size ≤ x ∧ Has w' x (r22 r1) 40 ∧ Below W0.heap.size W0 w') (fun ac x => (((((((ac.put (some 11) (.agg (r22 a))).put (some 12) (.agg (r22 q))).put (some 13) (.agg (r22 q1))).put (some 14) (.agg (r22 q2))).put (some 15) (.agg (r22 q3))).put (some 16) (.agg (r22 r1))).put (some 5) (.pointer (some ⟨x, 0, none⟩)))) ?_ ?_
  · intro Q' hQ'
    refine wp_region_noPanic ?_
    refine wp_region_go 99 8 #[ff,ff,ff,ff,ff,ff,ff,ff] (by kernel_rfl) rfl rfl ?_
    intro W1 hW1
    rw [← hW1] at hQ'
    simp only [Act.put, List.setIfInBounds_toArray, List.set_cons_succ, List.set_cons_zero] at hQ'
    have HQ := Lib.hid hQ'; clear hQ'
    rw [← hW1] at P0 P1 P4 HB3
    clear hW1
    refine go_take2 0 11 #[tt,ff,ff,ff,ff,ff,ff,ff] rfl rfl rfl (by kernel_rfl) (yieldsIf_load_row (by rfl) 40 _ rfl (w.heap.size) rfl 40 (r22 a) (fun _ h => P0.out.below h P0.out.lt) Try.underlying40 rfl (by rw [r22_size]; kernel_rfl)) ((below_dr W1)) ?_
    (try simp only [sI, sS, sZ])
    refine go_take2 1 12 #[tt,tt,ff,ff,ff,ff,ff,ff] rfl rfl rfl (by kernel_rfl) (yieldsIf_load_row (by rfl) 40 _ rfl (w1.heap.size) rfl 40 (r22 q) (fun _ h => P4.out.below h P4.out.lt) Try.underlying40 rfl (by rw [r22_size]; kernel_rfl)) ((below_dr W1)) ?_
    (try simp only [sI, sS, sZ])
    refine wpBut_r2 (i := 2) (j := 6) (by kernel_rfl) ?_ ?_
    refine go_call 2 13 #[tt,tt,tt,ff,ff,ff,ff,ff] rfl rfl rfl (by rfl) rfl rfl (by rfl) ent86 (by rfl) (Hh1.out _) ?_
    rintro e wW11 ⟨rfl, hb⟩
    have hkW11 := held_next (below_dr W1) hb
    refine ⟨_, rfl, fun _ => hkW11, ?_⟩
    clear hb
    (try simp only [sI, sS, sZ])
    refine wpBut_r2 (i := 3) (j := 6) (by kernel_rfl) ?_ ?_
    refine go_call 3 14 #[tt,tt,tt,tt,ff,ff,ff,ff] rfl rfl rfl (by rfl) rfl rfl (by rfl) ent86 (by rfl) (Hh2.out _) ?_
    rintro e wW12 ⟨rfl, hb⟩
    have hkW12 := held_next hkW11 hb
    refine ⟨_, rfl, fun _ => hkW12, ?_⟩
    clear hb
    (try simp only [sI, sS, sZ])
    refine wpBut_r2 (i := 4) (j := 6) (by kernel_rfl) ?_ ?_
    refine go_call 4 15 #[tt,tt,tt,tt,tt,ff,ff,ff] rfl rfl rfl (by rfl) rfl rfl (by rfl) ent86 (by rfl) (Hh3.out _) ?_
    rintro e wW13 ⟨rfl, hb⟩
    have hkW13 := held_next hkW12 hb
    refine ⟨_, rfl, fun _ => hkW13, ?_⟩
    clear hb
    (try simp only [sI, sS, sZ])
    refine wpBut_r2 (i := 5) (j := 6) (by kernel_rfl) ?_ ?_
    refine go_call 5 16 #[tt,tt,tt,tt,tt,tt,ff,ff] rfl rfl rfl (by rfl) rfl rfl (by rfl) ent85 (by rfl) (Hpw.out _) ?_
    rintro e wW14 ⟨rfl, hb⟩
    have hkW14 := held_next hkW13 hb
    refine ⟨_, rfl, fun _ => hkW14, ?_⟩
    clear hb
    (try simp only [sI, sS, sZ])
    refine wpBut_r1 (i := 6) (by kernel_rfl) ?_
    refine go_alloc 6 5 #[tt,tt,tt,tt,tt,tt,tt,ff] rfl rfl rfl (by rfl) 40 rfl _ al40 ?_
    intro wW15 hw2
    have hkW15 := (hkW14).alloc (hkW14).size (.cells z40 40)
    rw [← hw2] at hkW15
    have MA6 := Lib.hid (HasN.new (wW14) z40 40 22 (by kernel_rfl))
    rw [← hw2] at MA6
    have HA6 := Lib.hid (show W1.heap.size ≤ _ from (hkW14).size)
    clear hw2
    refine ⟨fun _ => hkW15, ?_⟩
    (try simp only [sI, sS, sZ])
    refine wpBut_r1 (i := 7) (by kernel_rfl) ?_
    obtain ⟨Zq, hZ, mZ⟩ := MA6.out
    refine go_store2 7 #[tt,tt,tt,tt,tt,tt,tt,tt] rfl rfl rfl (by rfl) 40 _ _ rfl _ _ rfl rfl 40 Zq mZ (by rw [r22_size]; kernel_rfl) (hZ.trans (r22_size ..).symm) (row_one _ _ _) ?_
    intro wW16 hw2
    have hkW16 := below_setRow (hkW15) _ (r22 r1) HA6.out
    rw [← hw2] at hkW16
    clear MA6
    have MA6 := Lib.hid (mZ.setRow (r22 r1))
    rw [← hw2] at MA6; clear mZ hZ hw2
    refine ⟨fun _ => hkW16, ?_⟩
    (try simp only [sI, sS, sZ])
    exact wpBut_done (by kernel_rfl) (NoPanic.normal (HQ.out (_) _ ⟨HA6.out, MA6.out, (hkW16)⟩))
    refine go_alloc 6 5 #[tt,tt,tt,tt,tt,ff,tt,ff] rfl rfl rfl (by rfl) 40 rfl _ al40 ?_
    intro wW14 hw2
    have hkW14 := (hkW13).alloc (hkW13).size (.cells z40 40)
    rw [← hw2] at hkW14
    have MA6 := Lib.hid (HasN.new (wW13) z40 40 22 (by kernel_rfl))
    rw [← hw2] at MA6
    have HA6 := Lib.hid (show W1.heap.size ≤ _ from (hkW13).size)
    clear hw2
    refine ⟨fun _ => hkW14, ?_⟩
    (try simp only [sI, sS, sZ])
    refine wpBut_r1 (i := 5) (by kernel_rfl) ?_
    refine go_call 5 16 #[tt,tt,tt,tt,tt,tt,tt,ff] rfl rfl rfl (by rfl) rfl rfl (by rfl) ent85 (by rfl) (Hpw.out _) ?_
    rintro e wW15 ⟨rfl, hb⟩
    have hkW15 := held_next hkW14 hb
    replace MA6 := Lib.hid (MA6.out.call hb)
    refine ⟨_, rfl, fun _ => hkW15, ?_⟩
    clear hb
    (try simp only [sI, sS, sZ])
    refine wpBut_r1 (i := 7) (by kernel_rfl) ?_
    obtain ⟨Zq, hZ, mZ⟩ := MA6.out
    refine go_store2 7 #[tt,tt,tt,tt,tt,tt,tt,tt] rfl rfl rfl (by rfl) 40 _ _ rfl _ _ rfl rfl 40 Zq mZ (by rw [r22_size]; kernel_rfl) (hZ.trans (r22_size ..).symm) (row_one _ _ _) ?_
    intro wW16 hw2
    have hkW16 := below_setRow (hkW15) _ (r22 r1) HA6.out
    rw [← hw2] at hkW16
    clear MA6
    have MA6 := Lib.hid (mZ.setRow (r22 r1))
    rw [← hw2] at MA6; clear mZ hZ hw2
    refine ⟨fun _ => hkW16, ?_⟩
    (try simp only [sI, sS, sZ])
    exact wpBut_done (by kernel_rfl) (NoPanic.normal (HQ.out (_) _ ⟨HA6.out, MA6.out, (hkW16)⟩))
    refine go_alloc 6 5 #[tt,tt,tt,tt,ff,ff,tt,ff] rfl rfl rfl (by rfl) 40 rfl _ al40 ?_
    intro wW13 hw2
    have hkW13 := (hkW12).alloc (hkW12).size (.cells z40 40)
    rw [← hw2] at hkW13
    have MA6 := Lib.hid (HasN.new (wW12) z40 40 22 (by kernel_rfl))
    rw [← hw2] at MA6
    have HA6 := Lib.hid (show W1.heap.size ≤ _ from (hkW12).size)
    clear hw2
    refine ⟨fun _ => hkW13, ?_⟩
    (try simp only [sI, sS, sZ])
    refine wpBut_r1 (i := 4) (by kernel_rfl) ?_
    refine go_call 4 15 #[tt,tt,tt,tt,tt,ff,tt,ff] rfl rfl rfl (by rfl) rfl rfl (by rfl) ent86 (by rfl) (Hh3.out _) ?_
    rintro e wW14 ⟨rfl, hb⟩
    have hkW14 := held_next hkW13 hb
    replace MA6 := Lib.hid (MA6.out.call hb)
    refine ⟨_, rfl, fun _ => hkW14, ?_⟩
    clear hb
    (try simp only [sI, sS, sZ])
    refine wpBut_r1 (i := 5) (by kernel_rfl) ?_
    refine go_call 5 16 #[tt,tt,tt,tt,tt,tt,tt,ff] rfl rfl rfl (by rfl) rfl rfl (by rfl) ent85 (by rfl) (Hpw.out _) ?_
    rintro e wW15 ⟨rfl, hb⟩
    have hkW15 := held_next hkW14 hb
    replace MA6 := Lib.hid (MA6.out.call hb)
    refine ⟨_, rfl, fun _ => hkW15, ?_⟩
    clear hb
    (try simp only [sI, sS, sZ])
    refine wpBut_r1 (i := 7) (by kernel_rfl) ?_
    obtain ⟨Zq, hZ, mZ⟩ := MA6.out
    refine go_store2 7 #[tt,tt,tt,tt,tt,tt,tt,tt] rfl rfl rfl (by rfl) 40 _ _ rfl _ _ rfl rfl 40 Zq mZ (by rw [r22_size]; kernel_rfl) (hZ.trans (r22_size ..).symm) (row_one _ _ _) ?_
    intro wW16 hw2
    have hkW16 := below_setRow (hkW15) _ (r22 r1) HA6.out
    rw [← hw2] at hkW16
    clear MA6
    have MA6 := Lib.hid (mZ.setRow (r22 r1))
    rw [← hw2] at MA6; clear mZ hZ hw2
    refine ⟨fun _ => hkW16, ?_⟩
    (try simp only [sI, sS, sZ])
    exact wpBut_done (by kernel_rfl) (NoPanic.normal (HQ.out (_) _ ⟨HA6.out, MA6.out, (hkW16)⟩))
    refine go_alloc 6 5 #[tt,tt,tt,ff,ff,ff,tt,ff] rfl rfl rfl (by rfl) 40 rfl _ al40 ?_
    intro wW12 hw2
    have hkW12 := (hkW11).alloc (hkW11).size (.cells z40 40)
    rw [← hw2] at hkW12
    have MA6 := Lib.hid (HasN.new (wW11) z40 40 22 (by kernel_rfl))
    rw [← hw2] at MA6
    have HA6 := Lib.hid (show W1.heap.size ≤ _ from (hkW11).size)
    clear hw2
    refine ⟨fun _ => hkW12, ?_⟩
    (try simp only [sI, sS, sZ])
    refine wpBut_r1 (i := 3) (by kernel_rfl) ?_
    refine go_call 3 14 #[tt,tt,tt,tt,ff,ff,tt,ff] rfl rfl rfl (by rfl) rfl rfl (by rfl) ent86 (by rfl) (Hh2.out _) ?_
    rintro e wW13 ⟨rfl, hb⟩
    have hkW13 := held_next hkW12 hb
    replace MA6 := Lib.hid (MA6.out.call hb)
    refine ⟨_, rfl, fun _ => hkW13, ?_⟩
    clear hb
    (try simp only [sI, sS, sZ])
    refine wpBut_r1 (i := 4) (by kernel_rfl) ?_
    refine go_call 4 15 #[tt,tt,tt,tt,tt,ff,tt,ff] rfl rfl rfl (by rfl) rfl rfl (by rfl) ent86 (by rfl) (Hh3.out _) ?_
    rintro e wW14 ⟨rfl, hb⟩
    have hkW14 := held_next hkW13 hb
    replace MA6 := Lib.hid (MA6.out.call hb)
    refine ⟨_, rfl, fun _ => hkW14, ?_⟩
    clear hb
    (try simp only [sI, sS, sZ])
    refine wpBut_r1 (i := 5) (by kernel_rfl) ?_
    refine go_call 5 16 #[tt,tt,tt,tt,tt,tt,tt,ff] rfl rfl rfl (by rfl) rfl rfl (by rfl) ent85 (by rfl) (Hpw.out _) ?_
    rintro e wW15 ⟨rfl, hb⟩
    have hkW15 := held_next hkW14 hb
    replace MA6 := Lib.hid (MA6.out.call hb)
    refine ⟨_, rfl, fun _ => hkW15, ?_⟩
    clear hb
    (try simp only [sI, sS, sZ])
    refine wpBut_r1 (i := 7) (by kernel_rfl) ?_
    obtain ⟨Zq, hZ, mZ⟩ := MA6.out
    refine go_store2 7 #[tt,tt,tt,tt,tt,tt,tt,tt] rfl rfl rfl (by rfl) 40 _ _ rfl _ _ rfl rfl 40 Zq mZ (by rw [r22_size]; kernel_rfl) (hZ.trans (r22_size ..).symm) (row_one _ _ _) ?_
    intro wW16 hw2
    have hkW16 := below_setRow (hkW15) _ (r22 r1) HA6.out
    rw [← hw2] at hkW16
    clear MA6
    have MA6 := Lib.hid (mZ.setRow (r22 r1))
    rw [← hw2] at MA6; clear mZ hZ hw2
    refine ⟨fun _ => hkW16, ?_⟩
    (try simp only [sI, sS, sZ])
    exact wpBut_done (by kernel_rfl) (NoPanic.normal (HQ.out (_) _ ⟨HA6.out, MA6.out, (hkW16)⟩))
    refine go_alloc 6 5 #[tt,tt,ff,ff,ff,ff,tt,ff] rfl rfl rfl (by rfl) 40 rfl _ al40 ?_
    intro wW11 hw2
    have hkW11 := ((below_dr W1)).alloc ((below_dr W1)).size (.cells z40 40)
    rw [← hw2] at hkW11
    have MA6 := Lib.hid (HasN.new (W1.drew) z40 40 22 (by kernel_rfl))
    rw [← hw2] at MA6
    have HA6 := Lib.hid (show W1.heap.size ≤ _ from ((below_dr W1)).size)
    clear hw2
    refine ⟨fun _ => hkW11, ?_⟩
    (try simp only [sI, sS, sZ])
    refine wpBut_r1 (i := 2) (by kernel_rfl) ?_
    refine go_call 2 13 #[tt,tt,tt,ff,ff,ff,tt,ff] rfl rfl rfl (by rfl) rfl rfl (by rfl) ent86 (by rfl) (Hh1.out _) ?_
    rintro e wW12 ⟨rfl, hb⟩
    have hkW12 := held_next hkW11 hb
    replace MA6 := Lib.hid (MA6.out.call hb)
    refine ⟨_, rfl, fun _ => hkW12, ?_⟩
    clear hb
    (try simp only [sI, sS, sZ])
    refine wpBut_r1 (i := 3) (by kernel_rfl) ?_
    refine go_call 3 14 #[tt,tt,tt,tt,ff,ff,tt,ff] rfl rfl rfl (by rfl) rfl rfl (by rfl) ent86 (by rfl) (Hh2.out _) ?_
    rintro e wW13 ⟨rfl, hb⟩
    have hkW13 := held_next hkW12 hb
    replace MA6 := Lib.hid (MA6.out.call hb)
    refine ⟨_, rfl, fun _ => hkW13, ?_⟩
    clear hb
    (try simp only [sI, sS, sZ])
    refine wpBut_r1 (i := 4) (by kernel_rfl) ?_
    refine go_call 4 15 #[tt,tt,tt,tt,tt,ff,tt,ff] rfl rfl rfl (by rfl) rfl rfl (by rfl) ent86 (by rfl) (Hh3.out _) ?_
    rintro e wW14 ⟨rfl, hb⟩
    have hkW14 := held_next hkW13 hb
    replace MA6 := Lib.hid (MA6.out.call hb)
    refine ⟨_, rfl, fun _ => hkW14, ?_⟩
    clear hb
    (try simp only [sI, sS, sZ])
    refine wpBut_r1 (i := 5) (by kernel_rfl) ?_
    refine go_call 5 16 #[tt,tt,tt,tt,tt,tt,tt,ff] rfl rfl rfl (by rfl) rfl rfl (by rfl) ent85 (by rfl) (Hpw.out _) ?_
    rintro e wW15 ⟨rfl, hb⟩
    have hkW15 := held_next hkW14 hb
    replace MA6 := Lib.hid (MA6.out.call hb)
    refine ⟨_, rfl, fun _ => hkW15, ?_⟩
    clear hb
    (try simp only [sI, sS, sZ])
    refine wpBut_r1 (i := 7) (by kernel_rfl) ?_
    obtain ⟨Zq, hZ, mZ⟩ := MA6.out
    refine go_store2 7 #[tt,tt,tt,tt,tt,tt,tt,tt] rfl rfl rfl (by rfl) 40 _ _ rfl _ _ rfl rfl 40 Zq mZ (by rw [r22_size]; kernel_rfl) (hZ.trans (r22_size ..).symm) (row_one _ _ _) ?_
    intro wW16 hw2
    have hkW16 := below_setRow (hkW15) _ (r22 r1) HA6.out
    rw [← hw2] at hkW16
    clear MA6
    have MA6 := Lib.hid (mZ.setRow (r22 r1))
    rw [← hw2] at MA6; clear mZ hZ hw2
    refine ⟨fun _ => hkW16, ?_⟩
    (try simp only [sI, sS, sZ])
    exact wpBut_done (by kernel_rfl) (NoPanic.normal (HQ.out (_) _ ⟨HA6.out, MA6.out, (hkW16)⟩))
  · rintro W1 B5 vw1 hW1 ⟨hBq0, mBq0, hbw⟩
    simp only [Act.put, List.setIfInBounds_toArray, List.set_cons_succ, List.set_cons_zero] at  hBq0  mBq0 ⊢
    rw [← hW1] at P0 P1 P4 HB3
    clear hW1
    have hltP0_1 := P0.out.lt
    have hltP1_1 := P1.out.lt
    have hltP4_1 := P4.out.lt
    replace P0 := Lib.hid (P0.out.call hbw)
    replace P1 := Lib.hid (P1.out.call hbw)
    replace P4 := Lib.hid (P4.out.call hbw)
    replace HB3 := Lib.hid (held_next HB3.out hbw)
    have P5 := Lib.hid mBq0; clear mBq0
    clear hbw
    clear P4
    repeat ((fail_if_success (with_reducible (show wpList _ _ _ _ _ _))); go_step)
    have ha22 := PPr_22 a ha
    have hz0 := zero22
    have Ha22 := Lib.hid ha22; clear ha22
    have Hz0 := Lib.hid hz0; clear hz0
    by_cases c1 : rt1 a * rt1 a % PP = a
    · have hk : r1 = rt2 a := Hrr.out.trans (r2_cases a c1).symm
      have ht := fun w => rtimes_any r1 r1 Hr1.out Hr1.out w
      rw [show r1 * r1 % PP = a by rw [Hrr.out]; exact c1] at ht
      have hl2 := Hr1.out
      have heq := fun w => r22_same a Ha22.out w
      have Ht := Lib.hid ht; clear ht
      have Hk := Lib.hid hk; clear hk
      have Hl2 := Lib.hid hl2; clear hl2
      refine wp_region_noPanic ?_
      refine wp_region_go 99 5 #[ff,ff,ff,ff,ff] (by kernel_rfl) rfl rfl ?_
      intro W2 hW2
      rw [← hW2] at P0 P1 P5 HB3
      clear hW2
      refine go_take2 0 17 #[tt,ff,ff,ff,ff] rfl rfl rfl (by kernel_rfl) (yieldsIf_load_row (by rfl) 40 _ rfl (B5) rfl 40 (r22 r1) (fun _ h => P5.out.below h P5.out.lt) Try.underlying40 rfl (by rw [r22_size]; kernel_rfl)) ((below_dr W2)) ?_
      (try simp only [sI, sS, sZ])
      refine go_take2 1 18 #[tt,tt,ff,ff,ff] rfl rfl rfl (by kernel_rfl) (yieldsIf_load_row (by rfl) 40 _ rfl (B5) rfl 40 (r22 r1) (fun _ h => P5.out.below h P5.out.lt) Try.underlying40 rfl (by rw [r22_size]; kernel_rfl)) ((below_dr W2)) ?_
      (try simp only [sI, sS, sZ])
      refine go_take2 3 20 #[tt,tt,ff,tt,ff] rfl rfl rfl (by kernel_rfl) (yieldsIf_load_row (by rfl) 40 _ rfl (w.heap.size) rfl 40 (r22 a) (fun _ h => P0.out.below h P0.out.lt) Try.underlying40 rfl (by rw [r22_size]; kernel_rfl)) ((below_dr W2)) ?_
      (try simp only [sI, sS, sZ])
      refine wpBut_r1 (i := 2) (by kernel_rfl) ?_
      refine go_call 2 19 #[tt,tt,tt,tt,ff] rfl rfl rfl (by rfl) rfl rfl (by rfl) ent32 (by rfl) (Ht.out _) ?_
      rintro e wW21 ⟨rfl, hb⟩
      have hkW21 := held_next (below_dr W2) hb
      refine ⟨_, rfl, fun _ => hkW21, ?_⟩
      clear hb
      (try simp only [sI, sS, sZ])
      refine go_take2 4 21 #[tt,tt,tt,tt,tt] (v := ?uv1) rfl rfl rfl (by kernel_rfl) (Or.inl ⟨by rfl, ?uy1⟩) (hkW21) ?urest1
      case uy1 => (intro _ _; go_simp; try with_reducible rfl)
      (try simp only [sI, sS, sZ])
      refine wpBut_done (by kernel_rfl) (NoPanic.normal ?_)
      replace P0 := Lib.hid (P0.out.call hkW21)
      replace P1 := Lib.hid (P1.out.call hkW21)
      replace P5 := Lib.hid (P5.out.call hkW21)
      replace HB3 := Lib.hid (held_next HB3.out hkW21)
      clear heq
      repeat ((fail_if_success (with_reducible (show wpList _ _ _ _ _ _))); go_step)
      by_cases c2 : rt2 a * rt2 a % PP = a
      · have ht2 := fun w => rtimes_any r1 r1 Hl2.out Hl2.out w
        rw [show r1 * r1 % PP = a by rw [Hk.out]; exact c2] at ht2
        have heq := fun w => r22_same a Ha22.out w
        have C2 := Lib.hid c2; clear c2
        have Ht2 := Lib.hid ht2; clear ht2
        refine wp_region_noPanic ?_
        refine wp_region_go 99 5 #[ff,ff,ff,ff,ff] (by kernel_rfl) rfl rfl ?_
        intro W3 hW3
        rw [← hW3] at P0 P1 P5 HB3
        clear hW3
        refine go_take2 0 31 #[tt,ff,ff,ff,ff] rfl rfl rfl (by kernel_rfl) (yieldsIf_load_row (by rfl) 40 _ rfl (B5) rfl 40 (r22 r1) (fun _ h => P5.out.below h P5.out.lt) Try.underlying40 rfl (by rw [r22_size]; kernel_rfl)) ((below_dr W3)) ?_
        (try simp only [sI, sS, sZ])
        refine go_take2 1 32 #[tt,tt,ff,ff,ff] rfl rfl rfl (by kernel_rfl) (yieldsIf_load_row (by rfl) 40 _ rfl (B5) rfl 40 (r22 r1) (fun _ h => P5.out.below h P5.out.lt) Try.underlying40 rfl (by rw [r22_size]; kernel_rfl)) ((below_dr W3)) ?_
        (try simp only [sI, sS, sZ])
        refine go_take2 3 34 #[tt,tt,ff,tt,ff] rfl rfl rfl (by kernel_rfl) (yieldsIf_load_row (by rfl) 40 _ rfl (w.heap.size) rfl 40 (r22 a) (fun _ h => P0.out.below h P0.out.lt) Try.underlying40 rfl (by rw [r22_size]; kernel_rfl)) ((below_dr W3)) ?_
        (try simp only [sI, sS, sZ])
        refine wpBut_r1 (i := 2) (by kernel_rfl) ?_
        refine go_call 2 33 #[tt,tt,tt,tt,ff] rfl rfl rfl (by rfl) rfl rfl (by rfl) ent32 (by rfl) (Ht2.out _) ?_
        rintro e wW31 ⟨rfl, hb⟩
        have hkW31 := held_next (below_dr W3) hb
        refine ⟨_, rfl, fun _ => hkW31, ?_⟩
        clear hb
        (try simp only [sI, sS, sZ])
        refine go_take2 4 35 #[tt,tt,tt,tt,tt] (v := ?uv2) rfl rfl rfl (by kernel_rfl) (Or.inl ⟨by rfl, ?uy2⟩) (hkW31) ?urest2
        case uy2 => (intro _ _; go_simp; try with_reducible rfl)
        (try simp only [sI, sS, sZ])
        refine wpBut_done (by kernel_rfl) (NoPanic.normal ?_)
        replace P0 := Lib.hid (P0.out.call hkW31)
        replace P1 := Lib.hid (P1.out.call hkW31)
        replace P5 := Lib.hid (P5.out.call hkW31)
        replace HB3 := Lib.hid (held_next HB3.out hkW31)
        clear heq
        repeat ((fail_if_success (with_reducible (show wpList _ _ _ _ _ _))); go_step)
        have h1 := P5.out.cell 0 (by omega)
        have hzn := dg_nn r1 0
        by_cases c3 : r1 % 2 = 1
        · have ht := dg0_odd r1 c3
          obtain ⟨hf3, hfo⟩ := r3_odd a C2.out (by rw [← Hk.out]; exact c3)
          have hls := fun w => less_any PP r1 (Nat.le_of_lt Hl2.out) PP_lt w
          obtain ⟨z, hz⟩ : ∃ z, z = dg 4096 r1 0 := ⟨_, rfl⟩
          rw [← hz] at h1 ht hzn
          clear hz
          have C3 := Lib.hid c3; clear c3
          have Hf3 := Lib.hid hf3; clear hf3
          have Hfo := Lib.hid hfo; clear hfo
          have Hls := Lib.hid hls; clear hls
          iterate 4 (refine wpList_step (fun K hK => ?_); go_simp; (try go_bits); refine hK _ _ ?_; clear hK K)
          refine wpList_nil ?_
          clear h1 ht hzn
          repeat ((fail_if_success (with_reducible (show wpList _ _ _ _ _ _))); go_step)
          obtain ⟨g, hg⟩ : ∃ g, g = PP - r1 := ⟨_, rfl⟩
          rw [← hg] at Hls
          have Hg := Lib.hid hg; clear hg
          refine wp_region_noPanic ?_
          refine wp_region_go 3 4 #[false, false, false, false] (by kernel_rfl) rfl rfl ?_
          intro W4 hW4
          rw [← hW4] at P0 P1 P5 HB3
          clear hW4
          have P5N := Lib.hid (by first | exact P5.out | exact P5.out.toN (by first | exact e4_size _ | exact r22_size _ | exact k32_size _ | exact pt_size .. | exact rp_size ..) : HasN W4 (B5) _ _)
          refine go_take2 1 42 #[false, true, false, false] rfl rfl rfl (by kernel_rfl) (yieldsIf_load_row (by rfl) 40 _ rfl (B5) rfl 40 (r22 r1) (fun _ h => P5.out.below h P5.out.lt) Try.underlying40 rfl (by rw [r22_size]; kernel_rfl)) ((below_dr W4)) ?_
          (try simp only [sI, sS, sZ])
          refine wpBut_r1 (i := 0) (by kernel_rfl) ?_
          refine go_call 0 41 #[true, true, false, false] rfl rfl rfl (by rfl) rfl rfl (by rfl) ent82 (by rfl) (prime_any _) ?_
          rintro e wW41 ⟨rfl, hb⟩
          have hkW41 := held_next (below_dr W4) hb
          refine ⟨_, rfl, fun _ => hkW41, ?_⟩
          clear hb
          (try simp only [sI, sS, sZ])
          refine wpBut_r1 (i := 2) (by kernel_rfl) ?_
          refine go_call 2 43 #[true, true, true, false] rfl rfl rfl (by rfl) rfl rfl (by rfl) ent81 (by rfl) (Hls.out _) ?_
          rintro e wW42 ⟨rfl, hb⟩
          have hkW42 := held_next hkW41 hb
          refine ⟨_, rfl, fun _ => hkW42, ?_⟩
          clear hb
          (try simp only [sI, sS, sZ])
          refine wpBut_r1 (i := 3) (by kernel_rfl) ?_
          obtain ⟨Zq, hZ, mZ⟩ := P5N.out.below hkW42 P5N.out.lt
          have MZ := Lib.hid mZ; clear mZ
          have HZ := Lib.hid hZ; clear hZ
          refine go_store 3 #[true, true, true, true] rfl rfl rfl (by rfl) 40 _ _ rfl (B5) _ rfl rfl 40 Zq MZ.out (by rw [r22_size]; kernel_rfl) (HZ.out.trans (r22_size ..).symm) (row_one _ _ _) ⟨fun h => (h rfl).elim, ?_⟩
          (try simp only [sI, sS, sZ])
          refine wpBut_done (by kernel_rfl) (NoPanic.normal ?_)
          replace P0 := Lib.hid ((P0.out.call hkW42).setRow_other (B5) (r22 g) (by omega))
          replace P1 := Lib.hid ((P1.out.call hkW42).setRow_other (B5) (r22 g) (by omega))
          clear P5 P5N
          have P5 := Lib.hid (MZ.out.setRow (r22 g)); clear MZ HZ
          replace HB3 := Lib.hid (below_setRow (held_next HB3.out hkW42) (B5) (r22 g) (by omega))
          repeat ((fail_if_success (with_reducible (show wpList _ _ _ _ _ _))); go_step)
          refine wpList_load (by rfl) 40 _ rfl (B5) rfl 40 (r22 g) P5.out Try.underlying40 rfl (by rw [r22_size]; kernel_rfl) 44 rfl ?_
          (try simp only [Act.put, sI, sS, sZ])
          first | (obtain ⟨Zq, hZ, mZ⟩ := P1.out) | (obtain ⟨Zq, hZ, mZ⟩ := P1.out.toN (r22_size _))
          clear P1
          have hZ' := Lib.hid hZ; clear hZ
          have mZ' := Lib.hid mZ; clear mZ
          refine wpList_store_row rfl 40 _ _ rfl (w.heap.size + 1) _ rfl rfl 40 Zq mZ'.out (by rw [r22_size]; kernel_rfl) (hZ'.out.trans (r22_size _).symm) (row_one _ _ _) ?_
          (try simp only [Act.put, sI, sS, sZ])
          replace P0 := Lib.hid (P0.out.setRow_other (w.heap.size + 1) (r22 g) (by omega))
          replace P5 := Lib.hid (P5.out.setRow_other (w.heap.size + 1) (r22 g) (by omega))
          have P1 := Lib.hid (mZ'.out.setRow (r22 g))
          clear mZ' hZ'
          replace HB3 := Lib.hid (below_setRow HB3.out (w.heap.size + 1) (r22 g) (by omega))
          (refine wpList_step (fun K hK => ?_); go_simp; (try go_bits); refine hK _ _ ?_; clear hK K)
          refine wpList_nil ?_
          go_wp2_with fail
          exact bodyPost_ret (v := .tuple #[.agg (r22 g), .bool true]) (results_cell_tmp_row (fn := Try.f45) (p := 2) (t2 := 3) (ty := 40) (t := 40) (by rfl) _ _ (w.heap.size + 1) _ _ _ rfl P1.out Try.underlying40 rfl (by rw [r22_size]; kernel_rfl)) rfl ⟨by rw [Hf3.out, Hfo.out, Hg.out, Hk.out], HB3.out⟩
        · have ht := dg0_even r1 c3
          obtain ⟨hf3, hfo⟩ := r3_even a C2.out (by rw [← Hk.out]; exact c3)
          obtain ⟨z, hz⟩ : ∃ z, z = dg 4096 r1 0 := ⟨_, rfl⟩
          rw [← hz] at h1 ht hzn
          clear hz
          have C3 := Lib.hid c3; clear c3
          have Hf3 := Lib.hid hf3; clear hf3
          have Hfo := Lib.hid hfo; clear hfo
          iterate 4 (refine wpList_step (fun K hK => ?_); go_simp; (try go_bits); refine hK _ _ ?_; clear hK K)
          refine wpList_nil ?_
          clear h1 ht hzn
          repeat ((fail_if_success (with_reducible (show wpList _ _ _ _ _ _))); go_step)
          refine wpList_load (by rfl) 40 _ rfl (B5) rfl 40 (r22 r1) P5.out Try.underlying40 rfl (by rw [r22_size]; kernel_rfl) 44 rfl ?_
          (try simp only [Act.put, sI, sS, sZ])
          first | (obtain ⟨Zq, hZ, mZ⟩ := P1.out) | (obtain ⟨Zq, hZ, mZ⟩ := P1.out.toN (r22_size _))
          clear P1
          have hZ' := Lib.hid hZ; clear hZ
          have mZ' := Lib.hid mZ; clear mZ
          refine wpList_store_row rfl 40 _ _ rfl (w.heap.size + 1) _ rfl rfl 40 Zq mZ'.out (by rw [r22_size]; kernel_rfl) (hZ'.out.trans (r22_size _).symm) (row_one _ _ _) ?_
          (try simp only [Act.put, sI, sS, sZ])
          replace P0 := Lib.hid (P0.out.setRow_other (w.heap.size + 1) (r22 r1) (by omega))
          replace P5 := Lib.hid (P5.out.setRow_other (w.heap.size + 1) (r22 r1) (by omega))
          have P1 := Lib.hid (mZ'.out.setRow (r22 r1))
          clear mZ' hZ'
          replace HB3 := Lib.hid (below_setRow HB3.out (w.heap.size + 1) (r22 r1) (by omega))
          (refine wpList_step (fun K hK => ?_); go_simp; (try go_bits); refine hK _ _ ?_; clear hK K)
          refine wpList_nil ?_
          go_wp2_with fail
          exact bodyPost_ret (v := .tuple #[.agg (r22 r1), .bool true]) (results_cell_tmp_row (fn := Try.f45) (p := 2) (t2 := 3) (ty := 40) (t := 40) (by rfl) _ _ (w.heap.size + 1) _ _ _ rfl P1.out Try.underlying40 rfl (by rw [r22_size]; kernel_rfl)) rfl ⟨by rw [Hf3.out, Hfo.out, Hk.out], HB3.out⟩
      · obtain ⟨hf3, hfo⟩ := r3_non a c2
        have ht2 := fun w => rtimes_any r1 r1 Hl2.out Hl2.out w
        have hne : ¬ r1 * r1 % PP = a := by rw [Hk.out]; exact c2
        have hs2 : r1 * r1 % PP < PP := Nat.mod_lt _ PP_pos
        obtain ⟨s2, hs2e⟩ : ∃ s, s = r1 * r1 % PP := ⟨_, rfl⟩
        rw [← hs2e] at ht2 hne hs2
        have heq := fun w => r22_other s2 a (PPr_22 _ hs2) Ha22.out hne w
        clear hne hs2 hs2e
        have C2 := Lib.hid c2; clear c2
        have Hf3 := Lib.hid hf3; clear hf3
        have Hfo := Lib.hid hfo; clear hfo
        have Ht2 := Lib.hid ht2; clear ht2
        refine wp_region_noPanic ?_
        refine wp_region_go 99 5 #[ff,ff,ff,ff,ff] (by kernel_rfl) rfl rfl ?_
        intro W3 hW3
        rw [← hW3] at P0 P1 P5 HB3
        clear hW3
        refine go_take2 0 31 #[tt,ff,ff,ff,ff] rfl rfl rfl (by kernel_rfl) (yieldsIf_load_row (by rfl) 40 _ rfl (B5) rfl 40 (r22 r1) (fun _ h => P5.out.below h P5.out.lt) Try.underlying40 rfl (by rw [r22_size]; kernel_rfl)) ((below_dr W3)) ?_
        (try simp only [sI, sS, sZ])
        refine go_take2 1 32 #[tt,tt,ff,ff,ff] rfl rfl rfl (by kernel_rfl) (yieldsIf_load_row (by rfl) 40 _ rfl (B5) rfl 40 (r22 r1) (fun _ h => P5.out.below h P5.out.lt) Try.underlying40 rfl (by rw [r22_size]; kernel_rfl)) ((below_dr W3)) ?_
        (try simp only [sI, sS, sZ])
        refine go_take2 3 34 #[tt,tt,ff,tt,ff] rfl rfl rfl (by kernel_rfl) (yieldsIf_load_row (by rfl) 40 _ rfl (w.heap.size) rfl 40 (r22 a) (fun _ h => P0.out.below h P0.out.lt) Try.underlying40 rfl (by rw [r22_size]; kernel_rfl)) ((below_dr W3)) ?_
        (try simp only [sI, sS, sZ])
        refine wpBut_r1 (i := 2) (by kernel_rfl) ?_
        refine go_call 2 33 #[tt,tt,tt,tt,ff] rfl rfl rfl (by rfl) rfl rfl (by rfl) ent32 (by rfl) (Ht2.out _) ?_
        rintro e wW31 ⟨rfl, hb⟩
        have hkW31 := held_next (below_dr W3) hb
        refine ⟨_, rfl, fun _ => hkW31, ?_⟩
        clear hb
        (try simp only [sI, sS, sZ])
        refine go_take2 4 35 #[tt,tt,tt,tt,tt] (v := ?uv3) rfl rfl rfl (by kernel_rfl) (Or.inl ⟨by rfl, ?uy3⟩) (hkW31) ?urest3
        case uy3 => (intro _ _; go_simp; try with_reducible rfl)
        (try simp only [sI, sS, sZ])
        refine wpBut_done (by kernel_rfl) (NoPanic.normal ?_)
        replace P0 := Lib.hid (P0.out.call hkW31)
        replace P1 := Lib.hid (P1.out.call hkW31)
        replace P5 := Lib.hid (P5.out.call hkW31)
        replace HB3 := Lib.hid (held_next HB3.out hkW31)
        clear heq
        repeat ((fail_if_success (with_reducible (show wpList _ _ _ _ _ _))); go_step)
        refine wpList_step (fun K hK => ?_)
        go_simp
        (try go_bits)
        rw [Hz0.out]
        refine hK _ _ ?_
        clear hK K
        first | (obtain ⟨Zq, hZ, mZ⟩ := P1.out) | (obtain ⟨Zq, hZ, mZ⟩ := P1.out.toN (r22_size _))
        clear P1
        have hZ' := Lib.hid hZ; clear hZ
        have mZ' := Lib.hid mZ; clear mZ
        refine wpList_store_row rfl 40 _ _ rfl (w.heap.size + 1) _ rfl rfl 40 Zq mZ'.out (by rw [r22_size]; kernel_rfl) (hZ'.out.trans (r22_size _).symm) (row_one _ _ _) ?_
        (try simp only [Act.put, sI, sS, sZ])
        replace P0 := Lib.hid (P0.out.setRow_other (w.heap.size + 1) (r22 0) (by omega))
        replace P5 := Lib.hid (P5.out.setRow_other (w.heap.size + 1) (r22 0) (by omega))
        have P1 := Lib.hid (mZ'.out.setRow (r22 0))
        clear mZ' hZ'
        replace HB3 := Lib.hid (below_setRow HB3.out (w.heap.size + 1) (r22 0) (by omega))
        (refine wpList_step (fun K hK => ?_); go_simp; (try go_bits); refine hK _ _ ?_; clear hK K)
        refine wpList_nil ?_
        go_wp2_with fail
        exact bodyPost_ret (v := .tuple #[.agg (r22 0), .bool false]) (results_cell_tmp_row (fn := Try.f45) (p := 2) (t2 := 3) (ty := 40) (t := 40) (by rfl) _ _ (w.heap.size + 1) _ _ _ rfl P1.out Try.underlying40 rfl (by rw [r22_size]; kernel_rfl)) rfl ⟨by rw [Hf3.out, Hfo.out], HB3.out⟩
    · have hr2 := r2_other a c1
      have ht := fun w => rtimes_any r1 r1 Hr1.out Hr1.out w
      have hne : ¬ r1 * r1 % PP = a := by rw [Hrr.out]; exact c1
      have hs1 : r1 * r1 % PP < PP := Nat.mod_lt _ PP_pos
      obtain ⟨s1, hs⟩ : ∃ s, s = r1 * r1 % PP := ⟨_, rfl⟩
      rw [← hs] at ht hne hs1
      have heq := fun w => r22_other s1 a (PPr_22 _ hs1) Ha22.out hne w
      have k1 := fun w => rint_nn 2 (by omega) w
      have k2 := fun w => rint_nn 1 (by omega) w
      have k3 := fun w => less_any PP (1 % PP) (Nat.le_of_lt (Nat.mod_lt _ PP_pos)) PP_lt w
      have k4 := fun w => half_any (PP - 1 % PP) (Nat.lt_of_le_of_lt (Nat.sub_le _ _) PP_lt) w
      have k5 := fun w => half_any ((PP - 1 % PP) / 2) (half_lt _ (Nat.lt_of_le_of_lt (Nat.sub_le _ _) PP_lt)) w
      have k6 := fun w => rpow_any (2 % PP) ((PP - 1 % PP) / 2 / 2) (Nat.mod_lt _ PP_pos) ei_lt w
      have hti : rti < PP := pwm_lt _ _
      rw [show pwm (2 % PP) ((PP - 1 % PP) / 2 / 2) = rti from rfl] at k6
      obtain ⟨ti, hti2⟩ : ∃ x, x = rti := ⟨_, rfl⟩
      rw [← hti2] at k6 hti hr2
      have k7 := fun w => rtimes_any r1 ti Hr1.out hti w
      obtain ⟨v2, hv2⟩ : ∃ x, x = 2 % PP := ⟨_, rfl⟩
      rw [← hv2] at k1 k6
      obtain ⟨v1, hv1⟩ : ∃ x, x = 1 % PP := ⟨_, rfl⟩
      rw [← hv1] at k2 k3 k4 k5 k6
      obtain ⟨v3, hv3⟩ : ∃ x, x = PP - v1 := ⟨_, rfl⟩
      rw [← hv3] at k3 k4 k5 k6
      obtain ⟨v4, hv4⟩ : ∃ x, x = v3 / 2 := ⟨_, rfl⟩
      rw [← hv4] at k4 k5 k6
      obtain ⟨v5, hv5⟩ : ∃ x, x = v4 / 2 := ⟨_, rfl⟩
      rw [← hv5] at k5 k6
      have hk : r1 * ti % PP = rt2 a := by rw [hr2, Hrr.out]
      have hl2 : r1 * ti % PP < PP := Nat.mod_lt _ PP_pos
      obtain ⟨r2, hr2e⟩ : ∃ r, r = r1 * ti % PP := ⟨_, rfl⟩
      rw [← hr2e] at k7 hk hl2
      clear hne hs1 hs hti hr2e hv5 hv4 hv3 hv1 hv2 hti2
      have Ht := Lib.hid ht; clear ht
      have C1 := Lib.hid c1; clear c1
      have Hr2 := Lib.hid hr2; clear hr2
      have K1 := Lib.hid k1; clear k1
      have K2 := Lib.hid k2; clear k2
      have K3 := Lib.hid k3; clear k3
      have K4 := Lib.hid k4; clear k4
      have K5 := Lib.hid k5; clear k5
      have K6 := Lib.hid k6; clear k6
      have K7 := Lib.hid k7; clear k7
      have Hk := Lib.hid hk; clear hk
      have Hl2 := Lib.hid hl2; clear hl2
      refine wp_region_noPanic ?_
      refine wp_region_go 99 5 #[ff,ff,ff,ff,ff] (by kernel_rfl) rfl rfl ?_
      intro W2 hW2
      rw [← hW2] at P0 P1 P5 HB3
      clear hW2
      refine go_take2 0 17 #[tt,ff,ff,ff,ff] rfl rfl rfl (by kernel_rfl) (yieldsIf_load_row (by rfl) 40 _ rfl (B5) rfl 40 (r22 r1) (fun _ h => P5.out.below h P5.out.lt) Try.underlying40 rfl (by rw [r22_size]; kernel_rfl)) ((below_dr W2)) ?_
      (try simp only [sI, sS, sZ])
      refine go_take2 1 18 #[tt,tt,ff,ff,ff] rfl rfl rfl (by kernel_rfl) (yieldsIf_load_row (by rfl) 40 _ rfl (B5) rfl 40 (r22 r1) (fun _ h => P5.out.below h P5.out.lt) Try.underlying40 rfl (by rw [r22_size]; kernel_rfl)) ((below_dr W2)) ?_
      (try simp only [sI, sS, sZ])
      refine go_take2 3 20 #[tt,tt,ff,tt,ff] rfl rfl rfl (by kernel_rfl) (yieldsIf_load_row (by rfl) 40 _ rfl (w.heap.size) rfl 40 (r22 a) (fun _ h => P0.out.below h P0.out.lt) Try.underlying40 rfl (by rw [r22_size]; kernel_rfl)) ((below_dr W2)) ?_
      (try simp only [sI, sS, sZ])
      refine wpBut_r1 (i := 2) (by kernel_rfl) ?_
      refine go_call 2 19 #[tt,tt,tt,tt,ff] rfl rfl rfl (by rfl) rfl rfl (by rfl) ent32 (by rfl) (Ht.out _) ?_
      rintro e wW21 ⟨rfl, hb⟩
      have hkW21 := held_next (below_dr W2) hb
      refine ⟨_, rfl, fun _ => hkW21, ?_⟩
      clear hb
      (try simp only [sI, sS, sZ])
      refine go_take2 4 21 #[tt,tt,tt,tt,tt] (v := ?uv4) rfl rfl rfl (by kernel_rfl) (Or.inl ⟨by rfl, ?uy4⟩) (hkW21) ?urest4
      case uy4 => (intro _ _; go_simp; try with_reducible rfl)
      (try simp only [sI, sS, sZ])
      refine wpBut_done (by kernel_rfl) (NoPanic.normal ?_)
      replace P0 := Lib.hid (P0.out.call hkW21)
      replace P1 := Lib.hid (P1.out.call hkW21)
      replace P5 := Lib.hid (P5.out.call hkW21)
      replace HB3 := Lib.hid (held_next HB3.out hkW21)
      clear heq
      repeat ((fail_if_success (with_reducible (show wpList _ _ _ _ _ _))); go_step)
      refine wp_region_noPanic ?_
      refine wp_region_go 9 10 #[ff,ff,ff,ff,ff,ff,ff,ff,ff,ff] (by kernel_rfl) rfl rfl ?_
      intro W3 hW3
      rw [← hW3] at P0 P1 P5 HB3
      clear hW3
      have P5N := Lib.hid (by first | exact P5.out | exact P5.out.toN (by first | exact e4_size _ | exact r22_size _ | exact k32_size _ | exact pt_size .. | exact rp_size ..) : HasN W3 (B5) _ _)
      refine go_take2 0 22 #[tt,ff,ff,ff,ff,ff,ff,ff,ff,ff] rfl rfl rfl (by kernel_rfl) (yieldsIf_load_row (by rfl) 40 _ rfl (B5) rfl 40 (r22 r1) (fun _ h => P5.out.below h P5.out.lt) Try.underlying40 rfl (by rw [r22_size]; kernel_rfl)) ((below_dr W3)) ?_
      (try simp only [sI, sS, sZ])
      refine wpBut_r1 (i := 1) (by kernel_rfl) ?_
      refine go_call 1 23 #[tt,tt,ff,ff,ff,ff,ff,ff,ff,ff] rfl rfl rfl (by rfl) rfl rfl (by rfl) ent35 (by rfl) (K1.out _) ?_
      rintro e wW31 ⟨rfl, hb⟩
      have hkW31 := held_next (below_dr W3) hb
      refine ⟨_, rfl, fun _ => hkW31, ?_⟩
      clear hb
      (try simp only [sI, sS, sZ])
      refine wpBut_r1 (i := 2) (by kernel_rfl) ?_
      refine go_call 2 24 #[tt,tt,tt,ff,ff,ff,ff,ff,ff,ff] rfl rfl rfl (by rfl) rfl rfl (by rfl) ent82 (by rfl) (prime_any _) ?_
      rintro e wW32 ⟨rfl, hb⟩
      have hkW32 := held_next hkW31 hb
      refine ⟨_, rfl, fun _ => hkW32, ?_⟩
      clear hb
      (try simp only [sI, sS, sZ])
      refine wpBut_r1 (i := 3) (by kernel_rfl) ?_
      refine go_call 3 25 #[tt,tt,tt,tt,ff,ff,ff,ff,ff,ff] rfl rfl rfl (by rfl) rfl rfl (by rfl) ent35 (by rfl) (K2.out _) ?_
      rintro e wW33 ⟨rfl, hb⟩
      have hkW33 := held_next hkW32 hb
      refine ⟨_, rfl, fun _ => hkW33, ?_⟩
      clear hb
      (try simp only [sI, sS, sZ])
      refine wpBut_r1 (i := 4) (by kernel_rfl) ?_
      refine go_call 4 26 #[tt,tt,tt,tt,tt,ff,ff,ff,ff,ff] rfl rfl rfl (by rfl) rfl rfl (by rfl) ent81 (by rfl) (K3.out _) ?_
      rintro e wW34 ⟨rfl, hb⟩
      have hkW34 := held_next hkW33 hb
      refine ⟨_, rfl, fun _ => hkW34, ?_⟩
      clear hb
      (try simp only [sI, sS, sZ])
      refine wpBut_r1 (i := 5) (by kernel_rfl) ?_
      refine go_call 5 27 #[tt,tt,tt,tt,tt,tt,ff,ff,ff,ff] rfl rfl rfl (by rfl) rfl rfl (by rfl) ent86 (by rfl) (K4.out _) ?_
      rintro e wW35 ⟨rfl, hb⟩
      have hkW35 := held_next hkW34 hb
      refine ⟨_, rfl, fun _ => hkW35, ?_⟩
      clear hb
      (try simp only [sI, sS, sZ])
      refine wpBut_r1 (i := 6) (by kernel_rfl) ?_
      refine go_call 6 28 #[tt,tt,tt,tt,tt,tt,tt,ff,ff,ff] rfl rfl rfl (by rfl) rfl rfl (by rfl) ent86 (by rfl) (K5.out _) ?_
      rintro e wW36 ⟨rfl, hb⟩
      have hkW36 := held_next hkW35 hb
      refine ⟨_, rfl, fun _ => hkW36, ?_⟩
      clear hb
      (try simp only [sI, sS, sZ])
      refine wpBut_r1 (i := 7) (by kernel_rfl) ?_
      refine go_call 7 29 #[tt,tt,tt,tt,tt,tt,tt,tt,ff,ff] rfl rfl rfl (by rfl) rfl rfl (by rfl) ent85 (by rfl) (K6.out _) ?_
      rintro e wW37 ⟨rfl, hb⟩
      have hkW37 := held_next hkW36 hb
      refine ⟨_, rfl, fun _ => hkW37, ?_⟩
      clear hb
      (try simp only [sI, sS, sZ])
      refine wpBut_r1 (i := 8) (by kernel_rfl) ?_
      refine go_call 8 30 #[tt,tt,tt,tt,tt,tt,tt,tt,tt,ff] rfl rfl rfl (by rfl) rfl rfl (by rfl) ent32 (by rfl) (K7.out _) ?_
      rintro e wW38 ⟨rfl, hb⟩
      have hkW38 := held_next hkW37 hb
      refine ⟨_, rfl, fun _ => hkW38, ?_⟩
      clear hb
      (try simp only [sI, sS, sZ])
      refine wpBut_r1 (i := 9) (by kernel_rfl) ?_
      obtain ⟨Zq, hZ, mZ⟩ := P5N.out.below hkW38 P5N.out.lt
      have MZ := Lib.hid mZ; clear mZ
      have HZ := Lib.hid hZ; clear hZ
      refine go_store 9 #[tt,tt,tt,tt,tt,tt,tt,tt,tt,tt] rfl rfl rfl (by rfl) 40 _ _ rfl (B5) _ rfl rfl 40 Zq MZ.out (by rw [r22_size]; kernel_rfl) (HZ.out.trans (r22_size ..).symm) (row_one _ _ _) ⟨fun h => (h rfl).elim, ?_⟩
      (try simp only [sI, sS, sZ])
      refine wpBut_done (by kernel_rfl) (NoPanic.normal ?_)
      replace P0 := Lib.hid ((P0.out.call hkW38).setRow_other (B5) (r22 r2) (by omega))
      replace P1 := Lib.hid ((P1.out.call hkW38).setRow_other (B5) (r22 r2) (by omega))
      clear P5 P5N
      have P5 := Lib.hid (MZ.out.setRow (r22 r2)); clear MZ HZ
      replace HB3 := Lib.hid (below_setRow (held_next HB3.out hkW38) (B5) (r22 r2) (by omega))
      repeat ((fail_if_success (with_reducible (show wpList _ _ _ _ _ _))); go_step)
      by_cases c2 : rt2 a * rt2 a % PP = a
      · have ht2 := fun w => rtimes_any r2 r2 Hl2.out Hl2.out w
        rw [show r2 * r2 % PP = a by rw [Hk.out]; exact c2] at ht2
        have heq := fun w => r22_same a Ha22.out w
        have C2 := Lib.hid c2; clear c2
        have Ht2 := Lib.hid ht2; clear ht2
        refine wp_region_noPanic ?_
        refine wp_region_go 99 5 #[ff,ff,ff,ff,ff] (by kernel_rfl) rfl rfl ?_
        intro W4 hW4
        rw [← hW4] at P0 P1 P5 HB3
        clear hW4
        refine go_take2 0 31 #[tt,ff,ff,ff,ff] rfl rfl rfl (by kernel_rfl) (yieldsIf_load_row (by rfl) 40 _ rfl (B5) rfl 40 (r22 r2) (fun _ h => P5.out.below h P5.out.lt) Try.underlying40 rfl (by rw [r22_size]; kernel_rfl)) ((below_dr W4)) ?_
        (try simp only [sI, sS, sZ])
        refine go_take2 1 32 #[tt,tt,ff,ff,ff] rfl rfl rfl (by kernel_rfl) (yieldsIf_load_row (by rfl) 40 _ rfl (B5) rfl 40 (r22 r2) (fun _ h => P5.out.below h P5.out.lt) Try.underlying40 rfl (by rw [r22_size]; kernel_rfl)) ((below_dr W4)) ?_
        (try simp only [sI, sS, sZ])
        refine go_take2 3 34 #[tt,tt,ff,tt,ff] rfl rfl rfl (by kernel_rfl) (yieldsIf_load_row (by rfl) 40 _ rfl (w.heap.size) rfl 40 (r22 a) (fun _ h => P0.out.below h P0.out.lt) Try.underlying40 rfl (by rw [r22_size]; kernel_rfl)) ((below_dr W4)) ?_
        (try simp only [sI, sS, sZ])
        refine wpBut_r1 (i := 2) (by kernel_rfl) ?_
        refine go_call 2 33 #[tt,tt,tt,tt,ff] rfl rfl rfl (by rfl) rfl rfl (by rfl) ent32 (by rfl) (Ht2.out _) ?_
        rintro e wW41 ⟨rfl, hb⟩
        have hkW41 := held_next (below_dr W4) hb
        refine ⟨_, rfl, fun _ => hkW41, ?_⟩
        clear hb
        (try simp only [sI, sS, sZ])
        refine go_take2 4 35 #[tt,tt,tt,tt,tt] (v := ?uv5) rfl rfl rfl (by kernel_rfl) (Or.inl ⟨by rfl, ?uy5⟩) (hkW41) ?urest5
        case uy5 => (intro _ _; go_simp; try with_reducible rfl)
        (try simp only [sI, sS, sZ])
        refine wpBut_done (by kernel_rfl) (NoPanic.normal ?_)
        replace P0 := Lib.hid (P0.out.call hkW41)
        replace P1 := Lib.hid (P1.out.call hkW41)
        replace P5 := Lib.hid (P5.out.call hkW41)
        replace HB3 := Lib.hid (held_next HB3.out hkW41)
        clear heq
        repeat ((fail_if_success (with_reducible (show wpList _ _ _ _ _ _))); go_step)
        have h1 := P5.out.cell 0 (by omega)
        have hzn := dg_nn r2 0
        by_cases c3 : r2 % 2 = 1
        · have ht := dg0_odd r2 c3
          obtain ⟨hf3, hfo⟩ := r3_odd a C2.out (by rw [← Hk.out]; exact c3)
          have hls := fun w => less_any PP r2 (Nat.le_of_lt Hl2.out) PP_lt w
          obtain ⟨z, hz⟩ : ∃ z, z = dg 4096 r2 0 := ⟨_, rfl⟩
          rw [← hz] at h1 ht hzn
          clear hz
          have C3 := Lib.hid c3; clear c3
          have Hf3 := Lib.hid hf3; clear hf3
          have Hfo := Lib.hid hfo; clear hfo
          have Hls := Lib.hid hls; clear hls
          iterate 4 (refine wpList_step (fun K hK => ?_); go_simp; (try go_bits); refine hK _ _ ?_; clear hK K)
          refine wpList_nil ?_
          clear h1 ht hzn
          repeat ((fail_if_success (with_reducible (show wpList _ _ _ _ _ _))); go_step)
          obtain ⟨g, hg⟩ : ∃ g, g = PP - r2 := ⟨_, rfl⟩
          rw [← hg] at Hls
          have Hg := Lib.hid hg; clear hg
          refine wp_region_noPanic ?_
          refine wp_region_go 3 4 #[false, false, false, false] (by kernel_rfl) rfl rfl ?_
          intro W5 hW5
          rw [← hW5] at P0 P1 P5 HB3
          clear hW5
          have P5N := Lib.hid (by first | exact P5.out | exact P5.out.toN (by first | exact e4_size _ | exact r22_size _ | exact k32_size _ | exact pt_size .. | exact rp_size ..) : HasN W5 (B5) _ _)
          refine go_take2 1 42 #[false, true, false, false] rfl rfl rfl (by kernel_rfl) (yieldsIf_load_row (by rfl) 40 _ rfl (B5) rfl 40 (r22 r2) (fun _ h => P5.out.below h P5.out.lt) Try.underlying40 rfl (by rw [r22_size]; kernel_rfl)) ((below_dr W5)) ?_
          (try simp only [sI, sS, sZ])
          refine wpBut_r1 (i := 0) (by kernel_rfl) ?_
          refine go_call 0 41 #[true, true, false, false] rfl rfl rfl (by rfl) rfl rfl (by rfl) ent82 (by rfl) (prime_any _) ?_
          rintro e wW51 ⟨rfl, hb⟩
          have hkW51 := held_next (below_dr W5) hb
          refine ⟨_, rfl, fun _ => hkW51, ?_⟩
          clear hb
          (try simp only [sI, sS, sZ])
          refine wpBut_r1 (i := 2) (by kernel_rfl) ?_
          refine go_call 2 43 #[true, true, true, false] rfl rfl rfl (by rfl) rfl rfl (by rfl) ent81 (by rfl) (Hls.out _) ?_
          rintro e wW52 ⟨rfl, hb⟩
          have hkW52 := held_next hkW51 hb
          refine ⟨_, rfl, fun _ => hkW52, ?_⟩
          clear hb
          (try simp only [sI, sS, sZ])
          refine wpBut_r1 (i := 3) (by kernel_rfl) ?_
          obtain ⟨Zq, hZ, mZ⟩ := P5N.out.below hkW52 P5N.out.lt
          have MZ := Lib.hid mZ; clear mZ
          have HZ := Lib.hid hZ; clear hZ
          refine go_store 3 #[true, true, true, true] rfl rfl rfl (by rfl) 40 _ _ rfl (B5) _ rfl rfl 40 Zq MZ.out (by rw [r22_size]; kernel_rfl) (HZ.out.trans (r22_size ..).symm) (row_one _ _ _) ⟨fun h => (h rfl).elim, ?_⟩
          (try simp only [sI, sS, sZ])
          refine wpBut_done (by kernel_rfl) (NoPanic.normal ?_)
          replace P0 := Lib.hid ((P0.out.call hkW52).setRow_other (B5) (r22 g) (by omega))
          replace P1 := Lib.hid ((P1.out.call hkW52).setRow_other (B5) (r22 g) (by omega))
          clear P5 P5N
          have P5 := Lib.hid (MZ.out.setRow (r22 g)); clear MZ HZ
          replace HB3 := Lib.hid (below_setRow (held_next HB3.out hkW52) (B5) (r22 g) (by omega))
          repeat ((fail_if_success (with_reducible (show wpList _ _ _ _ _ _))); go_step)
          refine wpList_load (by rfl) 40 _ rfl (B5) rfl 40 (r22 g) P5.out Try.underlying40 rfl (by rw [r22_size]; kernel_rfl) 44 rfl ?_
          (try simp only [Act.put, sI, sS, sZ])
          first | (obtain ⟨Zq, hZ, mZ⟩ := P1.out) | (obtain ⟨Zq, hZ, mZ⟩ := P1.out.toN (r22_size _))
          clear P1
          have hZ' := Lib.hid hZ; clear hZ
          have mZ' := Lib.hid mZ; clear mZ
          refine wpList_store_row rfl 40 _ _ rfl (w.heap.size + 1) _ rfl rfl 40 Zq mZ'.out (by rw [r22_size]; kernel_rfl) (hZ'.out.trans (r22_size _).symm) (row_one _ _ _) ?_
          (try simp only [Act.put, sI, sS, sZ])
          replace P0 := Lib.hid (P0.out.setRow_other (w.heap.size + 1) (r22 g) (by omega))
          replace P5 := Lib.hid (P5.out.setRow_other (w.heap.size + 1) (r22 g) (by omega))
          have P1 := Lib.hid (mZ'.out.setRow (r22 g))
          clear mZ' hZ'
          replace HB3 := Lib.hid (below_setRow HB3.out (w.heap.size + 1) (r22 g) (by omega))
          (refine wpList_step (fun K hK => ?_); go_simp; (try go_bits); refine hK _ _ ?_; clear hK K)
          refine wpList_nil ?_
          go_wp2_with fail
          exact bodyPost_ret (v := .tuple #[.agg (r22 g), .bool true]) (results_cell_tmp_row (fn := Try.f45) (p := 2) (t2 := 3) (ty := 40) (t := 40) (by rfl) _ _ (w.heap.size + 1) _ _ _ rfl P1.out Try.underlying40 rfl (by rw [r22_size]; kernel_rfl)) rfl ⟨by rw [Hf3.out, Hfo.out, Hg.out, Hk.out], HB3.out⟩
        · have ht := dg0_even r2 c3
          obtain ⟨hf3, hfo⟩ := r3_even a C2.out (by rw [← Hk.out]; exact c3)
          obtain ⟨z, hz⟩ : ∃ z, z = dg 4096 r2 0 := ⟨_, rfl⟩
          rw [← hz] at h1 ht hzn
          clear hz
          have C3 := Lib.hid c3; clear c3
          have Hf3 := Lib.hid hf3; clear hf3
          have Hfo := Lib.hid hfo; clear hfo
          iterate 4 (refine wpList_step (fun K hK => ?_); go_simp; (try go_bits); refine hK _ _ ?_; clear hK K)
          refine wpList_nil ?_
          clear h1 ht hzn
          repeat ((fail_if_success (with_reducible (show wpList _ _ _ _ _ _))); go_step)
          refine wpList_load (by rfl) 40 _ rfl (B5) rfl 40 (r22 r2) P5.out Try.underlying40 rfl (by rw [r22_size]; kernel_rfl) 44 rfl ?_
          (try simp only [Act.put, sI, sS, sZ])
          first | (obtain ⟨Zq, hZ, mZ⟩ := P1.out) | (obtain ⟨Zq, hZ, mZ⟩ := P1.out.toN (r22_size _))
          clear P1
          have hZ' := Lib.hid hZ; clear hZ
          have mZ' := Lib.hid mZ; clear mZ
          refine wpList_store_row rfl 40 _ _ rfl (w.heap.size + 1) _ rfl rfl 40 Zq mZ'.out (by rw [r22_size]; kernel_rfl) (hZ'.out.trans (r22_size _).symm) (row_one _ _ _) ?_
          (try simp only [Act.put, sI, sS, sZ])
          replace P0 := Lib.hid (P0.out.setRow_other (w.heap.size + 1) (r22 r2) (by omega))
          replace P5 := Lib.hid (P5.out.setRow_other (w.heap.size + 1) (r22 r2) (by omega))
          have P1 := Lib.hid (mZ'.out.setRow (r22 r2))
          clear mZ' hZ'
          replace HB3 := Lib.hid (below_setRow HB3.out (w.heap.size + 1) (r22 r2) (by omega))
          (refine wpList_step (fun K hK => ?_); go_simp; (try go_bits); refine hK _ _ ?_; clear hK K)
          refine wpList_nil ?_
          go_wp2_with fail
          exact bodyPost_ret (v := .tuple #[.agg (r22 r2), .bool true]) (results_cell_tmp_row (fn := Try.f45) (p := 2) (t2 := 3) (ty := 40) (t := 40) (by rfl) _ _ (w.heap.size + 1) _ _ _ rfl P1.out Try.underlying40 rfl (by rw [r22_size]; kernel_rfl)) rfl ⟨by rw [Hf3.out, Hfo.out, Hk.out], HB3.out⟩
      · obtain ⟨hf3, hfo⟩ := r3_non a c2
        have ht2 := fun w => rtimes_any r2 r2 Hl2.out Hl2.out w
        have hne : ¬ r2 * r2 % PP = a := by rw [Hk.out]; exact c2
        have hs2 : r2 * r2 % PP < PP := Nat.mod_lt _ PP_pos
        obtain ⟨s2, hs2e⟩ : ∃ s, s = r2 * r2 % PP := ⟨_, rfl⟩
        rw [← hs2e] at ht2 hne hs2
        have heq := fun w => r22_other s2 a (PPr_22 _ hs2) Ha22.out hne w
        clear hne hs2 hs2e
        have C2 := Lib.hid c2; clear c2
        have Hf3 := Lib.hid hf3; clear hf3
        have Hfo := Lib.hid hfo; clear hfo
        have Ht2 := Lib.hid ht2; clear ht2
        refine wp_region_noPanic ?_
        refine wp_region_go 99 5 #[ff,ff,ff,ff,ff] (by kernel_rfl) rfl rfl ?_
        intro W4 hW4
        rw [← hW4] at P0 P1 P5 HB3
        clear hW4
        refine go_take2 0 31 #[tt,ff,ff,ff,ff] rfl rfl rfl (by kernel_rfl) (yieldsIf_load_row (by rfl) 40 _ rfl (B5) rfl 40 (r22 r2) (fun _ h => P5.out.below h P5.out.lt) Try.underlying40 rfl (by rw [r22_size]; kernel_rfl)) ((below_dr W4)) ?_
        (try simp only [sI, sS, sZ])
        refine go_take2 1 32 #[tt,tt,ff,ff,ff] rfl rfl rfl (by kernel_rfl) (yieldsIf_load_row (by rfl) 40 _ rfl (B5) rfl 40 (r22 r2) (fun _ h => P5.out.below h P5.out.lt) Try.underlying40 rfl (by rw [r22_size]; kernel_rfl)) ((below_dr W4)) ?_
        (try simp only [sI, sS, sZ])
        refine go_take2 3 34 #[tt,tt,ff,tt,ff] rfl rfl rfl (by kernel_rfl) (yieldsIf_load_row (by rfl) 40 _ rfl (w.heap.size) rfl 40 (r22 a) (fun _ h => P0.out.below h P0.out.lt) Try.underlying40 rfl (by rw [r22_size]; kernel_rfl)) ((below_dr W4)) ?_
        (try simp only [sI, sS, sZ])
        refine wpBut_r1 (i := 2) (by kernel_rfl) ?_
        refine go_call 2 33 #[tt,tt,tt,tt,ff] rfl rfl rfl (by rfl) rfl rfl (by rfl) ent32 (by rfl) (Ht2.out _) ?_
        rintro e wW41 ⟨rfl, hb⟩
        have hkW41 := held_next (below_dr W4) hb
        refine ⟨_, rfl, fun _ => hkW41, ?_⟩
        clear hb
        (try simp only [sI, sS, sZ])
        refine go_take2 4 35 #[tt,tt,tt,tt,tt] (v := ?uv6) rfl rfl rfl (by kernel_rfl) (Or.inl ⟨by rfl, ?uy6⟩) (hkW41) ?urest6
        case uy6 => (intro _ _; go_simp; try with_reducible rfl)
        (try simp only [sI, sS, sZ])
        refine wpBut_done (by kernel_rfl) (NoPanic.normal ?_)
        replace P0 := Lib.hid (P0.out.call hkW41)
        replace P1 := Lib.hid (P1.out.call hkW41)
        replace P5 := Lib.hid (P5.out.call hkW41)
        replace HB3 := Lib.hid (held_next HB3.out hkW41)
        clear heq
        repeat ((fail_if_success (with_reducible (show wpList _ _ _ _ _ _))); go_step)
        refine wpList_step (fun K hK => ?_)
        go_simp
        (try go_bits)
        rw [Hz0.out]
        refine hK _ _ ?_
        clear hK K
        first | (obtain ⟨Zq, hZ, mZ⟩ := P1.out) | (obtain ⟨Zq, hZ, mZ⟩ := P1.out.toN (r22_size _))
        clear P1
        have hZ' := Lib.hid hZ; clear hZ
        have mZ' := Lib.hid mZ; clear mZ
        refine wpList_store_row rfl 40 _ _ rfl (w.heap.size + 1) _ rfl rfl 40 Zq mZ'.out (by rw [r22_size]; kernel_rfl) (hZ'.out.trans (r22_size _).symm) (row_one _ _ _) ?_
        (try simp only [Act.put, sI, sS, sZ])
        replace P0 := Lib.hid (P0.out.setRow_other (w.heap.size + 1) (r22 0) (by omega))
        replace P5 := Lib.hid (P5.out.setRow_other (w.heap.size + 1) (r22 0) (by omega))
        have P1 := Lib.hid (mZ'.out.setRow (r22 0))
        clear mZ' hZ'
        replace HB3 := Lib.hid (below_setRow HB3.out (w.heap.size + 1) (r22 0) (by omega))
        (refine wpList_step (fun K hK => ?_); go_simp; (try go_bits); refine hK _ _ ?_; clear hK K)
        refine wpList_nil ?_
        go_wp2_with fail
        exact bodyPost_ret (v := .tuple #[.agg (r22 0), .bool false]) (results_cell_tmp_row (fn := Try.f45) (p := 2) (t2 := 3) (ty := 40) (t := 40) (by rfl) _ _ (w.heap.size + 1) _ _ _ rfl P1.out Try.underlying40 rfl (by rw [r22_size]; kernel_rfl)) rfl ⟨by rw [Hf3.out, Hfo.out], HB3.out⟩
end Go.Proofs.Ytjiagjonlcadiaa
end
section
namespace Go.Proofs.Ytjiagjonlcadiaa
open Go.RowKit Go.Lib

/-- the words of a number -/
def e4 (n : Nat) : Array Value := row .u64 4 (dg 18446744073709551616 n)
theorem e4_size (n : Nat) : (e4 n).size = 4 := row_size _ _ _
/-- an element that is r modulo the prime -/
def ElP (r : Nat) (w : World) (e : Ending) (w' : World) : Prop := ∃ m : Nat, m < 115792089237316195423570985008687907853269984665640564039457584007913129639936 ∧ m % PP = r ∧ e = .returned (.agg (e4 m)) ∧ Below w.heap.size w w'

theorem w_nn (n i : Nat) : 0 ≤ dg 18446744073709551616 n i := (dg_bd _ n i (by decide)).1
theorem w_lt (n i : Nat) : dg 18446744073709551616 n i < 18446744073709551616 := (dg_bd _ n i (by decide)).2
theorem p64_4 : (18446744073709551616 : Int) ^ 4 = 115792089237316195423570985008687907853269984665640564039457584007913129639936 := by decide +kernel
theorem n64_4 : (18446744073709551616 : Nat) ^ 4 = 115792089237316195423570985008687907853269984665640564039457584007913129639936 := by decide +kernel
theorem sum4 (n : Nat) (h : n < 115792089237316195423570985008687907853269984665640564039457584007913129639936) : sumf 18446744073709551616 (dg 18446744073709551616 n) 4 = n := by
  have := sumf_dg 18446744073709551616 n 4
  rw [n64_4, Nat.mod_eq_of_lt h] at this
  exact this
/-- four words are a number's -/
theorem e4_of (h : Nat → Int) (hd : ∀ j, j < 4 → 0 ≤ h j ∧ h j < 18446744073709551616) : ∃ m : Nat, m < 115792089237316195423570985008687907853269984665640564039457584007913129639936 ∧ row .u64 4 h = e4 m ∧ sumf 18446744073709551616 h 4 = m := by
  have h0 := sumf_nonneg 18446744073709551616 (by decide) h 4 (fun i hi => (hd i hi).1)
  have h1 := sumf_lt 18446744073709551616 (by decide) h 4 (fun i hi => (hd i hi).2)
  rw [p64_4] at h1
  obtain ⟨m, hm⟩ := Int.eq_ofNat_of_zero_le h0
  refine ⟨m, by omega, row_ext _ _ _ _ (sumf_uniq 18446744073709551616 h m 4 hd hm), hm⟩
theorem mod38 (A A' o o' : Nat) (h : A' + o' * 115792089237316195423570985008687907853269984665640564039457584007913129639936 = A + 38 * o) : (A' + o' * 115792089237316195423570985008687907853269984665640564039457584007913129639936) % PP = (A + o * 115792089237316195423570985008687907853269984665640564039457584007913129639936) % PP := by
  have e : 115792089237316195423570985008687907853269984665640564039457584007913129639936 = 38 + 2 * PP := by decide +kernel
  rw [h, e, Nat.mul_add, ← Nat.add_assoc, show o * (2 * PP) = PP * (2 * o) by ac_rfl, Nat.add_mul_mod_self_left, Nat.mul_comm 38 o]
theorem fold_step (S D g c r q : Int) (F : Int) (h : S + c * D = F) (hr : g + c = r + 18446744073709551616 * q) : (S + r * D) + q * (D * 18446744073709551616) = F + g * D := by
  have : g = r + 18446744073709551616 * q - c := by omega
  subst this; grind

set_option maxRecDepth 100000 in
set_option maxHeartbeats 2000000 in
theorem fold_any (n o : Nat) (hn : n < 115792089237316195423570985008687907853269984665640564039457584007913129639936) (ho : o < 18446744073709551616) (w : World) :
    Calls Try.prog 77 #[.agg (e4 n), .int .u64 o] w (ElP ((n + o * 115792089237316195423570985008687907853269984665640564039457584007913129639936) % PP) w) := by
  obtain ⟨r, hr⟩ : ∃ r, r = (n + o * 115792089237316195423570985008687907853269984665640564039457584007913129639936) % PP := ⟨_, rfl⟩
  rw [← hr]
  have Hn := Lib.hid hn; clear hn
  have Ho := Lib.hid ho; clear ho
  have Hr := Lib.hid hr; clear hr
  go_enter Try.func77, Try.ntmps77
  go_wp2_with fail
  go_loopg [1] (n + o * 115792089237316195423570985008687907853269984665640564039457584007913129639936) (fun gk s wr => ∃ A ov : Nat, gk = A + ov * 115792089237316195423570985008687907853269984665640564039457584007913129639936 ∧ gk % PP = r ∧ A < 115792089237316195423570985008687907853269984665640564039457584007913129639936 ∧ ov < 18446744073709551616 ∧ s = .int .u64 ov ∧ Has wr w.heap.size (e4 A) 36 ∧ HasN wr (w.heap.size + 1) 4 36 ∧ Below w.heap.size w wr)
  case atStart => exact ⟨n, o, rfl, Hr.out.symm, Hn.out, Ho.out, rfl, (Has.new _ _ _).alloc _, HasN.new1 _ _ _ _ 4 rfl, below_2 _ _ _⟩
  case round =>
    obtain ⟨A, ov, hgk, hmod, hA, hov, rfl, m0, m1, hB⟩ := hrel
    by_cases hz : 0 < ov
    · have hdec : (A : Int) = sumf 18446744073709551616 (dg 18446744073709551616 A) 4 := (sum4 A hA).symm
      have hm := fun w => mul64 (ov : Int) 38 (by omega) (by omega) (by omega) (by omega) w
      obtain ⟨hi, hhi⟩ : ∃ x : Int, x = (ov : Int) * 38 / 18446744073709551616 := ⟨_, rfl⟩
      obtain ⟨lo, hlo⟩ : ∃ x : Int, x = (ov : Int) * 38 % 18446744073709551616 := ⟨_, rfl⟩
      rw [← hhi, ← hlo] at hm
      have hi0 : 0 ≤ hi := by omega
      have hi1 : hi ≤ 37 := by omega
      have lo0 : 0 ≤ lo := by omega
      have lo1 : lo < 18446744073709551616 := by omega
      have hsplit : lo + hi * 18446744073709551616 = 38 * (ov : Int) := by omega
      have M0 := Lib.hid m0; clear m0
      have M1 := Lib.hid m1; clear m1
      have Hgk := Lib.hid hgk; clear hgk
      have Hmod := Lib.hid hmod; clear hmod
      have HA := Lib.hid hA; clear hA
      have Hdec := Lib.hid hdec; clear hdec
      have Hm := Lib.hid hm; clear hm
      have Hsplit := Lib.hid hsplit; clear hsplit
      clear hhi hlo
      go_wp2_with fail
      refine (Hm.out _).mono ?_
      rintro e w2 ⟨rfl, rfl⟩
      go_wp2_with fail
      obtain ⟨w3, rfl⟩ : ∃ w3 : World, w3 = wr := ⟨_, rfl⟩
      go_loopw [6, 15] (fun s i wr => ∃ (k : Nat) (h : Nat → Int) (c : Int), k ≤ 4 ∧ i = .int .i64 k ∧ s = .int .u64 c ∧ 0 ≤ c ∧ c < 18446744073709551616 ∧ (1 ≤ k → c ≤ 38) ∧ (∀ j, j < k → 0 ≤ h j ∧ h j < 18446744073709551616) ∧ (∀ j, k ≤ j → h j = dg 18446744073709551616 A j) ∧ sumf 18446744073709551616 h k + c * 18446744073709551616 ^ k = sumf 18446744073709551616 (dg 18446744073709551616 A) k + (if k = 0 then lo else 38 * (ov : Int)) ∧ Has wr w.heap.size (row .u64 4 h) 36 ∧ HasN wr (w.heap.size + 1) 4 36 ∧ Below w.heap.size w wr) (fun _ i _ => 4 - (intOf i).toNat)
      case atStart => exact ⟨0, dg 18446744073709551616 A, lo, by omega, rfl, rfl, lo0, lo1, fun h => by omega, fun j hj => by omega, fun _ _ => rfl, by simp [sumf], M0.out, M1.out, hB⟩
      case round =>
        clear M0 M1 hB
        obtain ⟨k, h, c, hk, rfl, rfl, c0, c1, hc, hd, hg, hs, m0, m1, hB⟩ := hrel
        have M0 := Lib.hid m0; clear m0
        have M1 := Lib.hid m1; clear m1
        have Hc := Lib.hid hc; clear hc
        have Hd := Lib.hid hd; clear hd
        have Hg := Lib.hid hg; clear hg
        have Hs := Lib.hid hs; clear hs
        by_cases hlt : k < 4
        · have h1 := M0.out.cell k hlt
          have hfz := M0.out.frozen k
          have x0 := w_nn A k
          have x1 := w_lt A k
          rw [Hg.out k (Nat.le_refl _)] at h1
          obtain ⟨x, hx⟩ : ∃ x, x = dg 18446744073709551616 A k := ⟨_, rfl⟩
          rw [← hx] at h1 x0 x1
          have ka := fun w => add64_0 x c x0 c0 w
          obtain ⟨s, hss⟩ : ∃ s, s = (x + c) % 18446744073709551616 := ⟨_, rfl⟩
          obtain ⟨d, hdd⟩ : ∃ d, d = (x + c) / 18446744073709551616 := ⟨_, rfl⟩
          rw [← hss, ← hdd] at ka
          have s0 : 0 ≤ s := by omega
          have s1 : s < 18446744073709551616 := by omega
          have d0 : 0 ≤ d := by omega
          have d1 : d ≤ 1 := by omega
          have hsum : x + c = s + 18446744073709551616 * d := by omega
          have Hx := Lib.hid hx; clear hx
          have Hsum := Lib.hid hsum; clear hsum
          clear hss hdd
          by_cases hk0 : k = 0
          · subst hk0
            go_wp2_with fail
            go_roundw
            case measure => simp [intOf]
            case rel =>
              refine ⟨1, upd h 0 s, d + hi, by omega, by go_num, rfl, by omega, by omega, fun _ => by omega, ?_, ?_, ?_, M0.out.set _ _, M1.out.other _ _ (by simp <;> omega), by first | exact hB.setCell (Nat.le_refl _) _ | exact (hB.setCell (Nat.le_refl _) _).drew⟩
              · intro j hj
                obtain rfl : j = 0 := by omega
                rw [upd_same]; exact ⟨s0, s1⟩
              · intro j hj; rw [upd_ne _ _ _ _ (by omega)]; exact Hg.out j (by omega)
              · have := Hsum.out
                have h3 := Hsplit.out
                have h4 := Hs.out
                simp only [sumf, upd_same, Int.pow_zero, Int.mul_one, Int.zero_add, if_true, Int.pow_one] at h4 ⊢
                rw [if_neg (by decide), ← Hx.out]
                omega
          · have ht : ((k : Int) == 0) = false := by simp; omega
            go_wp2_with fail
            go_roundw
            case measure => simp [intOf]; omega
            case rel =>
              refine ⟨k + 1, upd h k s, d, by omega, by go_num, rfl, by omega, by omega, fun _ => by omega, ?_, ?_, ?_, M0.out.set _ _, M1.out.other _ _ (by simp <;> omega), by first | exact hB.setCell (Nat.le_refl _) _ | exact (hB.setCell (Nat.le_refl _) _).drew⟩
              · intro j hj
                by_cases e : j = k
                · subst e; rw [upd_same]; exact ⟨s0, s1⟩
                · rw [upd_ne _ _ _ _ e]; exact Hd.out j (by omega)
              · intro j hj; rw [upd_ne _ _ _ _ (by omega)]; exact Hg.out j (by omega)
              · have h4 := Hs.out
                rw [if_neg hk0] at h4
                rw [if_neg (by omega)]
                simp only [sumf]
                rw [sumf_upd_above _ _ _ _ _ (Nat.le_refl _), upd_same, ← Hx.out, Int.pow_succ]
                have := fold_step _ _ x _ _ _ _ h4 Hsum.out
                omega
        · obtain rfl : k = 4 := by omega
          obtain ⟨A', hA', hrow, hsum⟩ := e4_of h Hd.out
          have hs4 := Hs.out
          rw [hsum, ← Hdec.out, if_neg (by omega), p64_4] at hs4
          have m0 := M0.out
          rw [hrow] at m0
          have hc38 := Hc.out (by omega)
          obtain ⟨o', rfl⟩ := Int.eq_ofNat_of_zero_le c0
          have hnum : A' + o' * 115792089237316195423570985008687907853269984665640564039457584007913129639936 = A + 38 * ov := by omega
          have hmod2 : (A' + o' * 115792089237316195423570985008687907853269984665640564039457584007913129639936) % PP = r := by rw [mod38 A A' ov o' hnum, ← Hgk.out]; exact Hmod.out
          have hms : A' + o' * 115792089237316195423570985008687907853269984665640564039457584007913129639936 < gk := by rw [Hgk.out]; omega
          have M0 := Lib.hid m0; clear m0
          have Hmod2 := Lib.hid hmod2; clear hmod2
          have Hms := Lib.hid hms; clear hms
          have HA' := Lib.hid hA'; clear hA'
          clear hrow hsum hs4 hnum
          go_wp2_with fail
          go_roundg (A' + o' * 115792089237316195423570985008687907853269984665640564039457584007913129639936)
          case measure => exact Hms.out
          case rel => exact ⟨A', o', rfl, Hmod2.out, HA'.out, by omega, rfl, M0.out, M1.out, hB⟩
    · obtain rfl : ov = 0 := by omega
      have hfin : A % PP = r := by rw [← hmod, hgk, Nat.zero_mul, Nat.add_zero]
      obtain ⟨Z, hZ, mz⟩ := m1
      have HBB := Lib.hid (below_setRow hB (w.heap.size + 1) (e4 A) (by omega))
      have M0 := Lib.hid m0; clear m0
      have Mz := Lib.hid mz; clear mz
      have HZ := Lib.hid hZ; clear hZ
      have Hfin := Lib.hid hfin; clear hfin
      have HA := Lib.hid hA; clear hA
      clear hmod hgk hov
      go_wp2_with (first | (refine wpList_load_row rfl 36 _ rfl (w.heap.size) rfl 36 (e4 A) (0, 0) _ M0.out Try.underlying36 rfl (by rw [e4_size]; kernel_rfl) ?_) | (refine wpList_store_row rfl 36 _ _ rfl (w.heap.size + 1) _ rfl rfl 36 Z Mz.out (by rw [e4_size]; kernel_rfl) (HZ.out.trans (e4_size _).symm) (row_one _ _ _) ?_))
      exact bodyPost_ret (v := .agg (e4 A)) (results_cell_row (t := 36) (by rfl) _ _ (w.heap.size + 1) _ _ _ rfl (Mz.out.setRow _) Try.underlying36 rfl (by rw [e4_size]; kernel_rfl)) rfl ⟨A, HA.out, Hfin.out, rfl, HBB.out⟩
end Go.Proofs.Ytjiagjonlcadiaa
end
