/- Symbolic steps, ninth part: rows of bytes are held against each other. -/
import Derived.Test.YtpegkoklmhccjaaDoorSxI
import Derived.Laws.StructEq
import Derived.Laws.Rows
import Derived.Lib.UnsafeStr
namespace Go.Sx
open Go Go.RowKit
set_option linter.unusedVariables false
section
variable {P : Program}
theorem eql_ints (t e : TypeId) (n : Nat) (kd : IntKind) (ht : P.underlying t = some (.array n e)) (he : P.underlying e = some (.int kd)) (hz : sizeIs P e 1 = true) (c d : Array Value) (f g : Nat → Int)
    (hc : ∀ i, i < n → c[i]? = some (.int kd (f i))) (hd : ∀ i, i < n → d[i]? = some (.int kd (g i))) (k : Nat) (w : World) :
    (Op.equalIn (k + 2) t (.agg c) (.agg d)).run P w = .ok ((List.range n).all fun i => f i == g i) w := by
  have hsz : ∀ w, (sizeOf e).run P w = .ok 1 w := fun w => by rw [run_sizeOf (sizeIs_eq hz)]
  rw [List.range_eq_range', Op.equalIn]
  simp only [Sem.run_bind, run_underlying ht, Result.andThen_ok, hsz, Std.Legacy.Range.forIn_eq_forIn_range', Std.Legacy.Range.size, Nat.sub_zero, Nat.add_sub_cancel, Nat.div_one]
  have hl : ∀ i ∈ List.range' 0 n 1, i < n := fun i hi => by simpa using (List.mem_range'_1.1 hi).2
  generalize List.range' 0 n 1 = l at hl ⊢
  induction l with
  | nil => simp
  | cons i l ih =>
    have hi : i < n := hl i (by simp)
    have px : ∀ (c : Array Value) (h : Nat → Int), (∀ i, i < n → c[i]? = some (.int kd (h i))) → (part e c (i * 1)).run P w = .ok (.int kd (h i)) w := fun c h hh => by
      have hg := hh i hi
      simp [part, isAgg, run_underlying he, hg]
    simp only [List.forIn_cons, Sem.run_bind, px c f hc, px d g hd, run_equalIn_int w k e kd kd _ _ he, Result.andThen_ok, List.all_cons]
    cases hb : (f i == g i)
    · simp
    · simp only [Bool.not_true, Bool.false_eq_true, if_false, Sem.run_pure, Result.andThen_ok, Bool.true_and]
      exact ih fun j hj => hl j (by simp [hj])
theorem guard_agg {op : BinOp} {t : TypeId} (hg : P.eqGuardType P.depth t = false) {x y : Operand} (c d : Array Value) (w : World) : (eqGuard op t x y (.agg c) (.agg d)).run P w = .ok () w := by
  cases op <;> simp [eqGuard, hg]
/-- two rows of bytes -/
theorem eql_bytes (t e : TypeId) (n : Nat) (ht : P.underlying t = some (.array n e)) (he : P.underlying e = some (.int .u8)) (hz : sizeIs P e 1 = true) (hg : P.eqGuardType P.depth t = false) (x y : List UInt8) (hx : x.length = n) (hy : y.length = n) (a b : Operand) (w : World) :
    (do eqGuard .eql t a b (.agg (Lib.byteCells x).toArray) (.agg (Lib.byteCells y).toArray); binOp .eql t (.agg (Lib.byteCells x).toArray) (.agg (Lib.byteCells y).toArray) : Sem Value).run P w = .ok (.bool (decide (x = y))) w := by
  have h0 := eql_ints t e n .u8 ht he hz (Lib.byteCells x).toArray (Lib.byteCells y).toArray (fun i => ((x.getD i 0).toNat : Int)) (fun i => ((y.getD i 0).toNat : Int))
    (fun i hi => by simp [Lib.byteCells, List.getD, hx, hi]) (fun i hi => by simp [Lib.byteCells, List.getD, hy, hi]) 9998 w
  simp only [Sem.run_bind, guard_agg hg, Result.andThen_ok]
  rw [run_eql_struct, h0]
  have : ((List.range n).all fun i => ((x.getD i 0).toNat : Int) == ((y.getD i 0).toNat : Int)) = decide (x = y) := by
    rw [Bool.eq_iff_iff]
    simp only [List.all_eq_true, List.mem_range, beq_iff_eq, decide_eq_true_eq]
    constructor
    · intro h
      refine List.ext_getElem (by omega) fun i h1 h2 => ?_
      have := h i (by omega)
      simp only [List.getD, List.getElem?_eq_getElem h1, List.getElem?_eq_getElem h2, Option.getD_some] at this
      exact UInt8.toNat_inj.1 (by omega)
    · rintro rfl i _; rfl
  rw [this]; rfl
end
/-- two rows of bytes are the same -/
theorem eqB {C : Cx} {L : List Ent} {t e : TypeId} {n : Nat} {x y : List UInt8} {a b : Operand} {next : Value → List Ent → Prop} (ht : C.P.underlying t = some (.array n e)) (he : C.P.underlying e = some (.int .u8)) (hz : sizeIs C.P e 1 = true) (hg : C.P.eqGuardType C.P.depth t = false) (hx : x.length = n) (hy : y.length = n)
    (go : next (.bool (decide (x = y))) L) : SemP C (do eqGuard .eql t a b (.agg (Lib.byteCells x).toArray) (.agg (Lib.byteCells y).toArray); binOp .eql t (.agg (Lib.byteCells x).toArray) (.agg (Lib.byteCells y).toArray)) L next :=
  semV (fun w _ => eql_bytes t e n ht he hz hg x y hx hy a b w) go
end Go.Sx
