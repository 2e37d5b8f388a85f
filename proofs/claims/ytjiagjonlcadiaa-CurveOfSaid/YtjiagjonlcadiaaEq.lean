/- '==' and '!=' between two rows of integers. -/
import Derived.Test.YtjiagjonlcadiaaRow
import Derived.Laws.StructEq
import Derived.Laws.Rows
namespace Go.Proofs.Ytjiagjonlcadiaa
open Go.RowKit Go.Lib
section
variable {P : Program} (w : World)
def eqr (n : Nat) (f g : Nat → Int) : Bool := (List.range n).all fun i => f i == g i
theorem run_equalIn_row (d : Nat) (t e : TypeId) (n : Nat) (kd : IntKind) (ht : P.underlying t = some (.array n e)) (he : P.underlying e = some (.int kd)) (hsz : ∀ w, (sizeOf e).run P w = .ok 1 w) (f g : Nat → Int) :
    (Op.equalIn (d + 2) t (.agg (row kd n f)) (.agg (row kd n g))).run P w = .ok (eqr n f g) w := by
  unfold eqr
  rw [List.range_eq_range', Op.equalIn]
  simp only [Sem.run_bind, run_underlying ht, Result.andThen_ok, hsz, Std.Legacy.Range.forIn_eq_forIn_range', Std.Legacy.Range.size, Nat.sub_zero, Nat.add_sub_cancel, Nat.div_one]
  have hl : ∀ i ∈ List.range' 0 n 1, i < n := fun i hi => by simpa using (List.mem_range'_1.1 hi).2
  generalize List.range' 0 n 1 = l at hl ⊢
  induction l with
  | nil => simp
  | cons i l ih =>
    have hi : i < n := hl i (by simp)
    have px : ∀ h : Nat → Int, (part e (row kd n h) (i * 1)).run P w = .ok (.int kd (h i)) w := fun h => by
      have hg := row_get kd n h i hi
      simp [part, isAgg, run_underlying he, hg]
    simp only [List.forIn_cons, Sem.run_bind, px, run_equalIn_int w d e kd kd _ _ he, Result.andThen_ok, List.all_cons]
    cases hb : (f i == g i)
    · simp
    · simp only [Bool.not_true, Bool.false_eq_true, if_false, Sem.run_pure, Result.andThen_ok, Bool.true_and]
      exact ih fun j hj => hl j (by simp [hj])
theorem run_index_row (t e : TypeId) (n : Nat) (kd : IntKind) (ht : P.underlying t = some (.array n e)) (he : P.underlying e = some (.int kd)) (hsz : ∀ w, (sizeOf e).run P w = .ok 1 w) (f : Nat → Int) (k : Nat) (hk : k < n) :
    (Instr.index t (.agg (row kd n f)) (.int .i64 (k : Int))).run P w = .ok (.int kd (f k)) w := by
  have hg := row_get kd n f k hk
  simp [Instr.index, asIntOf, run_underlying ht, hk, hsz, part, isAgg, run_underlying he, hg]
theorem run_eql_row (t e : TypeId) (n : Nat) (kd : IntKind) (ht : P.underlying t = some (.array n e)) (he : P.underlying e = some (.int kd)) (hsz : ∀ w, (sizeOf e).run P w = .ok 1 w) (f g : Nat → Int) :
    (binOp .eql t (.agg (row kd n f)) (.agg (row kd n g))).run P w = .ok (.bool (eqr n f g)) w := by
  rw [run_eql_struct, run_equalIn_row w 9998 t e n kd ht he hsz]
  rfl
theorem run_neq_row (t e : TypeId) (n : Nat) (kd : IntKind) (ht : P.underlying t = some (.array n e)) (he : P.underlying e = some (.int kd)) (hsz : ∀ w, (sizeOf e).run P w = .ok 1 w) (f g : Nat → Int) :
    (binOp .neq t (.agg (row kd n f)) (.agg (row kd n g))).run P w = .ok (.bool (!eqr n f g)) w := by
  rw [run_neq_struct, run_equalIn_row w 9998 t e n kd ht he hsz]
  rfl
end
theorem eqr_dg (B n x y : Nat) (hx : x < B ^ n) (hy : y < B ^ n) : eqr n (dg B x) (dg B y) = decide (x = y) := by
  unfold eqr
  rw [Bool.eq_iff_iff]
  simp only [List.all_eq_true, List.mem_range, beq_iff_eq, decide_eq_true_eq]
  constructor
  · intro h
    have e1 := sumf_dg B x n
    have e2 := sumf_dg B y n
    rw [Nat.mod_eq_of_lt hx] at e1
    rw [Nat.mod_eq_of_lt hy] at e2
    rw [sumf_congr (B : Int) _ _ n h] at e1
    omega
  · rintro rfl i _; rfl
/-- two results: a row in a cell's block, and a slot -/
theorem results_cell_tmp_row {P : Program} {fn : Func} {p t2 : Tmp} {ty : TypeId} (h : fn.results = #[.cell p ty, .tmp t2]) (tmps : Array Value) (w : World) (g : Nat) (t : TypeId) (cs : Array Value) (fr : Nat × Nat) (d : TypeDesc)
    (hp : tmps.getD p undef = .pointer (some ⟨g, 0, none⟩)) (hg : w.heap[g]? = some (.cells cs t fr))
    (hu : P.underlying ty = some d) (hd : (match d with | .struct _ | .array _ _ => true | _ => false) = true) (hi : (P.info? ty).map (·.size) = some cs.size) :
    (results fn tmps).run P w = .ok (.tuple #[.agg cs, tmps.getD t2 undef]) w := by
  have hp' : tmps[p]?.getD undef = .pointer (some ⟨g, 0, none⟩) := by simpa using hp
  simp [results, h, hp', asAddr, run_loadVar_row w g t ty cs fr d hg hu hd hi]
theorem sz_int (w : World) : (sizeOf 3).run Try.prog w = .ok 1 w := by kernel_rfl
theorem sz_u8 (w : World) : (sizeOf 5).run Try.prog w = .ok 1 w := by kernel_rfl
theorem sz_u64 (w : World) : (sizeOf 34).run Try.prog w = .ok 1 w := by kernel_rfl
end Go.Proofs.Ytjiagjonlcadiaa
