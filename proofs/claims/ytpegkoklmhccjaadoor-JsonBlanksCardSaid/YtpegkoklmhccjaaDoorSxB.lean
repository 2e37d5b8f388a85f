/- Symbolic steps, second part: the conditions of operations on numbers, strings and nil are enough. -/
import Derived.Test.YtpegkoklmhccjaaDoorSxA
namespace Go.Sx
open Go Go.RowKit

theorem modk_wrap (k : IntKind) (r : Int) : modk k r = k.wrap r := by
  cases k <;> first | rfl | (simp [modk, IntKind.wrap, IntKind.bits, IntKind.signed])
theorem wrap_in (k : IntKind) (r : Int) (lo : mn k ≤ r) (hi : r ≤ mx k) : k.wrap r = r := by
  cases k <;> simp only [mn, mx] at lo hi <;> simp [IntKind.wrap, IntKind.bits, IntKind.signed] <;> omega
theorem Wr.ok {k : IntKind} {r : Int} {next : Value → Prop} (h : Wr k r next) : next (.int k (k.wrap r)) := by
  cases h with
  | same lo hi go => rw [wrap_in k r lo hi]; exact go
  | mod go => rw [← modk_wrap]; exact go
  | as r' e lo hi go => subst e; rw [wrap_in k _ lo hi]; exact go
  | to r' e go => rw [← modk_wrap, e]; exact go
theorem intV_ok {P : Program} {op : BinOp} {k : IntKind} {x y : Int} {next : Value → Prop} (h : intV op k x y next) : ∃ r, next r ∧ ∀ t w, op ≠ .shl → op ≠ .shr → (binOp op t (.int k x) (.int k y)).run P w = .ok r w := by
  cases op
  case add => exact ⟨_, Wr.ok h, fun t w _ _ => by simp [binOp, Op.intArith]⟩
  case sub => exact ⟨_, Wr.ok h, fun t w _ _ => by simp [binOp, Op.intArith]⟩
  case mul => exact ⟨_, Wr.ok h, fun t w _ _ => by simp [binOp, Op.intArith]⟩
  case quo =>
    refine ⟨_, h.go, fun t w _ _ => ?_⟩
    have h0 := h.x0; have h1 := h.x1; have h2 := h.y0
    have hy : y ≠ 0 := by omega
    have hle : x / y ≤ x := Int.ediv_le_self _ h0
    have h3 : 0 ≤ x / y := Int.ediv_nonneg h0 (by omega)
    have e : k.wrap (x.tdiv y) = x / y := by
      rw [Int.tdiv_eq_ediv_of_nonneg h0]
      refine wrap_in k _ ?_ (by omega)
      cases k <;> simp only [mn] <;> omega
    simp [binOp, Op.intDiv, hy, e]
  case rem =>
    refine ⟨_, h.go, fun t w _ _ => ?_⟩
    have h0 := h.x0; have h2 := h.y0
    have hy : y ≠ 0 := by omega
    simp [binOp, Op.intDiv, hy, Int.tmod_eq_emod_of_nonneg h0]
  case and => exact ⟨_, h, fun t w _ _ => by simp [binOp, Op.intBits, bitI]⟩
  case or => exact ⟨_, h, fun t w _ _ => by simp [binOp, Op.intBits, bitI]⟩
  case xor => exact ⟨_, h, fun t w _ _ => by simp [binOp, Op.intBits, bitI]⟩
  case andNot => exact ⟨_, h, fun t w _ _ => by simp [binOp, Op.intBits, bitI]⟩
  case eql => exact ⟨_, h, fun t w _ _ => by simp [binOp, Op.intCmp]⟩
  case neq => exact ⟨_, h, fun t w _ _ => by simp [binOp, Op.intCmp]⟩
  case lss => exact ⟨_, h, fun t w _ _ => by simp [binOp, Op.intCmp]⟩
  case leq => exact ⟨_, h, fun t w _ _ => by simp [binOp, Op.intCmp]⟩
  case gtr => exact ⟨_, h, fun t w _ _ => by simp [binOp, Op.intCmp]⟩
  case geq => exact ⟨_, h, fun t w _ _ => by simp [binOp, Op.intCmp]⟩
  all_goals exact h.elim
theorem strV_ok {P : Program} {op : BinOp} {a b : ByteArray} {next : Value → Prop} (h : strV op a b next) : ∃ r, next r ∧ ∀ t w, (binOp op t (.string a) (.string b)).run P w = .ok r w := by
  cases op
  case add =>
    have h1 := h.h
    exact ⟨_, h.go, fun t w => by
      have : ¬ (((a.size + b.size : Nat) : Int) > IntKind.i64.max) := by simp only [IntKind.max]; simp [IntKind.bits, IntKind.signed]; omega
      simp only [binOp, Op.stringOp, if_neg this, Sem.run_pure]⟩
  case eql => exact ⟨_, h, fun t w => by simp [binOp, Op.stringOp]⟩
  case neq => exact ⟨_, h, fun t w => by simp [binOp, Op.stringOp]⟩
  case lss => exact ⟨_, h, fun t w => by simp [binOp, Op.stringOp]⟩
  case leq => exact ⟨_, h, fun t w => by simp [binOp, Op.stringOp]⟩
  case gtr => exact ⟨_, h, fun t w => by simp [binOp, Op.stringOp]⟩
  case geq => exact ⟨_, h, fun t w => by simp [binOp, Op.stringOp]⟩
  all_goals exact h.elim

theorem keq' {a b : IntKind} (h : (a == b) = true) : a = b := by cases a <;> cases b <;> first | rfl | cases h
theorem TabOk.row {P : Program} {T : Tab} (hT : TabOk P T) {t : Nat} {k : Ty → Nat → Prop} (h : look T.rows t k) : ∃ y n, k y n ∧ rowOk P ⟨t, y, n⟩ = true := by
  obtain ⟨r, hr, rfl, hk⟩ := look_row _ _ _ h
  exact ⟨r.y, r.n, hk, List.all_eq_true.1 hT.rows r hr⟩
theorem rowOk_size {P : Program} {t : Nat} {y : Ty} {n : Nat} (h : rowOk P ⟨t, y, n⟩ = true) : (P.info? t).map (·.size) = some n := by
  unfold rowOk sizeIs at h
  simp only [Bool.and_eq_true, beq_iff_eq] at h
  exact h.1
theorem sizeIs_eq {P : Program} {t n : Nat} (h : sizeIs P t n = true) : (P.info? t).map (·.size) = some n := by simpa [sizeIs] using h
/-- what a row says of its type -/
def Says (P : Program) (t : Nat) : Ty → Prop
  | .int k => P.underlying t = some (.int k)
  | .str => P.underlying t = some .string
  | .bool => P.underlying t = some .bool
  | .ptr => ∃ e, P.underlying t = some (.pointer e)
  | .fn => ∃ a b c, P.underlying t = some (.func a b c)
  | .ifc => ∃ m, P.underlying t = some (.interface m)
  | .sl e n => P.underlying t = some (.slice e) ∧ (P.info? e).map (·.size) = some n
  | .arr len e n g => P.underlying t = some (.array len e) ∧ (P.info? e).map (·.size) = some n ∧ descAgg (P.underlying e) = g ∧ (P.underlying e).isSome = true
  | .st fs => ∃ fields, P.underlying t = some (.struct fields) ∧ ∀ (i : Nat) (p : Nat × Nat × Bool), fs[i]? = some p → ∃ f : Field, fields[i]? = some f ∧ f.offset = p.1 ∧ (P.info? f.type).map (·.size) = some p.2.1 ∧ p.2.1 ≠ 0 ∧ descAgg (P.underlying f.type) = p.2.2 ∧ (P.underlying f.type).isSome = true
  | .map k e => P.underlying t = some (.map k e)
  | .up => P.underlying t = some .unsafePointer
theorem rowOk_says {P : Program} {t : Nat} {y : Ty} {n : Nat} (h : rowOk P ⟨t, y, n⟩ = true) : Says P t y := by
  unfold rowOk at h
  simp only [Bool.and_eq_true] at h
  have h2 := h.2
  clear h
  generalize hu : P.underlying t = d at h2
  cases y <;> rcases d with _ | d <;> (try cases d) <;> try exact (Bool.false_ne_true h2).elim
  all_goals simp only [Bool.and_eq_true, beq_iff_eq] at h2
  case int.some.int => subst h2; exact hu
  case ptr.some.pointer => exact ⟨_, hu⟩
  case fn.some.func => exact ⟨_, _, _, hu⟩
  case ifc.some.interface => exact ⟨_, hu⟩
  case str.some.string => exact hu
  case bool.some.bool => exact hu
  case up.some.unsafePointer => exact hu
  case sl.some.slice => obtain ⟨rfl, h2⟩ := h2; exact ⟨hu, sizeIs_eq h2⟩
  case arr.some.array => obtain ⟨⟨⟨⟨rfl, rfl⟩, h2⟩, h3⟩, h4⟩ := h2; exact ⟨hu, sizeIs_eq h2, h3, h4⟩
  case map.some.map => obtain ⟨rfl, rfl⟩ := h2; exact hu
  case st.some.struct fs fields =>
    refine ⟨fields, hu, fun i p hp => ?_⟩
    obtain ⟨hlen, hall⟩ := h2
    have hi : i < fs.length := (List.getElem?_eq_some_iff.1 hp).1
    have hi2 : i < fields.size := by omega
    have hz : (fs.zip fields.toList)[i]? = some (p, fields[i]) := by
      rw [List.getElem?_zip_eq_some]; exact ⟨hp, by simp [hi2]⟩
    have := List.all_eq_true.1 hall _ (List.mem_of_getElem? hz)
    unfold fieldOk at this
    simp only [Bool.and_eq_true, beq_iff_eq, bne_iff_ne] at this
    obtain ⟨⟨⟨⟨a, b⟩, c⟩, d⟩, e⟩ := this
    exact ⟨fields[i], by simp [hi2], a.symm, sizeIs_eq b, c, d, e⟩
theorem nilV_ok {P : Program} {t : Nat} {y : Ty} (hs : Says P t y) {c : Bool} {u v : Value} {next : Bool → Prop} {fb : Prop} (h : nilV y c u v next fb) :
    (∃ r, next r ∧ (u = .nilIface → v = .nilIface → c = true) ∧ (∀ cs, u ≠ .agg cs) ∧ (∀ k b, u ≠ .float k b) ∧ (∀ k a b, u ≠ .complex k a b) ∧ ∀ w, (Op.equal t u v).run P w = .ok r w) ∨ fb := by
  have he : ∀ u v, Op.equal t u v = Op.equalIn (9999 + 1) t u v := fun _ _ => rfl
  simp only [he]
  clear he
  generalize 9999 = d
  unfold nilV at h
  split at h <;> simp only [Says] at hs
  all_goals first
    | exact .inr h
    | (refine .inl ⟨_, h, by simp, by simp, by simp, by simp, fun w => ?_⟩; simp [Op.equalIn, run_underlying, hs]; done)
    | (obtain ⟨_, _, _, hs⟩ := hs; refine .inl ⟨_, h, by simp, by simp, by simp, by simp, fun w => ?_⟩; simp [Op.equalIn, run_underlying, hs]; done)
    | (obtain ⟨_, hs⟩ := hs; cases c; · exact .inr h
       refine .inl ⟨_, h, by simp, by simp, by simp, by simp, fun w => ?_⟩; simp [Op.equalIn, run_underlying, hs]; done)
    | (obtain ⟨_, hs⟩ := hs; refine .inl ⟨_, h, by simp, by simp, by simp, by simp, fun w => ?_⟩; simp [Op.equalIn, run_underlying, hs]; done)
    | (obtain ⟨hs, _⟩ := hs; refine .inl ⟨_, h, by simp, by simp, by simp, by simp, fun w => ?_⟩; simp [Op.equalIn, run_underlying, hs]; done)
theorem guard_int (op : BinOp) (t : TypeId) (x y : Operand) (k k' : IntKind) (a b : Int) (P : Program) (w : World) : (eqGuard op t x y (.int k a) (.int k' b)).run P w = .ok () w := by
  unfold eqGuard; split <;> simp
theorem guard_str (op : BinOp) (t : TypeId) (x y : Operand) (a b : ByteArray) (P : Program) (w : World) : (eqGuard op t x y (.string a) (.string b)).run P w = .ok () w := by
  unfold eqGuard; split <;> simp
theorem guard_nil {op : BinOp} {t : TypeId} {x y : Operand} {u v : Value} {P : Program} (h1 : u = .nilIface → v = .nilIface → (isC x || isC y) = true) (h2 : ∀ cs, u ≠ .agg cs) (w : World) : (eqGuard op t x y u v).run P w = .ok () w := by
  have key : (match u, v with
    | .nilIface, .nilIface => if (isC x || isC y) then (pure () : Sem Unit) else fatal ""
    | .agg _, .agg _ => fatal ""
    | _, _ => pure ()).run P w = .ok () w := by
    split
    · simp [h1 rfl rfl]
    · exact (h2 _ rfl).elim
    · simp
  cases u <;> cases v <;> first | (exact absurd rfl (h2 _)) | (cases op <;> simp [eqGuard]; done) | skip
  have := h1 rfl rfl
  cases op <;> cases x <;> cases y <;> simp_all [eqGuard, isC]
theorem binV_ok {P : Program} {T : Tab} (hT : TabOk P T) {op : BinOp} {t : TypeId} {x y : Operand} {u v : Value} {next : Value → Prop} {fb : Prop} (h : binV T op t (isC x || isC y) u v next fb) :
    (∃ r, next r ∧ ∀ w, (do eqGuard op t x y u v; binOp op t u v : Sem Value).run P w = .ok r w) ∨ fb := by
  unfold binV at h
  split at h
  · refine .inl ?_
    rename_i k a k' b
    split at h
    · refine ⟨_, h.go.ok, fun w => ?_⟩
      have := h.y0
      simp only [Sem.run_bind, guard_int, Result.andThen_ok]
      simp [binOp, Op.shift, show ¬ b < 0 by omega]
    · refine ⟨_, h.go, fun w => ?_⟩
      have := h.y0
      simp only [Sem.run_bind, guard_int, Result.andThen_ok]
      simp [binOp, Op.shift, show ¬ b < 0 by omega]
    · rename_i h1 h2
      cases hk : keq k k'
      · rw [hk] at h; exact h.elim
      · rw [hk] at h
        obtain rfl := keq_eq hk
        obtain ⟨r, hr, hrun⟩ := intV_ok (P := P) h
        exact ⟨r, hr, fun w => by simp only [Sem.run_bind, guard_int, Result.andThen_ok, hrun t w h1 h2]⟩
  · obtain ⟨r, hr, hrun⟩ := strV_ok (P := P) h
    exact .inl ⟨r, hr, fun w => by simp only [Sem.run_bind, guard_str, Result.andThen_ok, hrun t w]⟩
  · rename_i hn1 hn2
    split at h
    · obtain ⟨y, n, hk, hrow⟩ := hT.row h
      rcases nilV_ok (rowOk_says hrow) hk with ⟨r, hr, g1, g2, g3, g4, hrun⟩ | hfb
      · refine .inl ⟨_, hr, fun w => ?_⟩
        simp only [Sem.run_bind, guard_nil g1 g2, Result.andThen_ok]
        have e : binOp .eql t u v = (do pure (.bool (← Op.equal t u v)) : Sem Value) := by
          cases u <;> cases v <;> first | rfl | exact (hn1 _ _ _ _ rfl rfl).elim | exact (hn2 _ _ rfl rfl).elim | exact (g3 _ _ rfl).elim | exact (g4 _ _ _ rfl).elim
        rw [e]; simp [hrun]
      · exact .inr hfb
    · obtain ⟨y, n, hk, hrow⟩ := hT.row h
      rcases nilV_ok (rowOk_says hrow) hk with ⟨r, hr, g1, g2, g3, g4, hrun⟩ | hfb
      · refine .inl ⟨_, hr, fun w => ?_⟩
        simp only [Sem.run_bind, guard_nil g1 g2, Result.andThen_ok]
        have e : binOp .neq t u v = (do pure (.bool (!(← Op.equal t u v))) : Sem Value) := by
          cases u <;> cases v <;> first | rfl | exact (hn1 _ _ _ _ rfl rfl).elim | exact (hn2 _ _ rfl rfl).elim | exact (g3 _ _ rfl).elim | exact (g4 _ _ _ rfl).elim
        rw [e]; simp [hrun]
      · exact .inr hfb
    · exact .inr h
theorem unV_ok {P : Program} {op : UnOp} {v : Value} {next : Value → Prop} {fb : Prop} (h : unV op v next fb) : (∃ r, next r ∧ ∀ w, (Op.unary op v).run P w = .ok r w) ∨ fb := by
  unfold unV at h
  split at h
  · exact .inl ⟨_, h, fun w => by simp [Op.unary]⟩
  · exact .inl ⟨_, h.ok, fun w => by simp [Op.unary, Op.intArith]⟩
  · exact .inl ⟨_, h, fun w => by simp [Op.unary, Op.intBits, notI, bitI]⟩
  · exact .inr h
end Go.Sx
