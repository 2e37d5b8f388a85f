/- Symbolic steps, fourth part: the conditions of one operation are enough. -/
import Derived.Test.YtpegkoklmhccjaaDoorSxC
namespace Go.Sx
open Go Go.RowKit
variable {C : Cx} {o : Oper} {σ : Fr} {L : List Ent} {ρ : Operand → Value} {w : World} {next : Value → List Ent → Prop}

theorem Cv.ok {k : IntKind} {n : Int} {next : Value → Prop} (h : Cv k n next) : next (.int k (k.wrap n)) := by
  cases h with
  | same lo hi go => rw [wrap_in k n lo hi]; exact go
  | wrap go => rw [← modk_wrap]; exact go
  | as r' e lo hi go => subst e; rw [wrap_in k _ lo hi]; exact go
  | to r' e go => rw [← modk_wrap, e]; exact go
theorem OpS.now {v : Value} {L' : List Ent} (he : (execOp ρ o).run C.P w = .ok (.value v) w) (hs : St C.M C.B w L') (hn : next v L') : OpS C o ρ w next := Fin.val he hs hn
theorem run_zero {P : Program} {t : TypeId} {c : Array Value} (h : (P.info? t).bind (fun i => i.zero.map (·.cells)) = some c) (w : World) : ∃ v, (zeroValue t).run P w = .ok v w ∧ v.cells = c := by
  cases hi : P.info? t with
  | none => rw [hi] at h; cases h
  | some i =>
    rw [hi] at h
    cases hz : i.zero with
    | none => simp [hz] at h
    | some v => exact ⟨v, by simp [zeroValue, run_typeInfo hi, hz], by simpa [hz] using h⟩
theorem run_newVar (P : Program) (t : TypeId) (v : Value) (w : World) : (newVar t v).run P w = .ok ⟨w.heap.size, 0, none⟩ (w.alloc (.cells v.cells t)) := by
  simp [newVar, newRow, newObj, Sem.run]
theorem lookup_arr {vs : Array Value} {i : Nat} {k : Value → Prop} (h : lookup_n vs.toList i k) : ∃ v, vs[i]? = some v ∧ k v := by
  obtain ⟨v, hv, hk⟩ := lookup_n_spec _ _ _ h
  exact ⟨v, by simpa using hv, hk⟩
theorem bounds_ok {P : Program} {lo hi m : Option Operand} {σ : Fr} {fb : Option Int → Option Int → Option Int → Prop} (hf : Fit σ ρ)
    (h : oev σ lo fun lo => oev σ hi fun hi => oev σ m fun m => oint lo fun lo => oint hi fun hi => oint m fun m => fb lo hi m) :
    ∃ lo' hi' m', fb lo' hi' m' ∧ (m = none ↔ m' = none) ∧ ∀ (s : Bool) (len cap l h m1 : Nat), oi m' cap = (m1 : Int) → oi hi' len = (h : Int) → oi lo' 0 = (l : Int) → l ≤ h → h ≤ m1 → m1 ≤ cap → (hi' = none → m' = none) →
      ∀ w, (Instr.sliceBounds s len cap (lo.map ρ) (hi.map ρ) (m.map ρ)).run P w = .ok (l, h, m1) w := by
  have h1 := oev_spec hf h
  have h2 := oev_spec hf h1
  have h3 := oev_spec hf h2
  obtain ⟨lo', h4, a1, a2⟩ := oint_spec h3
  obtain ⟨hi', h5, b1, b2⟩ := oint_spec h4
  obtain ⟨m', h6, c1, c2⟩ := oint_spec h5
  refine ⟨lo', hi', m', h6, ⟨fun e => c2 (by rw [e]; rfl), fun e => ?_⟩, fun s len cap l h m1 e1 e2 e3 e4 e5 e6 e7 w => run_bounds a1 a2 b1 b2 c1 c2 e1 e2 e3 e4 e5 e6 e7 w⟩
  cases m with
  | none => rfl
  | some x => obtain ⟨q, n, _, hn⟩ := c1 _ rfl; rw [e] at hn; cases hn
theorem entOk_enters {P : Program} {g : Nat} (h : entOk P g = true) : ∃ fn : Func, P.funcs[g]? = some fn ∧ (fn.name == "runtime.NumGoroutine") = false ∧ fn.body.isNone = false := by
  unfold entOk at h
  cases hf : P.funcs[g]? with
  | none => rw [hf] at h; cases h
  | some fn =>
    rw [hf] at h
    simp only [Bool.and_eq_true, Bool.not_eq_true'] at h
    refine ⟨fn, rfl, h.1, ?_⟩
    cases hb : fn.body <;> simp_all
theorem callable_enters {P : Program} {T : Tab} (hT : TabOk P T) {g : Nat} (h : callable T g = true) : entOk P g = true := by
  unfold callable at h
  simp only [Bool.and_eq_true, Bool.not_eq_true'] at h
  have h1 := List.all_eq_true.1 hT.fns g (List.mem_range.2 (by simpa using h.1))
  rw [h.2] at h1
  simpa using h1
theorem val_run {P : Program} {s : Sem Value} {v : Value} {w : World} (he : execOp ρ o = (do pure (.value (← s)))) (hr : s.run P w = .ok v w) : (execOp ρ o).run P w = .ok (.value v) w := by
  rw [he, Sem.run_bind, hr]; rfl
theorem tx_ok (hT : TabOk C.P C.T) (hf : Fit σ ρ) {next : Value → Prop} {fb : Prop} (h : tx C o σ L next fb) : (∃ v, next v ∧ ∀ w, St C.M C.B w L → (execOp ρ o).run C.P w = .ok (.value v) w) ∨ fb := by
  unfold tx at h
  split at h
  · rename_i x ho; exact .inl ⟨_, (hf x _ h), fun w hs => by simp only [execOp, ho]; rfl⟩
  · rename_i x ho; exact .inl ⟨_, (hf x _ h), fun w hs => by simp only [execOp, ho]; rfl⟩
  · rename_i c a b ho
    have h1 := hf b _ (hf a _ (hf c _ h))
    split at h1
    · rename_i t hc
      cases t
      · exact .inl ⟨_, (h1.f rfl), fun w hs => by simp only [execOp, ho]; simp [hc, asBool]⟩
      · exact .inl ⟨_, (h1.t rfl), fun w hs => by simp only [execOp, ho]; simp [hc, asBool]⟩
    · exact .inr h1
  · rename_i t ps ho
    obtain ⟨v, hv, go⟩ := pevs_spec hf h
    refine .inl ⟨_, go, fun w hs => val_run (s := Instr.build t (ps.map fun (i, x) => (i, ρ x))) (by simp only [execOp, ho]) ?_⟩
    have e : (ps.map fun (i, x) => (i, ρ x)) = (ps.toList.map fun p => (p.1, ρ p.2)).toArray := by apply Array.ext'; simp
    rw [e]; exact hv w
  · rename_i t x ho
    obtain ⟨y, n, hk, hrow⟩ := hT.row (hf x _ h)
    split at hk
    · rename_i b o hx
      have hag := (rowOk_says hrow).agg
      cases hy : y.agg
      · rw [hy] at hk hag
        obtain ⟨v, hc, go⟩ := hk
        exact .inl ⟨_, go, fun w hs => val_run (s := Instr.loadAt t (ρ x)) (by simp only [execOp, ho]) (by simp [hx, Instr.loadAt, Instr.sureAddr, loadVar, run_isAgg hag.1 hag.2, hc w hs])⟩
      · rw [hy] at hk hag
        obtain ⟨c, hn, hc, go⟩ := hk
        refine .inl ⟨_, go, fun w hs => val_run (s := Instr.loadAt t (ρ x)) (by simp only [execOp, ho]) ?_⟩
        cases hu : C.P.underlying t with
        | none => rw [hu] at hag; cases hag.2
        | some d =>
          rw [hu] at hag
          have := run_loadAt_mid (P := C.P) w b o t c.toList d (hc w hs) hu (by cases d <;> simp_all [descAgg]) (by rw [rowOk_size hrow]; simpa using hn.symm)
          rw [hx]; simpa using this
    · exact hk.elim
  · rename_i x ho
    have h1 := hf x _ h
    unfold ncV at h1
    split at h1
    · rename_i a hx; exact .inl ⟨_, h1, fun w hs => by simp only [execOp, ho]; simp [hx]⟩
    · rename_i t u hx; exact .inl ⟨_, h1, fun w hs => by simp only [execOp, ho]; simp [hx]⟩
    · rename_i g a b hx; exact .inl ⟨_, h1, fun w hs => by simp only [execOp, ho]; simp [hx]⟩
    · exact .inr h1
  · rename_i op t x y z ho
    rcases binV_ok hT (hf y _ (hf x _ h)) with ⟨r, hr, hrun⟩ | hfb
    · exact .inl ⟨_, hr, fun w hs => val_run (s := do eqGuard op t x y (ρ x) (ρ y); binOp op t (ρ x) (ρ y)) (by simp only [execOp, ho]) (hrun w)⟩
    · exact .inr hfb
  · rename_i op t x ho
    rcases unV_ok (P := C.P) (hf x _ h) with ⟨r, hr, hrun⟩ | hfb
    · exact .inl ⟨_, hr, fun w hs => val_run (s := Op.unary op (ρ x)) (by simp only [execOp, ho]) (hrun w)⟩
    · exact .inr hfb
  · rename_i s d x ho
    obtain ⟨y0, n0, hk0, hrow0⟩ := hT.row (hf x _ h)
    obtain ⟨y, n, hk, hrow⟩ := hT.row hk0
    have hsay := rowOk_says hrow
    have hs0 := (rowOk_says hrow0).agg.2
    cases hu0 : C.P.underlying s with
    | none => rw [hu0] at hs0; cases hs0
    | some d0 =>
    split at hk
    · exact .inr hk
    split at hk
    · rename_i k q m hx
      refine .inl ⟨_, hk.ok, fun w hs => val_run (s := convert s d (ρ x)) (by simp only [execOp, ho]) ?_⟩
      simp [convert, hx, run_underlying hu0, run_underlying hsay, Conv.intToInt]
    · rename_i b hx
      refine .inl ⟨_, hk, fun w hs => val_run (s := convert s d (ρ x)) (by simp only [execOp, ho]) ?_⟩
      simp [convert, hx, run_underlying hu0, run_underlying hsay]
    · exact .inr hk
  · rename_i t x ho
    obtain ⟨y, n, hk, hrow⟩ := hT.row (hf x _ h)
    have hsay := rowOk_says hrow
    split at hk
    · rename_i len e n' g a m m' hx
      have := hk.h
      exact .inl ⟨_, hk.go, fun w hs => val_run (s := Instr.arrayAt t (ρ x)) (by simp only [execOp, ho]) (by simp [hx, Instr.arrayAt, run_underlying hsay.1, show ¬ m < len by omega])⟩
    · exact hk.elim
  · rename_i t x ho
    obtain ⟨y, n, hk, hrow⟩ := hT.row (hf x _ h)
    have hsay := rowOk_says hrow
    have hd : ∃ d, C.P.underlying t = some d ∧ ∀ m, y ≠ .ifc → d ≠ .interface m := by
      cases y <;> simp only [Says] at hsay
      case ptr => obtain ⟨_, h⟩ := hsay; exact ⟨_, h, by simp⟩
      case ifc => obtain ⟨_, h⟩ := hsay; exact ⟨_, h, by simp⟩
      case fn => obtain ⟨_, _, _, h⟩ := hsay; exact ⟨_, h, by simp⟩
      case st => obtain ⟨_, h, _⟩ := hsay; exact ⟨_, h, by simp⟩
      case sl => exact ⟨_, hsay.1, by simp⟩
      case arr => exact ⟨_, hsay.1, by simp⟩
      all_goals exact ⟨_, hsay, by simp⟩
    obtain ⟨d, hd, hne⟩ := hd
    split at hk
    · exact hk.elim
    · rename_i hy
      refine .inl ⟨_, hk, fun w hs => val_run (s := Instr.makeInterface t (ρ x)) (by simp only [execOp, ho]) ?_⟩
      cases d <;> first | (exact absurd rfl (hne _ hy)) | simp [Instr.makeInterface, run_underlying hd]
  · rename_i fn fs cs ho
    have h1 := hf.evs _ _ (hf.evs _ _ h)
    have e1 : fs.map ρ = (fs.toList.map ρ).toArray := by apply Array.ext'; simp
    have e2 : cs.map ρ = (cs.toList.map ρ).toArray := by apply Array.ext'; simp
    exact .inl ⟨_, h1, fun w _ => val_run (s := Instr.makeFunc fn (fs.map ρ) (cs.map ρ)) (by simp only [execOp, ho]) (by rw [e1, e2]; rfl)⟩
  · rename_i t x lo hi m ho
    obtain ⟨lo', hi', m', hk, hm, hB⟩ := bounds_ok (P := C.P) hf (hf x _ h)
    obtain ⟨y, n, ⟨hk⟩, hrow⟩ := hT.row hk
    have hsay := rowOk_says hrow
    unfold sliM at hk
    split at hk
    · rename_i len e n' g b o hx
      obtain ⟨l, h, m1, e1, e2, e3, e4, e5, e6, e7, go⟩ := hk
      refine .inl ⟨_, go.ok, fun w hs => val_run (s := Instr.sliceAt t (ρ x) (lo.map ρ) (hi.map ρ) (m.map ρ)) (by simp only [execOp, ho]) ?_⟩
      simp [Instr.sliceAt, run_underlying hsay.1, hx, Instr.sureAddr, hB false _ _ _ _ _ e1 e2 e3 e4 e5 e6 e7, run_sizeOf hsay.2.1, addr_add, nad_eq, nmu_eq]
    · rename_i e n' b o len cap hx
      obtain ⟨l, h, m1, e1, e2, e3, e4, e5, e6, e7, go⟩ := hk
      refine .inl ⟨_, go.ok, fun w hs => val_run (s := Instr.sliceAt t (ρ x) (lo.map ρ) (hi.map ρ) (m.map ρ)) (by simp only [execOp, ho]) ?_⟩
      simp [Instr.sliceAt, Instr.slice, run_underlying hsay.1, hx, hB true _ _ _ _ _ e1 e2 e3 e4 e5 e6 e7, run_sizeOf hsay.2, addr_add, nad_eq, nmu_eq]
      split <;> rfl
    · rename_i e n' len cap hx
      obtain ⟨l, h, m1, e1, e2, e3, e4, e5, e6, e7, go⟩ := hk
      refine .inl ⟨_, go, fun w hs => val_run (s := Instr.sliceAt t (ρ x) (lo.map ρ) (hi.map ρ) (m.map ρ)) (by simp only [execOp, ho]) ?_⟩
      simp [Instr.sliceAt, Instr.slice, run_underlying hsay.1, hx, hB true _ _ _ _ _ e1 e2 e3 e4 e5 e6 e7, run_sizeOf hsay.2]
    · rename_i s hx
      split at hk
      · obtain ⟨l, h', m1, e1, e2, e3, e4, e5, e6, e7, go⟩ := hk
        obtain rfl : m = none := hm.2 rfl
        refine .inl ⟨_, go, fun w hs => val_run (s := Instr.sliceAt t (ρ x) (lo.map ρ) (hi.map ρ) none) (by simp only [execOp, ho]; rfl) ?_⟩
        have := hB false s.size s.size l h' m1 e1 e2 e3 e4 e5 e6 e7
        simp only [Option.map_none] at this
        simp [Instr.sliceAt, Instr.slice, run_underlying hsay, hx, this]
      · exact .inr hk
    · exact .inr hk
  · rename_i t x f ho
    obtain ⟨y, n, hk, hrow⟩ := hT.row (hf x _ h)
    have hsay := rowOk_says hrow
    split at hk
    · rename_i fs b o hx
      obtain ⟨p, hp, hn⟩ := lookup_n_spec _ _ _ hk
      obtain ⟨fields, hu, hall⟩ := hsay
      obtain ⟨fl, hfl, hoff, hsz, hne, _, _⟩ := hall f p hp
      refine .inl ⟨_, hn, fun w hs => val_run (s := Instr.fieldAt t (ρ x) f) (by simp only [execOp, ho]) ?_⟩
      simp [hx, Instr.fieldAt, run_underlying hu, hfl, Instr.sureAddr, fieldPlace, run_sizeOf hsz, hne, hoff, addr_add, nad_eq]
    · exact hk.elim
  · rename_i t x f ho
    obtain ⟨y, n, hk, hrow⟩ := hT.row (hf x _ h)
    have hsay := rowOk_says hrow
    split at hk
    · rename_i fs c hx
      obtain ⟨p, hp, hn⟩ := lookup_n_spec _ _ _ hk
      obtain ⟨fields, hu, hall⟩ := hsay
      obtain ⟨fl, hfl, hoff, hsz, hne, hg, hsm⟩ := hall f p hp
      obtain ⟨v, hv, hrun⟩ := hn.ok hsz hg hsm
      refine .inl ⟨_, hv, fun w hs => val_run (s := Instr.field t (ρ x) f) (by simp only [execOp, ho]) ?_⟩
      simp [hx, Instr.field, run_underlying hu, hfl, asAgg, hoff, hrun]
    · exact hk.elim
  · rename_i t x i ho
    obtain ⟨y, n, hk, hrow⟩ := hT.row (hf i _ (hf x _ h))
    have hsay := rowOk_says hrow
    split at hk
    · rename_i len e n' g b o k j hx hi
      have h1 := hk.lo; have h2 := hk.hi
      refine .inl ⟨_, hk.go, fun w hs => val_run (s := Instr.indexAt t (ρ x) (ρ i)) (by simp only [execOp, ho]) ?_⟩
      simp [hx, hi, Instr.indexAt, asIntOf, run_underlying hsay.1, Instr.sureAddr, h1, h2, run_sizeOf hsay.2.1, addr_add, nad_eq, nmu_eq]
    · rename_i e n' b o len cap k j hx hi
      have h1 := hk.lo; have h2 := hk.hi
      refine .inl ⟨_, hk.go, fun w hs => val_run (s := Instr.indexAt t (ρ x) (ρ i)) (by simp only [execOp, ho]) ?_⟩
      simp [hx, hi, Instr.indexAt, asIntOf, run_underlying hsay.1, h1, h2, run_sizeOf hsay.2, addr_add, nad_eq, nmu_eq]
    · exact hk.elim
  · rename_i t x i ho
    obtain ⟨y, n, hk, hrow⟩ := hT.row (hf i _ (hf x _ h))
    have hsay := rowOk_says hrow
    split at hk
    · rename_i len e n' g c k j hx hi
      have h1 := hk.lo; have h2 := hk.hi
      obtain ⟨v, hv, hrun⟩ := hk.go.ok hsay.2.1 hsay.2.2.1 hsay.2.2.2
      refine .inl ⟨_, hv, fun w hs => val_run (s := Instr.index t (ρ x) (ρ i)) (by simp only [execOp, ho]) ?_⟩
      simp [hx, hi, Instr.index, asIntOf, run_underlying hsay.1, h1, h2, run_sizeOf hsay.2.1, ← nmu_eq, hrun]
    · rename_i s k j hx hi
      have h1 := hk.lo; have h2 := hk.hi
      refine .inl ⟨_, hk.go, fun w hs => val_run (s := Instr.index t (ρ x) (ρ i)) (by simp only [execOp, ho]) ?_⟩
      simp [hx, hi, Instr.index, asIntOf, run_underlying hsay, h1, h2]
    · exact hk.elim
  · rename_i x i ho
    have h1 := hf x _ h
    unfold exV at h1
    split at h1
    · rename_i vs hx
      obtain ⟨v, hv, hn⟩ := lookup_arr h1
      exact .inl ⟨_, hn, fun w hs => val_run (s := Instr.extract (ρ x) i) (by simp only [execOp, ho]) (by simp [hx, Instr.extract, hv])⟩
    · exact h1.elim
  · rename_i c ho
    split at h
    · rename_i hc
      split at h
      · rename_i x t hx ht
        obtain ⟨y, n, hk, hrow⟩ := hT.row (hf x _ h)
        have hsay := rowOk_says hrow
        have ea : c.args.map ρ = #[ρ x] := by apply Array.ext'; simp [hx]
        have et : c.argTypes = #[t] := by apply Array.ext'; simp [ht]
        have hex : ∀ v w, (Builtin.len_ #[t] o.type #[ρ x]).run C.P w = .ok v w → (execOp ρ o).run C.P w = .ok (.value v) w := fun v w hv => by
          unfold execOp
          simp only [ho, resolve, hc, ea, et]
          simp [invoke, builtin, hv]
        split at hk
        · rename_i s hv; exact .inl ⟨_, hk, fun w hs => hex _ w (by simp [Builtin.len_, hv, run_underlying hsay, goInt])⟩
        · rename_i e n' a m q hv; exact .inl ⟨_, hk, fun w hs => hex _ w (by simp [Builtin.len_, hv, run_underlying hsay.1, goInt])⟩
        · rename_i len e n' g hv; exact .inl ⟨_, hk, fun w hs => hex _ w (by simp [Builtin.len_, run_underlying hsay.1, goInt])⟩
        · rename_i k e hv; exact .inl ⟨_, hk, fun w hs => hex _ w (by simp [Builtin.len_, hv, run_underlying hsay, goInt])⟩
        · exact .inr hk
      · exact .inr h
    · rename_i hc
      split at h
      · rename_i x t hx ht
        obtain ⟨y, n, hk, hrow⟩ := hT.row (hf x _ h)
        have hsay := rowOk_says hrow
        have ea : c.args.map ρ = #[ρ x] := by apply Array.ext'; simp [hx]
        have et : c.argTypes = #[t] := by apply Array.ext'; simp [ht]
        have hex : ∀ v w, (Builtin.cap_ #[t] o.type #[ρ x]).run C.P w = .ok v w → (execOp ρ o).run C.P w = .ok (.value v) w := fun v w hv => by
          unfold execOp
          simp only [ho, resolve, hc, ea, et]
          simp [invoke, builtin, hv]
        split at hk
        · rename_i e n' a m q hv; exact .inl ⟨_, hk, fun w hs => hex _ w (by simp [Builtin.cap_, hv, run_underlying hsay.1, goInt])⟩
        · exact .inr hk
      · exact .inr h
    · exact .inr h
  · exact .inr h
theorem OpS.sem {m : Sem Value} (h : SemP C m L next) (he : execOp ρ o = (do pure (.value (← m)))) (hs : St C.M C.B w L) : OpS C o ρ w next := by
  obtain ⟨v, w', L', hr, hs', hn⟩ := h.go w hs
  exact OpS.val he hr hs' hn
theorem OpS.semu {m : Sem Unit} (h : SemU C m L fun L' => next undef L') (he : execOp ρ o = (do m; pure .skip)) (hs : St C.M C.B w L) : OpS C o ρ w next := by
  obtain ⟨w', L', hr, hs', hn⟩ := h.go w hs
  unfold OpS
  rw [he, Sem.run_bind, hr]
  exact ⟨L', hs', hn⟩
theorem ox_ok (hT : TabOk C.P C.T) (hf : Fit σ ρ) (hs : St C.M C.B w L) (h : ox C o σ L next) : OpS C o ρ w next := by
  unfold ox at h
  split at h
  · rename_i t ho
    obtain ⟨c, hc, hk⟩ := zof_ok _ hT.zero _ _ h
    obtain ⟨v, hv, rfl⟩ := run_zero hc w
    exact OpS.val (s := Instr.alloc t true (.tuple #[])) (by simp only [execOp, ho]) (by simp [Instr.alloc, hv, run_newVar]) (hs.alloc _) (hk _)
  · rename_i t x ho
    exact OpS.val (s := Instr.box t (ρ x)) (by simp only [execOp, ho]) (by simp [Instr.box, run_newVar]) (hs.alloc _) (hf x _ h _)
  · rename_i t n ps ho
    obtain ⟨c, e, hv, go⟩ := pevs_spec hf h
    refine OpS.val (s := Instr.buildSlice t n (ps.map fun (i, x) => (i, ρ x))) (by simp only [execOp, ho]) ?_ (hs.alloc _) (go _)
    have e : (ps.map fun (i, x) => (i, ρ x)) = (ps.toList.map fun p => (p.1, ρ p.2)).toArray := by apply Array.ext'; simp
    rw [e]; exact hv w
  · rename_i t x y ho
    have h1 := hf y _ (hf x _ h)
    unfold stoV at h1
    split at h1
    · rename_i b o hx
      obtain ⟨L', hst, go⟩ := h1
      obtain ⟨w', hr, hs'⟩ := hst w hs
      unfold OpS
      rw [show (execOp ρ _).run C.P w = .ok .skip w' by simp only [execOp, ho]; simp [Instr.storeAt, hx, Instr.sureAddr, hr]]
      exact ⟨L', hs', go⟩
    · exact h1.elim
  · rename_i t x y ho
    obtain ⟨l, m, c, e, hv, go⟩ := hf y _ (hf x _ h)
    exact OpS.val (s := Instr.makeSlice t (ρ x) (ρ y)) (by simp only [execOp, ho]) (hv w) (hs.alloc _) (go _)
  · rename_i op t x y z ho
    have h1 := hf y _ (hf x _ h)
    rcases binV_ok hT h1 with ⟨r, hr, hrun⟩ | hfb
    · exact OpS.val (s := do eqGuard op t x y (ρ x) (ρ y); binOp op t (ρ x) (ρ y)) (by simp only [execOp, ho]) (hrun w) hs hr
    · obtain ⟨v, w', L', hr, hs', hn⟩ := hfb.go w hs
      exact OpS.val (s := do eqGuard op t x y (ρ x) (ρ y); binOp op t (ρ x) (ρ y)) (by simp only [execOp, ho]) hr hs' hn
  · rename_i s d x ho
    obtain ⟨y0, n0, hk0, hrow0⟩ := hT.row (hf x _ h)
    obtain ⟨y, n, hk, hrow⟩ := hT.row hk0
    have hsay := rowOk_says hrow
    have hs0 := (rowOk_says hrow0).agg.2
    cases hu0 : C.P.underlying s with
    | none => rw [hu0] at hs0; cases hs0
    | some d0 =>
    split at hk
    · obtain ⟨v, w', L', hr, hs', hn⟩ := hk.go w hs
      exact OpS.val (s := convert s d (ρ x)) (by simp only [execOp, ho]) hr hs' hn
    split at hk
    · rename_i k q m hx
      refine OpS.val (s := convert s d (ρ x)) (by simp only [execOp, ho]) ?_ hs hk.ok
      simp [convert, hx, run_underlying hu0, run_underlying hsay, Conv.intToInt]
    · rename_i b hx
      refine OpS.val (s := convert s d (ρ x)) (by simp only [execOp, ho]) ?_ hs hk
      simp [convert, hx, run_underlying hu0, run_underlying hsay]
    · obtain ⟨v, w', L', hr, hs', hn⟩ := hk.go w hs
      exact OpS.val (s := convert s d (ρ x)) (by simp only [execOp, ho]) hr hs' hn
  · rename_i t x i ok ho; exact OpS.sem (hf i _ (hf x _ h)) (by simp only [execOp, ho]) hs
  · rename_i t m k x ho; exact OpS.semu (hf x _ (hf k _ (hf m _ h))) (by simp only [execOp, ho]) hs
  · rename_i t m k x ho; exact OpS.semu (hf x _ (hf k _ (hf m _ h))) (by simp only [execOp, ho]) hs
  · rename_i t ho; exact OpS.sem h (by simp only [execOp, ho, Option.map_none]) hs
  · rename_i t m k ho; exact OpS.sem (hf k _ (hf m _ h)) (by simp only [execOp, ho]) hs
  · rename_i t m k x ho; exact OpS.semu (hf x _ (hf k _ (hf m _ h))) (by simp only [execOp, ho]) hs
  · rename_i t x ho; exact OpS.sem (hf x _ h) (by simp only [execOp, ho]) hs
  · rename_i x s ho; exact OpS.sem (hf x _ h) (by simp only [execOp, ho]) hs
  · rename_i x ho; exact OpS.sem (hf x _ h) (by simp only [execOp, ho]) hs
  · rename_i x t u ok ho; exact OpS.sem (hf x _ h) (by simp only [execOp, ho]) hs
  · rename_i c ho
    split at h
    · rename_i f hc
      have h1 := hf.evs _ _ (hf f _ h)
      unfold callV at h1
      split at h1
      · rename_i g fs cs hx
        cases hcl : callable C.T g
        · rw [hcl] at h1; exact h1.go ρ w hf hs
        · rw [hcl] at h1
          have hcall := h1.go w hs
          obtain ⟨fn, k1, k2, k3⟩ := entOk_enters (callable_enters hT hcl)
          have k4 : fn.name ≠ "runtime.NumGoroutine" := by simpa using k2
          have e1 : (fs.toList ++ (c.args.toList.map ρ ++ cs.toList)).toArray = fs ++ c.args.map ρ ++ cs := by apply Array.ext'; simp
          rw [e1] at hcall
          unfold OpS
          have e2 : (execOp ρ o).run C.P w = .ok (.enter g (fs ++ c.args.map ρ ++ cs)) w := by
            unfold execOp
            simp only [ho, resolve, hc, hx]
            cases hb : fn.body with
            | none => rw [hb] at k3; cases k3
            | some code => simp [Deferred.ofValue, invoke, callFunc, k1, k4, hb]
          rw [e2]; exact hcall
      · rename_i l fs cs hx
        have hy := h1.go w hs
        obtain ⟨fn, tm, as, bd, hrun, _⟩ := hy 0
        have e1 : (fs.toList ++ c.args.toList.map ρ).toArray = fs ++ c.args.map ρ := by apply Array.ext'; simp
        rw [e1] at hrun
        unfold OpS
        have e2 : (execOp ρ o).run C.P w = .ok (.round l fn tm as bd) w := by
          unfold execOp
          simp only [ho, resolve, hc, hx]
          simp [Deferred.ofValue, invoke, hrun]
        rw [e2]
        intro m
        obtain ⟨fn', tm', as', bd', hrun', hR⟩ := hy m
        rw [e1, hrun] at hrun'
        injection hrun' with h1 _
        injection h1 with _ h2 h3 h4 h5
        subst h2 h3 h4 h5
        exact hR
      · exact h1.go ρ w hf hs
    · rcases tx_ok hT hf h with ⟨v, hv, hr⟩ | hfb
      · exact .now (hr w hs) hs hv
      · exact hfb.go ρ w hf hs
    · rcases tx_ok hT hf h with ⟨v, hv, hr⟩ | hfb
      · exact .now (hr w hs) hs hv
      · exact hfb.go ρ w hf hs
    · rename_i b _ _ hc
      have h1 := (hf.evs _ _ h).go w hs
      have e1 : (c.args.toList.map ρ).toArray = c.args.map ρ := by apply Array.ext'; simp
      rw [e1] at h1
      unfold OpS
      have e2 : execOp ρ o = builtin b c.argTypes o.type (consts c) (c.args.map ρ) := by
        unfold execOp
        simp only [ho, resolve, hc]
        rfl
      rw [e2]; exact h1
    · exact h.go ρ w hf hs
  · rcases tx_ok hT hf h with ⟨v, hv, hr⟩ | hfb
    · exact .now (hr w hs) hs hv
    · exact hfb.go ρ w hf hs
end Go.Sx
