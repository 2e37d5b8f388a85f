/- Symbolic steps, ninth part: a callee is walked in its caller's words. -/
import Derived.Test.YtpegkoklmhccjaaDoorSxH
namespace Go.Sx
open Go Go.RowKit
set_option linter.unusedVariables false
variable {C : Cx} {L : List Ent}

/-- a function with a body, wherever its caller stands -/
theorem enterB {P : Program} {T : Tab} (hT : TabOk P T) {g : FuncId} {fn : Func} {c : Code} (hf : P.funcs[g]? = some fn) (hb : fn.body = some c) {N : Nat} (hN : fn.ntmps = N) {vs : List Value} (hle : Nat.ble vs.length N = true) {M : Bks} {B w : World} {L : List Ent}
    {R : Value → World → Prop} (hs : St M B w L) (h : cx ⟨P, T, N, M, B, none⟩ c (retK ⟨P, T, N, M, B, none⟩ fn R) ⟨par 0 vs, L, []⟩) : Calls P g vs.toArray w fun e w' => ∃ v, e = .returned v ∧ R v w' := by
  subst hN
  refine (callsIn_wide (n := 3)).1 (callsIn_of_wp_marks hf hb trivial (wpIn_mono ((cx_ok (C := ⟨P, T, fn.ntmps, M, B, none⟩) hT _ _ _ h).go 3 _ w ⟨by have := Nat.le_of_ble_eq_true hle; simp; omega, rfl, ?_⟩ hs) ?_) rfl)
  · intro i v hv
    obtain ⟨_, h1⟩ := par_get _ _ _ _ hv
    have hi : i < vs.length := (List.getElem?_eq_some_iff.1 h1).1
    simp [Array.getD_eq_getD_getElem?, Array.getElem?_append, hi]
    simpa [hi] using h1
  · rintro e a w' ⟨s, hf', hs', hk⟩
    have hd := hf'.defers
    cases e with
    | normal => simp only [bodyPostM, hd]; exact retV_ok (C := ⟨P, T, fn.ntmps, M, B, none⟩) hT hf'.slot s.D s.L w' hs' hk
    | ret => simp only [bodyPostM, hd]; exact retV_ok (C := ⟨P, T, fn.ntmps, M, B, none⟩) hT hf'.slot s.D s.L w' hs' hk
    | _ => exact hk.elim
/-- what a callee must do for its caller to go on -/
def Back (M : Bks) (B : World) (next : Value → List Ent → Prop) (v : Value) (w' : World) : Prop := ∃ L', St M B w' L' ∧ next v L'
/-- a call: its body, in the caller's words -/
theorem inl (hT : TabOk C.P C.T) {g : FuncId} {fn : Func} {c : Code} (hf : C.P.funcs[g]? = some fn) (hb : fn.body = some c) {N : Nat} (hN : fn.ntmps = N) {vs : List Value} (hle : Nat.ble vs.length N = true) {next : Value → List Ent → Prop}
    (h : cx ⟨C.P, C.T, N, C.M, C.B, none⟩ c (retK ⟨C.P, C.T, N, C.M, C.B, none⟩ fn (Back C.M C.B next)) ⟨par 0 vs, L, []⟩) : CallP C g vs L next :=
  ⟨fun w hs => (enterB hT hf hb hN hle hs h).mono fun e w' ⟨v, he, L', h1, h2⟩ => ⟨v, L', he, h1, h2⟩⟩
/-- a call that was put off: its body -/
theorem dfl (hT : TabOk C.P C.T) {g : FuncId} {fn : Func} {c : Code} (hf : C.P.funcs[g]? = some fn) (hb : fn.body = some c) {N : Nat} (hN : fn.ntmps = N) {vs : List Value} (hle : Nat.ble vs.length N = true) {next : List Ent → Prop} (hcl : callable C.T g = true)
    (h : cx ⟨C.P, C.T, N, C.M, C.B, none⟩ c (fun e s => s.D = [] ∧ retK ⟨C.P, C.T, N, C.M, C.B, none⟩ fn (Back C.M C.B fun _ => next) e s) ⟨par 0 vs, L, []⟩) : DefP C g vs L next := by
  subst hN
  obtain ⟨fn0, k1, k2, k3⟩ := entOk_enters (callable_enters hT hcl)
  have k4 : fn0.name ≠ "runtime.NumGoroutine" := by simpa using k2
  refine ⟨fun w => ?_, fun w hs n => ?_⟩
  · cases hb0 : fn0.body with
    | none => rw [hb0] at k3; cases k3
    | some code => simp [callFunc, k1, k4, hb0]
  · refine (callsDIn_of_wp (R := fun e w' => ∃ v L', e = .returned v ∧ St C.M C.B w' L' ∧ next L') hf hb trivial (wpIn_mono ((cx_ok (C := ⟨C.P, C.T, fn.ntmps, C.M, C.B, none⟩) hT _ _ _ h).go n _ w ⟨by have := Nat.le_of_ble_eq_true hle; simp; omega, rfl, ?_⟩ hs) ?_) rfl)
    · intro i v hv
      obtain ⟨_, h1⟩ := par_get _ _ _ _ hv
      have hi : i < vs.length := (List.getElem?_eq_some_iff.1 h1).1
      simp [Array.getD_eq_getD_getElem?, Array.getElem?_append, hi]
      simpa [hi] using h1
    · have key : ∀ (s : Sy) (a : Act) (w' : World), Fits fn.ntmps s a → St C.M C.B w' s.L → s.D = [] → retV ⟨C.P, C.T, fn.ntmps, C.M, C.B, none⟩ fn (Back C.M C.B fun _ => next) s → a.defers = [] ∧ ∃ v, (results fn a.tmps).run C.P w' = .ok v w' ∧ ∃ v_1 L', Ending.returned v = .returned v_1 ∧ St C.M C.B w' L' ∧ next L' := by
        intro s a w' hf' hs' hD hk
        unfold retV at hk
        rw [hD] at hk
        have := retV_ok (C := ⟨C.P, C.T, fn.ntmps, C.M, C.B, none⟩) (n := n) hT hf'.slot [] s.L w' hs' hk
        obtain ⟨v, hr, u, he, L', h1, h2⟩ := this
        exact ⟨by rw [hf'.defers, hD], v, hr, v, L', rfl, h1, h2⟩
      rintro e a w' ⟨s, hf', hs', hD, hk⟩
      cases e with
      | normal => exact key s a w' hf' hs' hD hk
      | ret => exact key s a w' hf' hs' hD hk
      | _ => exact hk.elim
/-- it returns to its caller -/
theorem bk {P : Program} {T : Tab} {N : Nat} {M : Bks} {B : World} {F : Option Nat} {next : Value → List Ent → Prop} {v : Value} (h : next v L) : RetP ⟨P, T, N, M, B, F⟩ (Back M B next) v L := ⟨fun w hs => ⟨L, hs, h⟩⟩
/-- fewer blocks are known behind a call -/
theorem CallP.le {g : FuncId} {vs : List Value} {L' : List Ent} {next : Value → List Ent → Prop} (hs : Sub L' L) (h : CallP C g vs L' next) : CallP C g vs L next := ⟨fun w hw => h.go w (hw.sub hs)⟩
theorem len_set {k i : Nat} {e : Ent} {f : Ent} (hi : L[i]? = some f) (hk : k ≠ i) : (L.set k e)[i]? = some f := by rw [List.getElem?_set_ne hk]; exact hi
theorem at_set {k : Nat} {e f : Ent} (hi : L[k]? = some f) : (L.set k e)[k]? = some e := by
  have := (List.getElem?_eq_some_iff.1 hi).1
  simp [this]
/-- it is worked out, and nothing turns -/
theorem semV {m : Sem Value} {v : Value} {next : Value → List Ent → Prop} (h : ∀ w, St C.M C.B w L → m.run C.P w = .ok v w) (go : next v L) : SemP C m L next := ⟨fun w hs => ⟨v, w, L, h w hs, hs, go⟩⟩
/-- an operation that is not reckoned: it gives v, and nothing turns -/
theorem opV {o : Oper} {σ : Fr} {v : Value} {next : Value → List Ent → Prop} (h : ∀ ρ w, Fit σ ρ → St C.M C.B w L → (execOp ρ o).run C.P w = .ok (.value v) w) (go : next v L) : OpP C o σ L next :=
  ⟨fun ρ w hf hs => Fin.val (h ρ w hf hs) hs go⟩
/-- a function that the program's text doesn't have -/
theorem extV {o : Oper} {σ : Fr} {v : Value} {x : Operand} {as : Array Operand} {ts : Array TypeId} {g : FuncId} {vs : List Value} {next : Value → List Ent → Prop} (ho : o.op = .call ⟨.value x, as, ts⟩) (hx : ev σ x (· = .func (.func g) #[] #[])) (ha : evs σ as.toList (· = vs))
    (h : ∀ w, St C.M C.B w L → (callFunc g vs.toArray).run C.P w = .ok (.value v) w) (go : next v L) : OpP C o σ L next := by
  refine opV (fun ρ w hf hs => ?_) go
  have e1 := hf x _ hx
  have e2 := hf.evs _ _ ha
  have e3 : as.map ρ = vs.toArray := by apply Array.ext'; rw [← e2]; simp
  unfold execOp
  simp only [ho, resolve, e1, e3]
  simp [Deferred.ofValue, invoke, h w hs]
theorem set_same {k : Nat} {e : Ent} (h : L[k]? = some e) : L.set k e = L := by
  obtain ⟨h1, h2⟩ := List.getElem?_eq_some_iff.1 h
  subst h2; exact List.set_getElem_self h1
/-- something turned a block of one's own: it isn't known any more -/
theorem St.lose {M : Bks} {B w w' : World} (h : St M B w L) {k b : Nat} {o o' : Obj} (hk : L[k]? = some ⟨b, some o, false, none⟩) (hs : w.heap.size ≤ w'.heap.size) (ho : w'.heap[b]? = some o')
    (hoth : ∀ j, j < w.heap.size → j ≠ b → w'.heap[j]? = w.heap[j]?) (h1 : w'.os = w.os) (h2 : w'.tape = w.tape) (h3 : w'.output = w.output) : St M B w' (L.set k dead) := by
  have := (h.set hk hs ho hoth h1 h2 h3).kill k
  rwa [List.set_set] at this
theorem at_app {i : Nat} {e : Ent} {l : List Ent} (h : L[i]? = some e) : (L ++ l)[i]? = some e := by
  have := (List.getElem?_eq_some_iff.1 h).1
  rw [List.getElem?_append_left this]; exact h
theorem at_new {e : Ent} : (L ++ [e])[L.length]? = some e := by simp
theorem at_len {i : Nat} {e : Ent} (h : L[i]? = some e) : i < L.length := (List.getElem?_eq_some_iff.1 h).1
theorem sub_app (l : List Ent) : Sub L (L ++ l) := by
  induction L with
  | nil => exact .nil
  | cons e L ih => exact .cons ih
/-- it returns to its caller, who needs no more than this -/
theorem bkS {P : Program} {T : Tab} {N : Nat} {M : Bks} {B : World} {F : Option Nat} {next : Value → List Ent → Prop} {v : Value} {L' : List Ent} (hs : Sub L' L) (h : next v L') : RetP ⟨P, T, N, M, B, F⟩ (Back M B next) v L := ⟨fun w hw => ⟨L', hw.sub hs, h⟩⟩
theorem sub3 {k kr : Nat} {e1 e2 f g h : Ent} {l : List Ent} (hkr : k ≠ kr) (h1 : L[k]? = some g) (h2 : L[kr]? = some h) : Sub ((L.set k e2).set kr f) (((L.set k e1 ++ l).set kr f).set k e2) := by
  have l1 := at_len h1
  have l2 := at_len h2
  rw [List.set_append_left _ _ (by simpa using l2), List.set_append_left _ _ (by simpa using l1), List.set_comm _ _ (Ne.symm hkr), List.set_set]
  exact sub_app _
theorem sub_dead (k : Nat) : Sub (L.set k dead) L := by
  induction L generalizing k with
  | nil => exact .nil
  | cons e L ih =>
    cases k with
    | zero => exact .dead (Sub.refl L)
    | succ k => exact .cons (ih k)
/-- an array or a struct, built of its parts -/
theorem bu {P : Program} {t : TypeId} {ps : Array (Nat × Value)} {c : Array Value} {next : Value → Prop} (h : P.built t ps.toList = some c) (go : next (.agg c)) : BuP P t ps next := ⟨_, fun w => run_build w t ps c h, go⟩
/-- a builtin that gives a value, as it runs -/
theorem biW {b : Builtin} {ts : Array TypeId} {t : TypeId} {cs : Array Bool} {vs : List Value} {next : Value → List Ent → Prop} {m : Sem Value} (hb : builtin b ts t cs vs.toArray = (do pure (.value (← m)))) (h : ∀ w, St C.M C.B w L → ∃ v w' L', m.run C.P w = .ok v w' ∧ St C.M C.B w' L' ∧ next v L') : BiP C b ts t cs vs L next := by
  refine ⟨fun w hs => ?_⟩
  obtain ⟨v, w', L', hr, hs', hn⟩ := h w hs
  rw [hb, Sem.run_bind, hr]
  exact ⟨L', hs', hn⟩
theorem biV {b : Builtin} {ts : Array TypeId} {t : TypeId} {cs : Array Bool} {vs : List Value} {next : Value → List Ent → Prop} {m : Sem Value} {v : Value} (hb : builtin b ts t cs vs.toArray = (do pure (.value (← m)))) (h : ∀ w, St C.M C.B w L → m.run C.P w = .ok v w) (go : next v L) : BiP C b ts t cs vs L next :=
  biW hb fun w hs => ⟨v, w, L, h w hs, hs, go⟩
/-- cells are frozen -/
theorem St.freeze {M : Bks} {B w : World} (hs : St M B w L) {k b : Nat} {c : Array Value} {t : TypeId} (hk : L[k]? = some (cl b c t)) (o n : Nat) (hn : n ≠ 0) : St M B (w.freeze ⟨b, o, none⟩ n) (L.set k ⟨b, some (.cells c t (o, o + n)), false, none⟩) := by
  have hg := hs.nth hk
  refine hs.set hk (o' := .cells c t (o, o + n)) ?_ ?_ (fun i hi hne => ?_) ?_ ?_ ?_ <;> unfold World.freeze <;> rw [if_neg hn]
  · simp
  · simp [Array.getElem?_modify, hg]
  · simp [Array.getElem?_modify]
    exact fun h => absurd h (Ne.symm hne)
/-- a constant's bytes -/
theorem cvB (k : Nat) {t e : TypeId} {b n m : Nat} {c : Array Value} {next : Value → List Ent → Prop} (ht : C.P.underlying t = some (.slice e)) (he : C.P.underlying e = some (.int .u8)) (hk : L[k]? = some (cl b c e)) (go : next (.slice (some ⟨b, 0, none⟩) n m) (L.set k ⟨b, some (.cells c e (c.size, c.size + 1)), false, none⟩)) :
    SemP C (convert t t (.slice (some ⟨b, 0, none⟩) n m)) L next := by
  refine ⟨fun w hs => ⟨_, w.freeze ⟨b, c.size, none⟩ 1, _, ?_, hs.freeze hk c.size 1 (by decide), go⟩⟩
  have hsh : w.shape? b = some (e, c.size) := by simp [World.shape?, hs.nth hk]
  simp [convert, run_underlying ht, run_underlying he, markStringish, hsh]
/-- a beginning of a slice, by its length -/
theorem slTo {e z : Nat} {aa : Option Addr} {n cap k : Nat} (ha : ∀ a, aa = some a → a.spot = none) (hk : k ≤ n) (hc : n ≤ cap) {next : Value → Prop} {fb : Prop} (go : next (.slice aa k cap)) : SliP (.sl e z) (.slice aa n cap) none (some (k : Int)) none next fb := by
  refine ⟨?_⟩
  cases aa with
  | none =>
    refine .mk 0 k cap rfl rfl rfl (Nat.zero_le _) (by omega) (Nat.le_refl _) (by simp) ?_
    exact go
  | some a =>
    obtain ⟨b, o, sp⟩ := a
    obtain rfl : sp = none := ha _ rfl
    refine .mk 0 k cap rfl rfl rfl (Nat.zero_le _) (by omega) (Nat.le_refl _) (by simp) ?_
    by_cases h0 : cap = 0
    · exact .all h0 go
    · refine .on (by omega) ?_
      rw [nad_eq, nmu_eq, Nat.zero_mul, Nat.add_zero]; exact go
theorem St.deads {M : Bks} {B w : World} (h : St M B w L) : St M B w (L ++ [dead]) := h.push (Below.refl _ _) (by simp) (fun k hk => by simp at hk) (fun k hk => by simp at hk)
/-- a loop that is left in one state, by whichever way -/
theorem lpe {C : Cx} (hT : TabOk C.P C.T) {body : Code} {K : Exit → Sy → Prop} {s : Sy} (id : Nat) {β : Type} (I : β → Prop) (E : β → Sy) {α : Type} (J : α → Prop) (f : α → Sy) (μ : α → Nat) (x0 : α) (h0 : J x0) (hle : Le (f x0) s)
    (step : ∀ x, J x → cx C body (fun e s' => match e with | .normal => ∃ y, J y ∧ μ y < μ x ∧ Le (f y) s' | .exit j => cond (Nat.beq j id) (∃ z, I z ∧ Le (E z) s') (K (.exit j) s') | e => K e s') (f x))
    (hE : ∀ z, I z → K (.exit id) (E z)) : LoopP C body K s := by
  have h := lp hT (K := fun e s' => match e with | .exit j => cond (Nat.beq j id) (∃ z, I z ∧ Le (E z) s') (K (.exit j) s') | e => K e s') J f μ x0 h0 hle (fun x hx => by
    have := step x hx
    have e : (fun e s' => match e with | .normal => ∃ y, J y ∧ μ y < μ x ∧ Le (f y) s' | .exit j => cond (Nat.beq j id) (∃ z, I z ∧ Le (E z) s') (K (.exit j) s') | e => K e s') = (fun e s' => match e with | .normal => ∃ y, J y ∧ μ y < μ x ∧ Le (f y) s' | e => (fun e s' => match e with | .exit j => cond (Nat.beq j id) (∃ z, I z ∧ Le (E z) s') (K (.exit j) s') | e => K e s') e s' : Exit → Sy → Prop) := by
      funext e s'; cases e <;> rfl
    rw [e] at this; exact this)
  refine ⟨fun n a w hf hs => wpIn_mono (h.go n a w hf hs) ?_⟩
  rintro e a' w' ⟨s', hf', hs', hk⟩
  cases e with
  | exit j =>
    simp only at hk
    by_cases hj : j = id
    · subst hj
      simp only [Nat.beq_refl, cond_true] at hk
      obtain ⟨z, hz, hle⟩ := hk
      exact ⟨E z, hf'.le hle, hs'.sub hle.l, hE z hz⟩
    · have : Nat.beq j id = false := Bool.eq_false_iff.2 fun e => hj (Nat.eq_of_beq_eq_true e)
      simp only [this, cond_false] at hk
      exact ⟨s', hf', hs', hk⟩
  | _ => exact ⟨s', hf', hs', hk⟩
end Go.Sx
