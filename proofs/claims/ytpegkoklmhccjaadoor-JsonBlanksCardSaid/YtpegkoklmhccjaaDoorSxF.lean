/- Symbolic steps, sixth part: regions that draw their order. -/
import Derived.Test.YtpegkoklmhccjaaDoorSxE
namespace Go.Sx
open Go Go.RowKit
variable {C : Cx} {ops : Array Oper} {L0 : List Ent} {f : List Nat}

theorem Fin.mono {k k' : Value → List Ent → Prop} (hk : ∀ v L, k v L → k' v L) {r : Result Next} (h : Fin C k r) : Fin C k' r := by
  unfold Fin at *
  split at h
  · obtain ⟨L, h1, h2⟩ := h; exact ⟨L, h1, hk _ _ h2⟩
  · obtain ⟨L, h1, h2⟩ := h; exact ⟨L, h1, hk _ _ h2⟩
  · exact Calls.mono h fun e w he => by obtain ⟨v, L, h0, h1, h2⟩ := he; exact ⟨v, L, h0, h1, hk _ _ h2⟩
  · exact Rows.mono h fun e w he => by obtain ⟨L, h1, h2⟩ := he; exact ⟨L, h1, hk _ _ h2⟩
  · exact fun m => (h m).mono fun e w he => by obtain ⟨v, L, h0, h1, h2⟩ := he; exact ⟨v, L, h0, h1, hk _ _ h2⟩
  · exact h.elim
/-- it gives v, and nothing that was there turns -/
def FinT (C : Cx) (v : Value) (w : World) : Result Next → Prop
  | .ok (.value u) w' => u = v ∧ w' = w
  | .ok (.enter g args) w' => w' = w ∧ Calls C.P g args w fun e w'' => e = .returned v ∧ Below w.heap.size w w''
  | _ => False
def Tk (C : Cx) (ops : Array Oper) (L0 : List Ent) (o : Oper) (v : Value) (a : Act) : Prop :=
  (Region.wanted o (yielded ops a.tmps) = true ∧ ∀ w, St C.M C.B w L0 → FinT C v w ((execOp a.eval o).run C.P w)) ∨ (Region.wanted o (yielded ops a.tmps) = false ∧ v = undef)
def StepG (C : Cx) (ops : Array Oper) (o : Oper) (a : Act) (w : World) (L : List Ent) (k : Value → List Ent → Prop) : Prop :=
  (Region.wanted o (yielded ops a.tmps) = true → OpS C o a.eval w k) ∧ (Region.wanted o (yielded ops a.tmps) = false → k undef L)
theorem StepG.mono {o : Oper} {a : Act} {w : World} {L : List Ent} {k k' : Value → List Ent → Prop} (hk : ∀ v L, k v L → k' v L) (h : StepG C ops o a w L k) : StepG C ops o a w L k' :=
  ⟨fun hw => Fin.mono hk (h.1 hw), fun hw => hk _ _ (h.2 hw)⟩
def memN (i : Nat) : List Nat → Bool
  | [] => false
  | x :: l => cond (Nat.beq i x) true (memN i l)
def dG (C : Cx) (ops : Array Oper) (L0 : List Ent) (f : List Nat) (Q : Act → World → Prop) : Nat → Array Bool → Sy → Prop
  | 0, listed, s => Region.ready .any ops listed = [] ∧ ∀ a w, Fits C.N s a → St C.M C.B w s.L → Q a w
  | n + 1, listed, s => (Region.ready .any ops listed = [] → ∀ a w, Fits C.N s a → St C.M C.B w s.L → Q a w) ∧
      ∀ j ∈ Region.ready .any ops listed, ∀ o, ops[j]? = some o → ∀ a w, Fits C.N s a → St C.M C.B w s.L →
        StepG C ops o a w s.L fun u L' => (memN j f = false → Sub L0 L') ∧ dG C ops L0 f Q n (listed.setIfInBounds j true) ⟨put C.N o.dst u s.σ, L', s.D⟩
variable {Q : Act → World → Prop}
theorem dG_any {Q' : Exit → Act → World → Prop} {m : Nat} (hQ : ∀ a w, Q a w → Q' .normal a w) (n : Nat) : ∀ (listed : Array Bool) (s : Sy), dG C ops L0 f Q n listed s → ∀ a w, Fits C.N s a → St C.M C.B w s.L → wpAnyIn C.fence m C.P .any ops Q' n listed a w := by
  have fnw : ∀ f, C.fence.fn f := by unfold Cx.fence; cases C.F <;> exact fun _ => trivial
  induction n with
  | zero => intro listed s h a w hf hs; exact ⟨h.1, hQ _ _ (h.2 a w hf hs)⟩
  | succ n ih =>
    intro listed s h a w hf hs
    refine ⟨fun h0 => hQ _ _ (h.1 h0 a w hf hs), fun j hj => ?_⟩
    obtain ⟨_, o, ho, _⟩ := mem_ready.1 hj
    have h1 := h.2 j hj o ho a w hf hs
    unfold wpOpIn
    rw [ho]
    cases hw : Region.wanted o (yielded ops a.tmps)
    · simp only [hw, Bool.false_eq_true, if_false]
      exact ⟨fun f _ => fnw f, ih _ _ (h1.2 hw).2 _ _ (hf.put _ _ _) hs⟩
    · simp only [hw, if_true]
      exact op_in (h1.1 hw) fun v L' w' h2 h3 => ih _ _ h3.2 _ _ (hf.put _ _ _) h2

/-- two lists that say the same -/
def Eqv (σ τ : Fr) : Prop := ∀ t, get σ t = get τ t
theorem get_put (N : Nat) (d : Option Nat) (v : Value) (σ : Fr) (t : Nat) : get (put N d v σ) t = if d = some t ∧ t < N then some v else get σ t := by
  cases d with
  | none => simp [put]
  | some d =>
    unfold put
    by_cases hd : d < N
    · have hb : Nat.blt d N = true := by simpa using hd
      simp only [hb, cond_true, get]
      by_cases hdt : d = t
      · subst hdt; simp [hd]
      · have : Nat.beq d t = false := Bool.eq_false_iff.2 fun e => hdt (Nat.eq_of_beq_eq_true e)
        simp [this, hdt]
    · have hb : Nat.blt d N = false := Bool.eq_false_iff.2 fun e => hd (by simpa using e)
      simp only [hb, cond_false]
      rw [if_neg]
      rintro ⟨h1, h2⟩
      obtain rfl := Option.some.inj h1
      exact hd h2
theorem Eqv.put {σ τ : Fr} (h : Eqv σ τ) (N : Nat) (d : Option Nat) (v : Value) : Eqv (put N d v σ) (put N d v τ) := fun t => by rw [get_put, get_put, h t]
theorem eqv_comm (N : Nat) (d e : Option Nat) (v u : Value) (σ : Fr) (h : ∀ t, d = some t → e ≠ some t) : Eqv (put N d v (put N e u σ)) (put N e u (put N d v σ)) := fun t => by
  simp only [get_put]
  by_cases h1 : d = some t ∧ t < N
  · have := h t h1.1
    simp [h1, this]
  · rw [if_neg h1]
    by_cases h2 : e = some t ∧ t < N
    · simp [h2]
    · rw [if_neg h2, if_neg h2, if_neg h1]
theorem Fits.eqv {N : Nat} {σ τ : Fr} {L L' : List Ent} {D : List Deferred} {a : Act} (h : Fits N ⟨τ, L, D⟩ a) (he : Eqv σ τ) : Fits N ⟨σ, L', D⟩ a := ⟨h.size, h.defers, fun i v hv => h.slot i v ((he i).symm.trans hv)⟩
theorem dG_eqv (n : Nat) : ∀ (listed : Array Bool) (σ τ : Fr) (L : List Ent) (D : List Deferred), Eqv σ τ → dG C ops L0 f Q n listed ⟨σ, L, D⟩ → dG C ops L0 f Q n listed ⟨τ, L, D⟩ := by
  induction n with
  | zero => intro listed σ τ L D he h; exact ⟨h.1, fun a w hf hs => h.2 a w (hf.eqv he) hs⟩
  | succ n ih =>
    intro listed σ τ L D he h
    refine ⟨fun h0 a w hf hs => h.1 h0 a w (hf.eqv he) hs, fun j hj o ho a w hf hs => ?_⟩
    exact (h.2 j hj o ho a w (hf.eqv he) hs).mono fun u L' hk => ⟨hk.1, ih _ _ _ _ _ (he.put _ _ _) hk.2⟩

theorem Fits.put_back {N : Nat} {s : Sy} {L : List Ent} {a : Act} {d : Option Nat} {u : Value} (h : Fits N ⟨Sx.put N d u s.σ, L, s.D⟩ a) : ∃ x, Fits N s (a.put d x) := by
  cases d with
  | none => exact ⟨undef, h.size, h.defers, fun i v hv => h.slot i v (by rw [get_put]; simpa using hv)⟩
  | some d =>
    refine ⟨(get s.σ d).getD undef, by simp [Act.put, h.size], h.defers, fun i v hv => ?_⟩
    have h2 := h.slot i
    simp only [get_put] at h2
    simp only [Act.put, Array.getD_eq_getD_getElem?] at h2 ⊢
    by_cases hdi : d = i
    · subst hdi
      by_cases hd : d < N
      · simp [h.size, hd, hv]
      · have := h2 v (by rw [if_neg (by simp [hd])]; exact hv)
        rw [Array.getElem?_eq_none (by simp [h.size]; omega)]
        rw [Array.getElem?_eq_none (by rw [h.size]; omega)] at this
        exact this
    · rw [Array.getElem?_setIfInBounds_ne hdi]
      exact h2 v (by rw [if_neg (by simp [hdi])]; exact hv)
theorem Tk.same {o : Oper} (hs : ∀ cs b, o.op ≠ .select cs b) {v u : Value} {a : Act} {d : Option Nat} (hd : ∀ t, d = some t → t ∉ o.looksAt ops) (h : Tk C ops L0 o v (a.put d u)) : Tk C ops L0 o v a := by
  unfold Tk at *
  rwa [execOp_put o hs a d u hd, wanted_put o a d u hd] at h
/-- what is listed was ready once -/
def Shut (ops : Array Oper) (l : Array Bool) : Prop := ∀ j o, ops[j]? = some o → l.getD j true = true → ∀ e ∈ o.after, Region.binds .any e = true → l.getD e.on true = true
/-- it comes behind i -/
inductive Dep (ops : Array Oper) (i : Nat) : Nat → Prop
  | one {j : Nat} {o : Oper} {e : Edge} (ho : ops[j]? = some o) (he : e ∈ o.after) (hb : Region.binds .any e = true) (hi : e.on = i) : Dep ops i j
  | more {j : Nat} {o : Oper} {e : Edge} (ho : ops[j]? = some o) (he : e ∈ o.after) (hb : Region.binds .any e = true) (hd : Dep ops i e.on) : Dep ops i j
theorem getD_ft {l : Array Bool} {i : Nat} (h : l.getD i false = true) : l.getD i true = true := by
  by_cases hi : i < l.size
  · simpa [hi] using h
  · simp [Array.getElem?_eq_none (Nat.le_of_not_lt hi)]
theorem Dep.off {ops : Array Oper} {i j : Nat} {l : Array Bool} (hl : Shut ops l) (hi : l.getD i true = false) (h : Dep ops i j) : l.getD j true = false ∧ j ∉ Region.ready .any ops l := by
  have key : ∀ (j : Nat) (o : Oper) (e : Edge), ops[j]? = some o → e ∈ o.after → Region.binds .any e = true → l.getD e.on true = false → l.getD j true = false ∧ j ∉ Region.ready .any ops l := by
    intro j o e ho he hb h0
    refine ⟨?_, fun hr => ?_⟩
    · cases hj : l.getD j true
      · rfl
      · have := hl j o ho hj e he hb; rw [h0] at this; cases this
    · obtain ⟨_, o', ho', hall⟩ := mem_ready.1 hr
      obtain rfl : o' = o := Option.some.inj (ho'.symm.trans ho)
      have := getD_ft (hall e he hb)
      rw [h0] at this; cases this
  induction h with
  | one ho he hb heq => exact key _ _ _ ho he hb (heq ▸ hi)
  | more ho he hb _ ih => exact key _ _ _ ho he hb ih.1
theorem Shut.next {ops : Array Oper} {j : Nat} {l : Array Bool} (hl : Shut ops l) (hj : j ∈ Region.ready .any ops l) : Shut ops (l.setIfInBounds j true) := by
  have up : ∀ k, l.getD k true = true → (l.setIfInBounds j true).getD k true = true := by
    intro k hk
    by_cases hjk : j = k
    · subst hjk
      by_cases hlt : j < l.size
      · simp [hlt]
      · simp
    · rw [getD_set_ne true hjk]; exact hk
  intro k o hk h e he hb
  by_cases hjk : j = k
  · subst hjk
    obtain ⟨_, o', ho', hall⟩ := mem_ready.1 hj
    obtain rfl : o' = o := Option.some.inj (ho'.symm.trans hk)
    exact up _ (getD_ft (hall e he hb))
  · rw [getD_set_ne true hjk] at h
    exact up _ (hl k o hk h e he hb)
/-- one operation may be taken first -/
theorem dG_take {i : Nat} {oi : Oper} {v : Value} (hi : ops[i]? = some oi) (hsel : Region.noSelect ops = true) (hif : memN i f = false) (hf : ∀ j, memN j f = true → (ops[j]?).isSome = true → Dep ops i j) (n : Nat) :
    ∀ (listed : Array Bool) (s : Sy), Shut ops listed → (∀ j oj, ops[j]? = some oj → j ≠ i → listed.getD j true = false → (∀ e ∈ oj.after, Region.binds .any e = true → e.on ≠ i) → oi.apart ops oj = true) →
      i ∈ Region.ready .any ops listed → Sub L0 s.L → (∀ a, Fits C.N s a → Tk C ops L0 oi v a) → dG C ops L0 f Q n (listed.setIfInBounds i true) ⟨put C.N oi.dst v s.σ, s.L, s.D⟩ → dG C ops L0 f Q (n + 1) listed s := by
  have hse := Region.noSelect_spec hsel
  have own : ∀ (n : Nat) (listed : Array Bool) (s : Sy) (a : Act) (w : World), Sub L0 s.L → (∀ a, Fits C.N s a → Tk C ops L0 oi v a) → dG C ops L0 f Q n (listed.setIfInBounds i true) ⟨put C.N oi.dst v s.σ, s.L, s.D⟩ → Fits C.N s a → St C.M C.B w s.L →
      StepG C ops oi a w s.L fun u L' => (memN i f = false → Sub L0 L') ∧ dG C ops L0 f Q n (listed.setIfInBounds i true) ⟨put C.N oi.dst u s.σ, L', s.D⟩ := by
    intro n listed s a w hsub hTk H hf' hs
    rcases hTk a hf' with ⟨hw, hr⟩ | ⟨hw, rfl⟩
    · refine ⟨fun _ => ?_, fun h => (by rw [hw] at h; cases h)⟩
      have h1 := hr w (hs.sub hsub)
      unfold OpS
      generalize (execOp a.eval oi).run C.P w = r at h1
      unfold FinT at h1
      split at h1
      · obtain ⟨rfl, rfl⟩ := h1; exact ⟨s.L, hs, fun _ => hsub, H⟩
      · obtain ⟨rfl, h2⟩ := h1
        refine Calls.mono h2 fun e w'' he => ?_
        obtain ⟨rfl, hb⟩ := he
        exact ⟨v, s.L, rfl, hs.call hb, fun _ => hsub, H⟩
      · exact h1.elim
    · exact ⟨fun h => (by rw [hw] at h; cases h), fun _ => ⟨fun _ => hsub, H⟩⟩
  induction n with
  | zero =>
    intro listed s _ _ hr hsub hTk H
    refine ⟨fun h => (by rw [h] at hr; cases hr), fun j hj o ho a w hf' hs => ?_⟩
    by_cases hji : j = i
    · subst hji
      obtain rfl : oi = o := Option.some.inj (hi.symm.trans ho)
      exact own 0 listed s a w hsub hTk H hf' hs
    · have h0 := ready_mono hj hji
      rw [H.1] at h0
      cases h0
  | succ n ih =>
    intro listed s hsh hfree hr hsub hTk H
    refine ⟨fun h => (by rw [h] at hr; cases hr), fun j hj o ho a w hf' hs => ?_⟩
    by_cases hji : j = i
    · subst hji
      obtain rfl : oi = o := Option.some.inj (hi.symm.trans ho)
      exact own (n + 1) listed s a w hsub hTk H hf' hs
    have hiun := (mem_ready.1 hr).1
    obtain ⟨hjun, oj, hoj, hall⟩ := mem_ready.1 hj
    obtain rfl : o = oj := Option.some.inj (ho.symm.trans hoj)
    have hnot : ∀ e ∈ o.after, Region.binds .any e = true → e.on ≠ i := by
      intro e he hb heq
      have h1 := hall e he hb
      rw [heq] at h1
      by_cases hlt : i < listed.size
      · simp [hlt] at hiun h1; rw [hiun] at h1; cases h1
      · simp [Array.getElem?_eq_none (Nat.le_of_not_lt hlt)] at h1
    have hjf : memN j f = false := by
      cases hm : memN j f
      · rfl
      · exact absurd hj ((hf j hm (by rw [hoj]; rfl)).off hsh hiun).2
    have hap := hfree j o hoj hji hjun hnot
    obtain ⟨p1, p2, p3⟩ := Oper.apart_spec hap
    have h1 := H.2 j (ready_mono hj hji) o ho (a.put oi.dst v) w (hf'.put _ _ _) hs
    have h2 : StepG C ops o a w s.L fun u L' => (memN j f = false → Sub L0 L') ∧ dG C ops L0 f Q n ((listed.setIfInBounds i true).setIfInBounds j true) ⟨put C.N o.dst u (put C.N oi.dst v s.σ), L', s.D⟩ := by
      unfold StepG OpS at *
      rwa [execOp_put o (fun cs b => hse j o cs b ho) a oi.dst v p1, wanted_put o a oi.dst v p1] at h1
    refine h2.mono fun u L' hk => ⟨hk.1, ?_⟩
    refine ih (listed.setIfInBounds j true) ⟨put C.N o.dst u s.σ, L', s.D⟩ (hsh.next hj) ?_ (ready_mono hr (Ne.symm hji)) (hk.1 hjf) ?_ ?_
    · intro k ok hok hki hun hno
      refine hfree k ok hok hki ?_ hno
      by_cases hjk : j = k
      · subst hjk; exact hjun
      · have e : (listed.setIfInBounds j true).getD k true = listed.getD k true := by simp [Array.getElem?_setIfInBounds_ne hjk]
        rw [e] at hun; exact hun
    · intro a' ha'
      obtain ⟨x, hx⟩ := Fits.put_back ha'
      exact (hTk _ hx).same (fun cs b => hse i oi cs b hi) p3
    · rw [Array.setIfInBounds_comm _ _ hji]
      exact dG_eqv n _ _ _ _ _ (eqv_comm _ _ _ _ _ _ fun t ht hd => p2 t hd ht) hk.2

/-- an order: t: taken first, n: alone in its turn, b: two of them in their turn -/
inductive Od where
  | nil | t (i : Nat) (r : Od) | n (i : Nat) (r : Od) | b (i j : Nat) (r q : Od) | c (i j k : Nat) (r q s : Od)
def Od.len : Od → Nat
  | .nil => 0
  | .t _ r => r.len + 1
  | .n _ r => r.len + 1
  | .b _ _ r q => max r.len q.len + 1
  | .c _ _ _ r q s => max r.len (max q.len s.len) + 1
/-- what is left may turn all -/
def Od.fin (f : List Nat) : Od → Bool
  | .nil => true
  | .t _ _ => false
  | .n i r => memN i f && r.fin f
  | .b i j r q => memN i f && memN j f && r.fin f && q.fin f
  | .c i j k r q s => memN i f && memN j f && memN k f && r.fin f && q.fin f && s.fin f
/-- those of the first n that come behind i -/
def depF (ops : Array Oper) (i : Nat) : Nat → List Nat
  | 0 => []
  | n + 1 => match ops[n]? with
    | some o => cond (o.after.any fun e => Region.binds .any e && (Nat.beq e.on i || memN e.on (depF ops i n))) (n :: depF ops i n) (depF ops i n)
    | none => depF ops i n
def waits (ops : Array Oper) (i f : Nat) : Bool := match ops[f]? with
  | some o => (o.after.any fun e => Region.binds .any e && Nat.beq e.on i) || memN f (depF ops i (f + 1))
  | none => true
def allN (p : Nat → Bool) : List Nat → Bool
  | [] => true
  | x :: l => p x && allN p l
theorem allN_mem {p : Nat → Bool} {l : List Nat} (h : allN p l = true) {j : Nat} (hj : memN j l = true) : p j = true := by
  induction l with
  | nil => cases hj
  | cons x l ih =>
    simp only [allN, Bool.and_eq_true] at h
    simp only [memN] at hj
    cases hb : Nat.beq j x
    · rw [hb] at hj; exact ih h.2 hj
    · rw [Nat.eq_of_beq_eq_true hb]; exact h.1
theorem depF_dep {ops : Array Oper} {i : Nat} (n : Nat) : ∀ j, memN j (depF ops i n) = true → Dep ops i j := by
  induction n with
  | zero => intro j hj; cases hj
  | succ n ih =>
    intro j hj
    simp only [depF] at hj
    split at hj
    · rename_i o ho
      cases hc : (o.after.any fun e => Region.binds .any e && (Nat.beq e.on i || memN e.on (depF ops i n)))
      · rw [hc] at hj; exact ih j hj
      · rw [hc] at hj
        simp only [cond_true, memN] at hj
        cases hb : Nat.beq j n
        · rw [hb] at hj; exact ih j hj
        · obtain rfl := Nat.eq_of_beq_eq_true hb
          obtain ⟨e, he, h1⟩ := Array.any_eq_true'.1 hc
          simp only [Bool.and_eq_true, Bool.or_eq_true] at h1
          rcases h1.2 with h2 | h2
          · exact .one ho he h1.1 (Nat.eq_of_beq_eq_true h2)
          · exact .more ho he h1.1 (ih _ h2)
    · exact ih j hj
theorem waits_dep {ops : Array Oper} {i f : Nat} (h : waits ops i f = true) (hs : (ops[f]?).isSome = true) : Dep ops i f := by
  unfold waits at h
  split at h
  · rename_i o ho
    simp only [Bool.or_eq_true] at h
    rcases h with h | h
    · obtain ⟨e, he, h1⟩ := Array.any_eq_true'.1 h
      simp only [Bool.and_eq_true] at h1
      exact .one ho he h1.1 (Nat.eq_of_beq_eq_true h1.2)
    · exact depF_dep _ _ h
  · rename_i ho; rw [ho] at hs; cases hs
def tOk (ops : Array Oper) (f : List Nat) (listed : Array Bool) (i : Nat) : Bool := Region.free .any ops listed i && (Region.ready .any ops listed).contains i && !memN i f && allN (waits ops i) f
def ordOk (ops : Array Oper) (f : List Nat) : Od → Array Bool → Bool
  | .nil, l => Region.ready .any ops l == []
  | .t i r, l => tOk ops f l i && ordOk ops f r (l.setIfInBounds i true)
  | .n i r, l => Region.ready .any ops l == [i] && (!memN i f || r.fin f) && ordOk ops f r (l.setIfInBounds i true)
  | .b i j r q, l => Region.ready .any ops l == [i, j] && (!memN i f || r.fin f) && (!memN j f || q.fin f) && ordOk ops f r (l.setIfInBounds i true) && ordOk ops f q (l.setIfInBounds j true)
  | .c i j k r q s, l => Region.ready .any ops l == [i, j, k] && (!memN i f || r.fin f) && (!memN j f || q.fin f) && (!memN k f || s.fin f) && ordOk ops f r (l.setIfInBounds i true) && ordOk ops f q (l.setIfInBounds j true) && ordOk ops f s (l.setIfInBounds k true)
/-- a call that gives just this -/
inductive C0P (C : Cx) (g : FuncId) (args : List Value) (L0 : List Ent) (next : Value → Prop) : Prop
  | mk (v : Value) (h : ∀ w, St C.M C.B w L0 → Calls C.P g args.toArray w fun e w' => e = .returned v ∧ Below w.heap.size w w') (go : next v)
def c0V (C : Cx) (L0 : List Ent) (f : Value) (args : List Value) (next : Value → Prop) : Prop := match f with
  | .func (.func g) fs cs => cond (callable C.T g) (C0P C g (fs.toList ++ (args ++ cs.toList)) L0 next) False
  | _ => False
def tkV (C : Cx) (L0 : List Ent) (o : Oper) (σ : Fr) (next : Value → Prop) : Prop := match o.op with
  | .call c => match c.callee with
    | .value f => ev σ f fun g => evs σ c.args.toList fun vs => c0V C L0 g vs next
    | _ => tx C o σ L0 next False
  | _ => tx C o σ L0 next False
structure KeepP (L0 L : List Ent) (p : Prop) : Prop where
  h : Sub L0 L
  go : p
def opAt (ops : Array Oper) (i : Nat) (k : Oper → Prop) : Prop := match ops[i]? with
  | some o => k o
  | none => False
def gd (ops : Array Oper) (o : Oper) (σ : Fr) (p q : Prop) : Prop := match o.guard with
  | none => p
  | some (j, want) => dstOf ops j fun d => find σ d fun u => guardV u want p q
def dn (C : Cx) (ops : Array Oper) (L0 : List Ent) (f : List Nat) (i : Nat) (go : Sy → Prop) : Sy → Prop
  | ⟨σ, L, D⟩ => opAt ops i fun o => gd ops o σ (ox C o σ L fun v L' => putC C.N o.dst v σ fun σ' => cond (memN i f) (go ⟨σ', L', D⟩) (KeepP L0 L' (go ⟨σ', L', D⟩))) (putC C.N o.dst undef σ fun σ' => go ⟨σ', L, D⟩)
def dt (C : Cx) (ops : Array Oper) (L0 : List Ent) (i : Nat) (go : Sy → Prop) : Sy → Prop
  | ⟨σ, L, D⟩ => opAt ops i fun o => gd ops o σ (tkV C L0 o σ fun v => putC C.N o.dst v σ fun σ' => go ⟨σ', L, D⟩) (putC C.N o.dst undef σ fun σ' => go ⟨σ', L, D⟩)
def dB (C : Cx) (ops : Array Oper) (L0 : List Ent) (f : List Nat) (i j : Nat) (r q : (Sy → Prop) → Sy → Prop) : (Sy → Prop) → Sy → Prop := fun K s => dn C ops L0 f i (r K) s ∧ dn C ops L0 f j (q K) s
def dC (C : Cx) (ops : Array Oper) (L0 : List Ent) (f : List Nat) (i j k : Nat) (r q t : (Sy → Prop) → Sy → Prop) : (Sy → Prop) → Sy → Prop := fun K s => dn C ops L0 f i (r K) s ∧ dn C ops L0 f j (q K) s ∧ dn C ops L0 f k (t K) s
def dT (C : Cx) (ops : Array Oper) (L0 : List Ent) (i : Nat) (r : (Sy → Prop) → Sy → Prop) : (Sy → Prop) → Sy → Prop := fun K s => dt C ops L0 i (r K) s
def dN (C : Cx) (ops : Array Oper) (L0 : List Ent) (f : List Nat) (i : Nat) (r : (Sy → Prop) → Sy → Prop) : (Sy → Prop) → Sy → Prop := fun K s => dn C ops L0 f i (r K) s
def dx (C : Cx) (ops : Array Oper) (L0 : List Ent) (f : List Nat) (od : Od) : (Sy → Prop) → Sy → Prop :=
  Od.rec (motive := fun _ => (Sy → Prop) → Sy → Prop) (fun K s => K s) (fun i _ ih => dT C ops L0 i ih) (fun i _ ih => dN C ops L0 f i ih) (fun i j _ _ ih1 ih2 => dB C ops L0 f i j ih1 ih2) (fun i j k _ _ _ ih1 ih2 ih3 => dC C ops L0 f i j k ih1 ih2 ih3) od
theorem tkV_ok (hT : TabOk C.P C.T) {o : Oper} {σ : Fr} {ρ : Operand → Value} (hf : Fit σ ρ) {next : Value → Prop} (h : tkV C L0 o σ next) : ∃ v, next v ∧ ∀ w, St C.M C.B w L0 → FinT C v w ((execOp ρ o).run C.P w) := by
  have tcase : ∀ next, tx C o σ L0 next False → ∃ v, next v ∧ ∀ w, St C.M C.B w L0 → FinT C v w ((execOp ρ o).run C.P w) := by
    intro next h
    rcases tx_ok hT hf h with ⟨v, hv, hr⟩ | h
    · exact ⟨v, hv, fun w hs => by rw [hr w hs]; exact ⟨rfl, rfl⟩⟩
    · exact h.elim
  unfold tkV at h
  split at h
  · rename_i c ho
    split at h
    · rename_i x hc
      have h1 := hf.evs _ _ (hf x _ h)
      unfold c0V at h1
      split at h1
      · rename_i g fs cs hx
        cases hcl : callable C.T g
        · rw [hcl] at h1; exact h1.elim
        · rw [hcl] at h1
          obtain ⟨v, hcall, hv⟩ := h1
          refine ⟨v, hv, fun w hs => ?_⟩
          obtain ⟨fn, k1, k2, k3⟩ := entOk_enters (callable_enters hT hcl)
          have k4 : fn.name ≠ "runtime.NumGoroutine" := by simpa using k2
          have e1 : (fs.toList ++ (c.args.toList.map ρ ++ cs.toList)).toArray = fs ++ c.args.map ρ ++ cs := by apply Array.ext'; simp
          have hcall := hcall w hs
          rw [e1] at hcall
          have e2 : (execOp ρ o).run C.P w = .ok (.enter g (fs ++ c.args.map ρ ++ cs)) w := by
            unfold execOp
            simp only [ho, resolve, hc, hx]
            cases hb : fn.body with
            | none => rw [hb] at k3; cases k3
            | some code => simp [Deferred.ofValue, invoke, callFunc, k1, k4, hb]
          rw [e2]; exact ⟨rfl, hcall⟩
      · exact h1.elim
    · exact tcase _ h
  · exact tcase _ h
/-- what an operand is, as far as it is known -/
def canon (σ : Fr) : Operand → Value
  | .tmp t => (get σ t).getD undef
  | .const v => v
  | .global g => .pointer (some ⟨g, 0, none⟩)
  | .func f => .func (.func f) #[] #[]
theorem fit_canon (σ : Fr) : Fit σ (canon σ) := by
  intro x k hk
  cases x with
  | tmp t => obtain ⟨v, hv, h⟩ := find_get _ _ _ hk; simp only [canon, hv]; exact h
  | const v => exact hk
  | global g => exact hk
  | func f => exact hk
def known (σ : Fr) : Operand → Prop
  | .tmp t => (get σ t).isSome = true
  | _ => True
theorem canon_eq {N : Nat} {s : Sy} {a : Act} (h : Fits N s a) {x : Operand} (hk : known s.σ x) : a.eval x = canon s.σ x := by
  cases x with
  | tmp t =>
    obtain ⟨v, hv⟩ := Option.isSome_iff_exists.1 hk
    simp only [Act.eval, canon, hv]
    exact h.slot t v hv
  | const v => rfl
  | global g => rfl
  | func f => rfl
theorem ev_known {σ : Fr} {x : Operand} {k : Value → Prop} (h : ev σ x k) : known σ x ∧ ∃ v, k v := by
  cases x with
  | tmp t => obtain ⟨v, hv, h⟩ := find_get _ _ _ h; exact ⟨by simp [known, hv], v, h⟩
  | const v => exact ⟨trivial, v, h⟩
  | global g => exact ⟨trivial, _, h⟩
  | func f => exact ⟨trivial, _, h⟩
theorem evs_known {σ : Fr} {l : List Operand} {k : List Value → Prop} (h : evs σ l k) : (∀ x ∈ l, known σ x) ∧ ∃ v, k v := by
  induction l generalizing k with
  | nil => exact ⟨by simp, _, h⟩
  | cons x l ih =>
    obtain ⟨h1, v, h2⟩ := ev_known h
    obtain ⟨h3, vs, h4⟩ := ih h2
    exact ⟨by simpa using ⟨h1, h3⟩, _, h4⟩
theorem pevs_known {σ : Fr} {l : List (Nat × Operand)} {k : List (Nat × Value) → Prop} (h : pevs σ l k) : (∀ p ∈ l, known σ p.2) ∧ ∃ v, k v := by
  induction l generalizing k with
  | nil => exact ⟨by simp, _, h⟩
  | cons x l ih =>
    obtain ⟨h1, v, h2⟩ := ev_known h
    obtain ⟨h3, vs, h4⟩ := ih h2
    refine ⟨fun p hp => ?_, _, h4⟩
    rcases List.mem_cons.1 hp with rfl | hp
    · exact h1
    · exact h3 p hp
theorem oev_known {σ : Fr} {x : Option Operand} {k : Option Value → Prop} (h : oev σ x k) : (∀ y, x = some y → known σ y) ∧ ∃ v, k v := by
  cases x with
  | none => exact ⟨by simp, _, h⟩
  | some x => obtain ⟨h1, v, h2⟩ := ev_known h; exact ⟨by rintro y hy; obtain rfl := Option.some.inj hy; exact h1, _, h2⟩
theorem tx_known {o : Oper} {σ : Fr} {next : Value → Prop} (h : tx C o σ L0 next False) : ∀ x ∈ o.op.operands, known σ x := by
  unfold tx at h
  split at h
  case h_1 x ho => rw [ho]; have := (ev_known h).1; simpa [Op.operands]
  case h_2 x ho => rw [ho]; have := (ev_known h).1; simpa [Op.operands]
  case h_3 c a b ho => rw [ho]; obtain ⟨h1, v, h⟩ := ev_known h; obtain ⟨h2, v, h⟩ := ev_known h; obtain ⟨h3, v, h⟩ := ev_known h; simpa [Op.operands] using ⟨h1, h2, h3⟩
  case h_4 t ps ho =>
    rw [ho]
    obtain ⟨h1, _⟩ := pevs_known h
    intro x hx
    simp only [Op.operands, List.mem_toArray, List.mem_map] at hx
    obtain ⟨p, hp, rfl⟩ := hx
    exact h1 p hp
  case h_5 t x ho => rw [ho]; have := (ev_known h).1; simpa [Op.operands]
  case h_6 x ho => rw [ho]; have := (ev_known h).1; simpa [Op.operands]
  case h_7 op t x y z ho => rw [ho]; obtain ⟨h1, v, h⟩ := ev_known h; obtain ⟨h2, v, h⟩ := ev_known h; simpa [Op.operands] using ⟨h1, h2⟩
  case h_8 op t x ho => rw [ho]; have := (ev_known h).1; simpa [Op.operands]
  case h_9 s d x ho => rw [ho]; have := (ev_known h).1; simpa [Op.operands]
  case h_10 t x ho => rw [ho]; have := (ev_known h).1; simpa [Op.operands]
  case h_11 t x ho => rw [ho]; have := (ev_known h).1; simpa [Op.operands]
  case h_12 fn fs cs ho =>
    rw [ho]; obtain ⟨h1, v, h⟩ := evs_known h; obtain ⟨h2, v, h⟩ := evs_known h
    intro x hx
    simp only [Op.operands, Array.mem_append] at hx
    rcases hx with hx | hx
    · exact h1 x (by simpa using hx)
    · exact h2 x (by simpa using hx)
  case h_13 t x lo hi m ho =>
    rw [ho]; obtain ⟨h1, v, h⟩ := ev_known h; obtain ⟨h2, v, h⟩ := oev_known h; obtain ⟨h3, v, h⟩ := oev_known h; obtain ⟨h4, v, h⟩ := oev_known h
    intro y hy
    simp only [Op.operands, Array.mem_append] at hy
    rcases hy with ((hy | hy) | hy) | hy
    · obtain rfl : y = x := by simpa using hy
      exact h1
    · exact h2 y (by simpa using hy)
    · exact h3 y (by simpa using hy)
    · exact h4 y (by simpa using hy)
  case h_14 t x f ho => rw [ho]; have := (ev_known h).1; simpa [Op.operands]
  case h_15 t x f ho => rw [ho]; have := (ev_known h).1; simpa [Op.operands]
  case h_16 t x i ho => rw [ho]; obtain ⟨h1, v, h⟩ := ev_known h; obtain ⟨h2, v, h⟩ := ev_known h; simpa [Op.operands] using ⟨h1, h2⟩
  case h_17 t x i ho => rw [ho]; obtain ⟨h1, v, h⟩ := ev_known h; obtain ⟨h2, v, h⟩ := ev_known h; simpa [Op.operands] using ⟨h1, h2⟩
  case h_18 x i ho => rw [ho]; have := (ev_known h).1; simpa [Op.operands]
  case h_19 c ho =>
    rw [ho]
    split at h
    · rename_i hc
      split at h
      · rename_i x t hx ht
        have h1 := (ev_known h).1
        intro y hy
        simp only [Op.operands, Call.operands, hc, Array.mem_append] at hy
        rcases hy with hy | hy
        · simp at hy
        · have : y ∈ c.args.toList := by simpa using hy
          rw [hx] at this
          obtain rfl : y = x := by simpa using this
          exact h1
      · exact h.elim
    · rename_i hc
      split at h
      · rename_i x t hx ht
        have h1 := (ev_known h).1
        intro y hy
        simp only [Op.operands, Call.operands, hc, Array.mem_append] at hy
        rcases hy with hy | hy
        · simp at hy
        · have : y ∈ c.args.toList := by simpa using hy
          rw [hx] at this
          obtain rfl : y = x := by simpa using this
          exact h1
      · exact h.elim
    · exact h.elim
  case h_20 => exact h.elim
theorem tkV_known {o : Oper} {σ : Fr} {next : Value → Prop} (h : tkV C L0 o σ next) : ∀ x ∈ o.op.operands, known σ x := by
  unfold tkV at h
  split at h
  · rename_i c ho
    split at h
    · rename_i f hc
      obtain ⟨h1, v, h⟩ := ev_known h
      obtain ⟨h2, v, h⟩ := evs_known h
      rw [ho]
      intro y hy
      simp only [Op.operands, Call.operands, hc, Array.mem_append] at hy
      rcases hy with hy | hy
      · obtain rfl : y = f := by simpa using hy
        exact h1
      · exact h2 y (by simpa using hy)
    · exact tx_known h
  · exact tx_known h
theorem gd_ok {o : Oper} {s : Sy} {p q : Prop} (h : gd ops o s.σ p q) : ∃ b, (b = true → p) ∧ (b = false → q) ∧ ∀ a, Fits C.N s a → Region.wanted o (yielded ops a.tmps) = b := by
  unfold gd at h
  split at h
  · rename_i hg; exact ⟨true, fun _ => h, fun h => (by cases h), fun a _ => wanted_none hg _⟩
  · rename_i j want hg
    unfold dstOf at h
    split at h
    · rename_i d hd
      obtain ⟨u, hu, hk⟩ := find_get _ _ _ h
      unfold guardV at hk
      split at hk
      · rename_i b
        refine ⟨b == want, hk.t, hk.f, fun a hf => ?_⟩
        have hy := yielded_of hd (hf.slot d _ hu)
        simp [Region.wanted, hg, hy, asB]
      · refine ⟨false, fun h => (by cases h), fun _ => hk, fun a hf => ?_⟩
        have hy := yielded_of hd (hf.slot d _ hu)
        simp [Region.wanted, hg, hy, asB]
      · exact hk.elim
    · exact h.elim
theorem dn_ok (hT : TabOk C.P C.T) {i : Nat} {go : Sy → Prop} {s : Sy} {n : Nat} {l : Array Bool} (hn : dn C ops L0 f i go s)
    (hgo : ∀ s', (memN i f = false → Sub L0 s.L → Sub L0 s'.L) → go s' → dG C ops L0 f Q n (l.setIfInBounds i true) s') (hsub : Sub L0 s.L ∨ memN i f = true) :
    ∀ o, ops[i]? = some o → ∀ a w, Fits C.N s a → St C.M C.B w s.L → StepG C ops o a w s.L fun u L' => (memN i f = false → Sub L0 L') ∧ dG C ops L0 f Q n (l.setIfInBounds i true) ⟨put C.N o.dst u s.σ, L', s.D⟩ := by
  intro o ho a w hf hs
  obtain ⟨σ, L, D⟩ := s
  unfold dn opAt at hn
  simp only [putC_eq] at hn
  rw [ho] at hn
  obtain ⟨b, hp, hq, hb⟩ := gd_ok (C := C) (s := ⟨σ, L, D⟩) hn
  have hb := hb a hf
  refine ⟨fun hw => ?_, fun hw => ?_⟩
  · have hox := hp (hb.symm.trans hw)
    refine Fin.mono (fun v L' hk => ?_) (ox_ok hT hf.fit hs hox)
    cases hif : memN i f
    · rw [hif] at hk
      exact ⟨fun _ => hk.h, hgo _ (fun _ _ => hk.h) hk.go⟩
    · rw [hif] at hk
      exact ⟨fun h => (by cases h), hgo _ (fun h => (by rw [hif] at h; cases h)) hk⟩
  · have hgs := hq (hb.symm.trans hw)
    refine ⟨fun h => hsub.resolve_right (by rw [h]; decide), hgo _ (fun _ h => h) hgs⟩
theorem dx_ok (hT : TabOk C.P C.T) (hsel : Region.noSelect ops = true) {K : Sy → Prop} (od : Od) : ∀ (n : Nat) (l : Array Bool) (s : Sy), od.len ≤ n → Shut ops l → ordOk ops f od l = true → (Sub L0 s.L ∨ od.fin f = true) → dx C ops L0 f od K s → dG C ops L0 f (Holds C K) n l s := by
  have one : ∀ (i : Nat) (r : Od) (n : Nat) (l : Array Bool) (s : Sy), (∀ s', (Sub L0 s'.L ∨ r.fin f = true) → dx C ops L0 f r K s' → dG C ops L0 f (Holds C K) n (l.setIfInBounds i true) s') → (!memN i f || r.fin f) = true → (Sub L0 s.L ∨ memN i f = true) → dn C ops L0 f i (dx C ops L0 f r K) s →
      ∀ o, ops[i]? = some o → ∀ a w, Fits C.N s a → St C.M C.B w s.L → StepG C ops o a w s.L fun u L' => (memN i f = false → Sub L0 L') ∧ dG C ops L0 f (Holds C K) n (l.setIfInBounds i true) ⟨put C.N o.dst u s.σ, L', s.D⟩ := by
    intro i r n l s ih hif hsub h
    refine dn_ok hT h (fun s' hs' hgo => ih s' ?_ hgo) hsub
    cases hi : memN i f
    · left; exact hs' hi (hsub.resolve_right (by rw [hi]; decide))
    · right; simpa [hi] using hif
  induction od with
  | nil =>
    intro n l s _ _ hok _ h
    have h0 : Region.ready .any ops l = [] := by simpa [ordOk] using hok
    cases n with
    | zero => exact ⟨h0, fun a w hf hs => ⟨s, hf, hs, h⟩⟩
    | succ n => exact ⟨fun _ a w hf hs => ⟨s, hf, hs, h⟩, fun j hj => by rw [h0] at hj; cases hj⟩
  | t i r ih =>
    intro n l s hn hsh hok hsub h
    have hsb := hsub.resolve_right (by simp [Od.fin])
    simp only [ordOk, Bool.and_eq_true] at hok
    obtain ⟨hk, hr⟩ := hok
    simp only [tOk, Bool.and_eq_true, Bool.not_eq_true'] at hk
    obtain ⟨⟨⟨k1, k2⟩, k3⟩, k4⟩ := hk
    simp only [Od.len] at hn
    obtain ⟨n, rfl⟩ : ∃ m, n = m + 1 := ⟨n - 1, by omega⟩
    obtain ⟨σ, L, D⟩ := s
    change dt C ops L0 i (dx C ops L0 f r K) ⟨σ, L, D⟩ at h
    simp only [dt, opAt, putC_eq] at h
    split at h
    · rename_i o ho
      have hf' : ∀ j, memN j f = true → (ops[j]?).isSome = true → Dep ops i j := fun j hj hs => waits_dep (allN_mem k4 hj) hs
      have hrd : i ∈ Region.ready .any ops l := by simpa using k2
      obtain ⟨b, hp, hq, hb⟩ := gd_ok (C := C) (s := ⟨σ, L, D⟩) h
      cases b with
      | false => exact dG_take (v := undef) ho hsel k3 hf' n l _ hsh (Region.free_spec ho k1) hrd hsb (fun a ha => .inr ⟨hb a ha, rfl⟩) (ih n _ _ (by omega) (hsh.next hrd) hr (.inl hsb) (hq rfl))
      | true =>
        have key : ∃ v, dx C ops L0 f r K ⟨put C.N o.dst v σ, L, D⟩ ∧ ∀ a, Fits C.N ⟨σ, L, D⟩ a → ∀ w, St C.M C.B w L0 → FinT C v w ((execOp a.eval o).run C.P w) := by
          obtain ⟨v, hv, hr'⟩ := tkV_ok hT (fit_canon σ) (hp rfl)
          refine ⟨v, hv, fun a ha w hs => ?_⟩
          rw [execOp_congr o (fun cs b => Region.noSelect_spec hsel i o cs b ho) (fun x hx => canon_eq ha (tkV_known (hp rfl) x hx))]
          exact hr' w hs
        obtain ⟨v, hv, hr'⟩ := key
        exact dG_take (v := v) ho hsel k3 hf' n l _ hsh (Region.free_spec ho k1) hrd hsb (fun a ha => .inl ⟨hb a ha, hr' a ha⟩) (ih n _ _ (by omega) (hsh.next hrd) hr (.inl hsb) hv)
    · exact h.elim
  | n i r ih =>
    intro n l s hn hsh hok hsub h
    have hsb : Sub L0 s.L ∨ memN i f = true := hsub.imp id fun h => by simp only [Od.fin, Bool.and_eq_true] at h; exact h.1
    simp only [ordOk, Bool.and_eq_true, beq_iff_eq] at hok
    obtain ⟨⟨k1, k2⟩, hr⟩ := hok
    simp only [Od.len] at hn
    obtain ⟨n, rfl⟩ : ∃ m, n = m + 1 := ⟨n - 1, by omega⟩
    refine ⟨fun h0 => (by rw [k1] at h0; cases h0), fun j hj => ?_⟩
    rw [k1] at hj
    obtain rfl : j = i := by simpa using hj
    exact one j r n l s (fun s' h1 h2 => ih n _ _ (by omega) (hsh.next (by rw [k1]; simp)) hr h1 h2) k2 hsb h
  | b i j r q ih1 ih2 =>
    intro n l s hn hsh hok hsub h
    have hsb : Sub L0 s.L ∨ memN i f = true := hsub.imp id fun h => by simp only [Od.fin, Bool.and_eq_true] at h; exact h.1.1.1
    have hsc : Sub L0 s.L ∨ memN j f = true := hsub.imp id fun h => by simp only [Od.fin, Bool.and_eq_true] at h; exact h.1.1.2
    simp only [ordOk, Bool.and_eq_true, beq_iff_eq] at hok
    obtain ⟨⟨⟨⟨k1, k2⟩, k3⟩, hr⟩, hq⟩ := hok
    simp only [Od.len] at hn
    obtain ⟨n, rfl⟩ : ∃ m, n = m + 1 := ⟨n - 1, by omega⟩
    refine ⟨fun h0 => (by rw [k1] at h0; cases h0), fun m hm => ?_⟩
    rw [k1] at hm
    have : m = i ∨ m = j := by simpa using hm
    rcases this with rfl | rfl
    · exact one m r n l s (fun s' h1 h2 => ih1 n _ _ (by omega) (hsh.next (by rw [k1]; simp)) hr h1 h2) k2 hsb h.1
    · exact one m q n l s (fun s' h1 h2 => ih2 n _ _ (by omega) (hsh.next (by rw [k1]; simp)) hq h1 h2) k3 hsc h.2
  | c i j k r q t ih1 ih2 ih3 =>
    intro n l s hn hsh hok hsub h
    have hsb : Sub L0 s.L ∨ memN i f = true := hsub.imp id fun h => by simp only [Od.fin, Bool.and_eq_true] at h; exact h.1.1.1.1.1
    have hsc : Sub L0 s.L ∨ memN j f = true := hsub.imp id fun h => by simp only [Od.fin, Bool.and_eq_true] at h; exact h.1.1.1.1.2
    have hsd : Sub L0 s.L ∨ memN k f = true := hsub.imp id fun h => by simp only [Od.fin, Bool.and_eq_true] at h; exact h.1.1.1.2
    simp only [ordOk, Bool.and_eq_true, beq_iff_eq] at hok
    obtain ⟨⟨⟨⟨⟨⟨k1, k2⟩, k3⟩, k4⟩, hr⟩, hq⟩, ht⟩ := hok
    simp only [Od.len] at hn
    obtain ⟨n, rfl⟩ : ∃ m, n = m + 1 := ⟨n - 1, by omega⟩
    refine ⟨fun h0 => (by rw [k1] at h0; cases h0), fun m hm => ?_⟩
    rw [k1] at hm
    have : m = i ∨ m = j ∨ m = k := by simpa using hm
    rcases this with rfl | rfl | rfl
    · exact one m r n l s (fun s' h1 h2 => ih1 n _ _ (by omega) (hsh.next (by rw [k1]; simp)) hr h1 h2) k2 hsb h.1
    · exact one m q n l s (fun s' h1 h2 => ih2 n _ _ (by omega) (hsh.next (by rw [k1]; simp)) hq h1 h2) k3 hsc h.2.1
    · exact one m t n l s (fun s' h1 h2 => ih3 n _ _ (by omega) (hsh.next (by rw [k1]; simp)) ht h1 h2) k4 hsd h.2.2
/-- a region that draws, in an order: fs: those that may turn what is known -/
theorem drs (L0 : List Ent) (fs : List Nat) (od : Od) (hT : TabOk C.P C.T) {id : Nat} {K : Exit → Sy → Prop} {s : Sy} (hm : C.P.follows .mixedOrders = true)
    (hok : (Region.noSelect ops && Nat.ble od.len ops.size && ordOk ops fs od (Array.replicate ops.size false)) = true) (hL : Sub L0 s.L) (h : dx C ops L0 fs od (K .normal) s) : DrawP C id ops K s := by
  simp only [Bool.and_eq_true] at hok
  obtain ⟨⟨h1, h2⟩, h3⟩ := hok
  refine ⟨fun n a w hf hs => ?_⟩
  have hsh : Shut ops (Array.replicate ops.size false) := by
    intro j o ho hj
    have hlt : j < ops.size := (Array.getElem?_eq_some_iff.1 ho).1
    simp [hlt] at hj
  have h4 := dx_ok hT h1 od ops.size (Array.replicate ops.size false) s (by simpa using h2) hsh h3 (.inl hL) h
  exact wpIn_region_any hm (dG_any (Q' := Qof C K) (fun a w hq => hq) _ _ _ h4 a _ hf hs.drew)
theorem dr (L0 : List Ent) (f : Nat) (od : Od) (hT : TabOk C.P C.T) {id : Nat} {K : Exit → Sy → Prop} {s : Sy} (hm : C.P.follows .mixedOrders = true)
    (hok : (Region.noSelect ops && Nat.ble od.len ops.size && ordOk ops [f] od (Array.replicate ops.size false)) = true) (hL : Sub L0 s.L) (h : dx C ops L0 [f] od (K .normal) s) : DrawP C id ops K s := drs L0 [f] od hT hm hok hL h
end Go.Sx
