/- Symbolic steps, fifth part: code. -/
import Derived.Test.YtpegkoklmhccjaaDoorSxD
namespace Go.Sx
open Go Go.RowKit

/-- how things stand -/
structure Sy where
  σ : Fr
  L : List Ent
  D : List Deferred
structure Fits (N : Nat) (s : Sy) (a : Act) : Prop where
  size : a.tmps.size = N
  defers : a.defers = s.D
  slot : ∀ i v, get s.σ i = some v → a.tmps.getD i undef = v
theorem Fits.fit {N : Nat} {s : Sy} {a : Act} (h : Fits N s a) : Fit s.σ a.eval := by
  intro x k hk
  cases x with
  | tmp t => obtain ⟨v, hv, hkv⟩ := find_get _ _ _ hk; have := h.slot t v hv; simp only [Act.eval]; rw [this]; exact hkv
  | const v => exact hk
  | global g => exact hk
  | func f => exact hk
theorem Fits.defer {N : Nat} {s : Sy} {a : Act} (h : Fits N s a) (d : Deferred) : Fits N ⟨s.σ, s.L, d :: s.D⟩ { a with defers := d :: a.defers } := ⟨h.size, by rw [h.defers], h.slot⟩
def put (N : Nat) (d : Option Nat) (v : Value) (σ : Fr) : Fr := match d with
  | some d => cond (Nat.blt d N) ((d, v) :: σ) σ
  | none => σ
theorem Fits.put {N : Nat} {s : Sy} {a : Act} (h : Fits N s a) (d : Option Nat) (v : Value) (L : List Ent) : Fits N ⟨put N d v s.σ, L, s.D⟩ (a.put d v) := by
  cases d with
  | none => exact ⟨h.size, h.defers, h.slot⟩
  | some d =>
    refine ⟨by simp [Act.put, h.size], h.defers, ?_⟩
    intro i u hu
    unfold Sx.put at hu
    by_cases hd : d < N
    · have hb : Nat.blt d N = true := by simpa using hd
      simp only [hb, cond_true, get] at hu
      by_cases hdi : d = i
      · subst hdi
        simp at hu
        subst hu
        simp [Act.put, h.size, hd]
      · have : Nat.beq d i = false := Bool.eq_false_iff.2 fun e => hdi (Nat.eq_of_beq_eq_true e)
        rw [this] at hu
        have := h.slot i u hu
        simp only [Act.put, Array.getD_eq_getD_getElem?] at this ⊢
        rw [Array.getElem?_setIfInBounds_ne hdi]; exact this
    · have hb : Nat.blt d N = false := Bool.eq_false_iff.2 fun e => hd (by simpa using e)
      simp only [hb, cond_false] at hu
      have := h.slot i u hu
      simp only [Act.put, Array.getD_eq_getD_getElem?] at this ⊢
      by_cases hdi : d = i
      · subst hdi
        rw [Array.getElem?_eq_none (by simp [h.size]; omega)]
        rw [Array.getElem?_eq_none (by rw [h.size]; omega)] at this
        exact this
      · rw [Array.getElem?_setIfInBounds_ne hdi]; exact this
def dstOf (ops : Array Oper) (j : Nat) (k : Nat → Prop) : Prop := match (ops[j]?).bind (·.dst) with
  | some d => k d
  | none => False
def guardV (v : Value) (want : Bool) (p q : Prop) : Prop := match v with
  | .bool b => CondQ (b == want) p q
  | .tuple _ => q
  | _ => False
/-- as put; what comes behind it is handed the list itself -/
def putC (N : Nat) (d : Option Nat) (v : Value) (σ : Fr) (k : Fr → Prop) : Prop := match d with
  | some d => cond (Nat.blt d N) (k ((d, v) :: σ)) (k σ)
  | none => k σ
theorem putC_eq (N : Nat) (d : Option Nat) (v : Value) (σ : Fr) (k : Fr → Prop) : putC N d v σ k = k (put N d v σ) := by
  cases d with
  | none => rfl
  | some d => simp only [putC, put]; cases h : Nat.blt d N <;> simp
def isDf (o : Oper) : Bool := match o.op with
  | .defer _ => true
  | _ => false
/-- a call is put off -/
def dfV (C : Cx) (o : Oper) (σ : Fr) (k : Deferred → Prop) : Prop := match C.F with
  | some _ => False
  | none => match o.op with
    | .defer c => match c.callee with
      | .value f => ev σ f fun g => evs σ c.args.toList fun vs => match g with
        | .func fn fs cs => k ⟨.fn fn cs, fs ++ vs.toArray⟩
        | _ => False
      | _ => False
    | _ => False
/-- one operation behind the other -/
def sxOp (C : Cx) (ops : Array Oper) (o : Oper) (k : Sy → Prop) : Sy → Prop
  | ⟨σ, L, D⟩ => match o.guard with
    | none => cond (isDf o) (dfV C o σ fun d => putC C.N o.dst undef σ fun σ' => k ⟨σ', L, d :: D⟩) (ox C o σ L fun v L' => putC C.N o.dst v σ fun σ' => k ⟨σ', L', D⟩)
    | some (j, want) => dstOf ops j fun d => find σ d fun u => guardV u want (ox C o σ L fun v L' => putC C.N o.dst v σ fun σ' => k ⟨σ', L', D⟩) (putC C.N o.dst undef σ fun σ' => k ⟨σ', L, D⟩)
def sx (C : Cx) (ops : Array Oper) (l : List Oper) (K : Sy → Prop) : Sy → Prop := List.rec (motive := fun _ => Sy → Prop) K (fun o _ ih => sxOp C ops o ih) l
def Holds (C : Cx) (K : Sy → Prop) (a : Act) (w : World) : Prop := ∃ s, Fits C.N s a ∧ St C.M C.B w s.L ∧ K s
theorem wanted_none {o : Oper} (h : o.guard = none) (y : Nat → Option Bool) : Region.wanted o y = true := by simp [Region.wanted, h]
theorem not_defer {C : Cx} {o : Oper} {ρ : Operand → Value} {w : World} {n : Value → List Ent → Prop} (h : OpS C o ρ w n) : ∀ c, o.op ≠ .defer c := by
  intro c hc
  unfold OpS execOp at h
  rw [hc] at h
  simp only [Sem.run_bind] at h
  cases hr : (resolve ρ c o.type).run C.P w with
  | ok d w' => rw [hr] at h; exact h
  | halt x w' => rw [hr] at h; exact h
theorem op_in {C : Cx} {o : Oper} {a : Act} {w : World} {n : Value → List Ent → Prop} {K : Act → World → Prop} {Q : Exit → Act → World → Prop} {m : Nat} (h : OpS C o a.eval w n)
    (hn : ∀ v L' w', St C.M C.B w' L' → n v L' → K (a.put o.dst v) w') : o.wpIn C.fence m C.P a w K Q := by
  have hd := not_defer h
  have key : ∀ F : Fence, (F = Fence.wide ∨ ∃ l, F = Fence.wide.inRound l) → o.wpIn F m C.P a w K Q := by
    intro F hF
    have h1 : ∀ f, F.fn f := by rcases hF with rfl | ⟨l, rfl⟩ <;> exact fun _ => trivial
    have h2 : F.depth.isSome = true → 1 ≤ m := by rcases hF with rfl | ⟨l, rfl⟩ <;> exact fun e => by cases e
    refine ⟨fun f _ => h1 f, ?_⟩
    rw [Oper.semAt_eq _ _ _ hd]
    unfold OpS at h
    generalize (execOp a.eval o).run C.P w = r at h
    unfold Fin at h
    split at h
    · obtain ⟨L', h3, h4⟩ := h; exact hn _ _ _ h3 h4
    · obtain ⟨L', h3, h4⟩ := h; exact hn _ _ _ h3 h4
    · have h5 : ∀ (g : FuncId) (args : Array Value) (w' : World), (Calls C.P g args w' fun e w'' => ∃ v L', e = .returned v ∧ St C.M C.B w'' L' ∧ n v L') → CallsIn F (m - 1) C.P g args w' fun
          | .returned v, w'' => K (a.put o.dst v) w''
          | .panicked chain, w'' => Q (.panic chain) a w''
          | .outgrown, _ => LetsOut Q := by
        intro g args w' hc
        have hc' : CallsIn Fence.wide (m - 1) C.P g args w' fun
          | .returned v, w'' => K (a.put o.dst v) w''
          | .panicked chain, w'' => Q (.panic chain) a w''
          | .outgrown, _ => LetsOut Q := callsIn_wide.2 (hc.mono fun e w'' he => by obtain ⟨v, L', rfl, h6, h7⟩ := he; exact hn _ _ _ h6 h7)
        rcases hF with rfl | ⟨l, rfl⟩
        · exact hc'
        · exact CallsIn.inRound l hc'
      exact ⟨h2, h5 _ _ _ h⟩
    · refine ⟨h2, fun c cs _ => ?_⟩
      obtain ⟨v, w2, ⟨L', h6, h7⟩, hst⟩ := h c cs
      refine ⟨v, w2, hn _ _ _ h6 h7, ?_⟩
      rcases hF with rfl | ⟨l, rfl⟩
      · exact stepsIn_wide.2 hst
      · exact stepsIn_wide.2 hst
    · refine ⟨h2, ?_⟩
      have h5 := (h (m - 1)).mono (R' := fun
          | .returned v, w'' => K (a.put o.dst v) w''
          | .panicked chain, w'' => Q (.panic chain) a w''
          | .outgrown, _ => LetsOut Q) (fun e w'' he => by obtain ⟨v, L', rfl, h6, h7⟩ := he; exact hn _ _ _ h6 h7)
      rcases hF with rfl | ⟨l, rfl⟩
      · exact h5
      · exact h5
    · exact h.elim
  unfold Cx.fence
  cases C.F with
  | none => exact key _ (.inl rfl)
  | some l => exact key _ (.inr ⟨l, rfl⟩)
theorem df_in {C : Cx} {o : Oper} {σ : Fr} {a : Act} {w : World} {k : Deferred → Prop} {K : Act → World → Prop} {Q : Exit → Act → World → Prop} {m : Nat} (hf : Fit σ a.eval) (h : dfV C o σ k)
    (hn : ∀ d, k d → K ({ a with defers := d :: a.defers }.put o.dst undef) w) : o.wpIn C.fence m C.P a w K Q := by
  unfold dfV at h
  split at h
  · exact h.elim
  · rename_i hF
    split at h
    · rename_i c ho
      split at h
      · rename_i f hc
        have h1 := hf.evs _ _ (hf f _ h)
        split at h1
        · rename_i fn fs cs hg
          have hfe : C.fence = Fence.wide := by unfold Cx.fence; rw [hF]
          rw [hfe]
          refine ⟨fun _ _ => trivial, ?_⟩
          have e1 : (c.args.toList.map a.eval).toArray = c.args.map a.eval := by apply Array.ext'; simp
          have e2 : (Oper.semAt Fence.wide.round a.eval o).run C.P w = .ok (.defer ⟨.fn fn cs, fs ++ c.args.map a.eval⟩) w := by
            show (execOp a.eval o).run C.P w = _
            unfold execOp
            simp [ho, resolve, hc, hg, Deferred.ofValue]
          rw [e2]
          rw [e1] at h1
          exact hn _ h1
        · exact h1.elim
      · exact h.elim
    · exact h.elim
def asB : Value → Option Bool
  | .bool b => some b
  | _ => none
theorem yielded_of {a : Act} {ops : Array Oper} {j d : Nat} (hd : (ops[j]?).bind (·.dst) = some d) {u : Value} (hu : a.tmps.getD d undef = u) :
    yielded ops a.tmps j = asB u := by
  unfold yielded
  rw [hd]
  simp only [Option.bind_some]
  cases hg : a.tmps[d]? with
  | none => simp [Array.getD_eq_getD_getElem?, hg] at hu; subst hu; rfl
  | some x => simp [Array.getD_eq_getD_getElem?, hg] at hu; subst hu; cases x <;> rfl
theorem sx_ok {C : Cx} (hT : TabOk C.P C.T) {ops : Array Oper} {Q : Exit → Act → World → Prop} {K : Sy → Prop} (hQ : ∀ a w, Holds C K a w → Q .normal a w) {m : Nat} :
    ∀ (l : List Oper) (s : Sy) (a : Act) (w : World), sx C ops l K s → Fits C.N s a → St C.M C.B w s.L → wpListIn C.fence m C.P ops Q l a w := by
  intro l
  induction l with
  | nil => intro s a w h hf hs; exact hQ a w ⟨s, hf, hs, h⟩
  | cons o rest ih =>
    rintro ⟨σ, L, D⟩ a w h hf hs
    let s : Sy := ⟨σ, L, D⟩
    have run : ox C o s.σ s.L (fun v L' => sx C ops rest K ⟨put C.N o.dst v s.σ, L', s.D⟩) → o.wpIn C.fence m C.P a w (wpListIn C.fence m C.P ops Q rest) Q :=
      fun hox => op_in (ox_ok hT hf.fit hs hox) fun v L' w' h1 h2 => ih _ _ _ h2 (hf.put _ _ _) h1
    have fnw : ∀ f, C.fence.fn f := by unfold Cx.fence; cases C.F <;> exact fun _ => trivial
    unfold wpListIn
    change sxOp C ops o (sx C ops rest K) ⟨σ, L, D⟩ at h
    unfold sxOp at h
    simp only [putC_eq] at h
    split at h
    · rename_i hg
      rw [if_pos (wanted_none hg _)]
      cases hdf : isDf o
      · rw [hdf] at h; exact run h
      · rw [hdf] at h
        have h' : dfV C o σ fun d => sx C ops rest K ⟨put C.N o.dst undef σ, L, d :: D⟩ := h
        exact df_in hf.fit h' fun d hk => ih _ _ _ hk ((hf.defer d).put _ _ _) hs
    · rename_i j want hg
      unfold dstOf at h
      split at h
      · rename_i d hd
        obtain ⟨u, hu, hk⟩ := find_get _ _ _ h
        have hy := yielded_of hd (hf.slot d u hu)
        unfold guardV at hk
        split at hk
        · rename_i b
          have hw : Region.wanted o (yielded ops a.tmps) = (b == want) := by simp [Region.wanted, hg, hy, asB]
          rw [hw]
          cases hb : (b == want)
          · exact ⟨fun f _ => fnw f, ih _ _ _ (hk.f hb) (hf.put _ _ _) hs⟩
          · exact run (hk.t hb)
        · have hw : Region.wanted o (yielded ops a.tmps) = false := by simp [Region.wanted, hg, hy, asB]
          rw [hw]
          exact ⟨fun f _ => fnw f, ih _ _ _ hk (hf.put _ _ _) hs⟩
        · exact hk.elim
      · exact h.elim

def Qof (C : Cx) (K : Exit → Sy → Prop) : Exit → Act → World → Prop := fun e a w => Holds C (K e) a w
structure CodeP (C : Cx) (c : Code) (K : Exit → Sy → Prop) (s : Sy) : Prop where
  go : ∀ n a w, Fits C.N s a → St C.M C.B w s.L → c.wpIn C.fence n C.P (Qof C K) a w
structure LoopP (C : Cx) (c : Code) (K : Exit → Sy → Prop) (s : Sy) : Prop where
  go : ∀ n a w, Fits C.N s a → St C.M C.B w s.L → (Code.loop c).wpIn C.fence n C.P (Qof C K) a w
structure DrawP (C : Cx) (id : Nat) (ops : Array Oper) (K : Exit → Sy → Prop) (s : Sy) : Prop where
  go : ∀ n a w, Fits C.N s a → St C.M C.B w s.L → (Code.region id ops true).wpIn C.fence n C.P (Qof C K) a w
def condV (v : Value) (p q : Prop) : Prop := match v with
  | .bool b => CondQ b p q
  | _ => False
abbrev Kn := (Exit → Sy → Prop) → Sy → Prop
def xSkip : Kn := fun K s => K .normal s
def xRegion (C : Cx) (id : Nat) (ops : Array Oper) (d : Bool) : Kn := fun K s => match d with
  | false => sx C ops ops.toList (K .normal) s
  | true => DrawP C id ops K s
def seqK (b : Kn) (K : Exit → Sy → Prop) : Exit → Sy → Prop := fun e s' => match e with
  | .normal => b K s'
  | e => K e s'
def xSeq (a b : Kn) : Kn := fun K s => a (seqK b K) s
def xCond (c : Operand) (x y : Kn) : Kn := fun K s => ev s.σ c fun v => condV v (x K s) (y K s)
def blockK (id : Nat) (K : Exit → Sy → Prop) : Exit → Sy → Prop := fun e s' => match e with
  | .exit j => cond (Nat.beq j id) (K .normal s') (K (.exit j) s')
  | e => K e s'
def xBlock (id : Nat) (b : Kn) : Kn := fun K s => b (blockK id K) s
def xLoop (C : Cx) (b : Code) (_ : Kn) : Kn := fun K s => LoopP C b K s
def xRange (C : Cx) (f : Operand) (ps : Array Tmp) (x y : Code) (_ _ : Kn) : Kn := fun K s => CodeP C (.rangeFunc f ps x y) K s
def xExit (id : Nat) : Kn := fun K s => K (.exit id) s
def xScope (C : Cx) (b : Code) (_ : Kn) : Kn := fun K s => CodeP C (.scope b) K s
def xLabel (_ : Nat) : Kn := fun K s => K .normal s
def xGoto (l : Nat) : Kn := fun K s => K (.goto l) s
def xRet : Kn := fun K s => K .ret s
def xRefuse (C : Cx) (y : String) : Kn := fun K s => CodeP C (.refuse y) K s
def cx (C : Cx) (c : Code) : Kn :=
  Code.rec (motive := fun _ => Kn) xSkip (xRegion C) (fun _ _ => xSeq) (fun c _ _ => xCond c) (fun id _ => xBlock id) (xLoop C) (xRange C) xExit (xScope C) xLabel xGoto xRet (xRefuse C) c
theorem cx_ok {C : Cx} (hT : TabOk C.P C.T) : ∀ (c : Code) (K : Exit → Sy → Prop) (s : Sy), cx C c K s → CodeP C c K s := by
  intro c
  induction c with
  | skip => intro K s h; exact ⟨fun n a w hf hs => wpIn_skip ⟨s, hf, hs, h⟩⟩
  | region id ops d =>
    intro K s h
    cases d with
    | false => exact ⟨fun n a w hf hs => wpIn_region_list (sx_ok hT (fun a w h => h) _ s a w h hf hs)⟩
    | true => exact ⟨h.go⟩
  | seq x y ihx ihy =>
    intro K s h
    refine ⟨fun n a w hf hs => wpIn_seq (wpIn_mono ((ihx _ s h).go n a w hf hs) ?_)⟩
    rintro e a' w' ⟨s', hf', hs', hk⟩
    cases e with
    | normal => exact (ihy K s' hk).go n a' w' hf' hs'
    | _ => exact ⟨s', hf', hs', hk⟩
  | cond c x y ihx ihy =>
    intro K s h
    refine ⟨fun n a w hf hs => ?_⟩
    have h1 := hf.fit c _ h
    unfold condV at h1
    split at h1
    · rename_i b hb
      exact wpIn_cond_split hb (fun ht => (ihx K s (h1.t ht)).go n a w hf hs) (fun ht => (ihy K s (h1.f ht)).go n a w hf hs)
    · exact h1.elim
  | block id b ih =>
    intro K s h
    refine ⟨fun n a w hf hs => wpIn_block (wpIn_mono ((ih _ s h).go n a w hf hs) ?_)⟩
    rintro e a' w' ⟨s', hf', hs', hk⟩
    cases e with
    | exit j =>
      simp only [blockK] at hk
      by_cases hj : j = id
      · subst hj; simp only [Nat.beq_refl, cond_true] at hk; simp only [Exit.inBlock, if_true]; exact ⟨s', hf', hs', hk⟩
      · have : Nat.beq j id = false := Bool.eq_false_iff.2 fun e => hj (Nat.eq_of_beq_eq_true e)
        simp only [this, cond_false] at hk; simp only [Exit.inBlock, if_neg hj]; exact ⟨s', hf', hs', hk⟩
    | _ => exact ⟨s', hf', hs', hk⟩
  | loop b ih => intro K s h; exact ⟨h.go⟩
  | rangeFunc f ps x y _ _ => intro K s h; exact h
  | exit id => intro K s h; exact ⟨fun n a w hf hs => wpIn_exit ⟨s, hf, hs, h⟩⟩
  | scope b ih => intro K s h; exact h
  | label l => intro K s h; exact ⟨fun n a w hf hs => wpIn_label ⟨s, hf, hs, h⟩⟩
  | goto l => intro K s h; exact ⟨fun n a w hf hs => wpIn_goto ⟨s, hf, hs, h⟩⟩
  | ret => intro K s h; exact ⟨fun n a w hf hs => wpIn_ret ⟨s, hf, hs, h⟩⟩
  | refuse y => intro K s h; exact h

/-- less is known -/
def leF : Fr → Fr → Prop
  | [], _ => True
  | p :: τ, σ => get σ p.1 = some p.2 ∧ leF τ σ
structure Le (s t : Sy) : Prop where
  f : leF s.σ t.σ
  l : Sub s.L t.L
  d : s.D = t.D
theorem leF_get {τ σ : Fr} (h : leF τ σ) : ∀ i v, get τ i = some v → get σ i = some v := by
  induction τ with
  | nil => intro i v hv; cases hv
  | cons p τ ih =>
    intro i v hv
    simp only [get] at hv
    cases hb : Nat.beq p.1 i
    · rw [hb] at hv; exact ih h.2 i v hv
    · rw [hb] at hv; obtain rfl := Option.some.inj hv; rw [← Nat.eq_of_beq_eq_true hb]; exact h.1
theorem Fits.le {N : Nat} {s t : Sy} {a : Act} (h : Fits N t a) (hle : Le s t) : Fits N s a := ⟨h.size, h.defers.trans hle.d.symm, fun i v hv => h.slot i v (leF_get hle.f i v hv)⟩
theorem cx_le {C : Cx} (hT : TabOk C.P C.T) {c : Code} {K : Exit → Sy → Prop} {s t : Sy} (hle : Le s t) (h : cx C c K s) : CodeP C c K t :=
  ⟨fun n a w hf hs => (cx_ok hT c K s h).go n a w (hf.le hle) (hs.sub hle.l)⟩
theorem loop_ghost {P : Program} {F : Fence} {n : Nat} {c : Code} {Q : Exit → Act → World → Prop} {α : Type} (I : α → Act → World → Prop) (μ : α → Nat)
    (round : ∀ x a w, I x a w → c.wpIn F n P (Exit.then (fun a' w' => ∃ y, I y a' w' ∧ μ y < μ x) Q) a w) (x0 : α) (a0 : Act) (w0 : World) (h0 : I x0 a0 w0) : (Code.loop c).wpIn F n P Q a0 w0 := by
  intro b k cs hro hb hr
  have key : ∀ (j : Nat) (x : α) (a : Act) (w : World), μ x = j → I x a w → ∃ e a' w', Q e a' w' ∧ ArrivesIn (Machine.fenced P F) P (lone (b.atR a (.code c :: .inLoop c :: k)) cs w) b k cs e a' w' := by
    intro j
    induction j using Nat.strongRecOn with
    | _ j ih =>
      intro x a w hx hI
      obtain ⟨e, a1, w1, hq, harr⟩ := round x a w hI b (.inLoop c :: k) cs hro hb hr
      have pass (e : Exit) (hne : e ≠ .normal) (hq : Q e a1 w1) (harr : ArrivesIn (Machine.fenced P F) P (lone (b.atR a (.code c :: .inLoop c :: k)) cs w) b (.inLoop c :: k) cs e a1 w1) :
          ∃ e a' w', Q e a' w' ∧ ArrivesIn (Machine.fenced P F) P (lone (b.atR a (.code c :: .inLoop c :: k)) cs w) b k cs e a' w' :=
        ⟨e, a1, w1, hq, .pass (x := .inLoop c) rfl (fun _ _ => .inl hne) harr⟩
      cases e with
      | normal =>
        obtain ⟨y, hI', hlt⟩ := hq
        obtain ⟨e2, a2, w2, hq2, harr2⟩ := ih (μ y) (hx ▸ hlt) y a1 w1 rfl hI'
        exact ⟨e2, a2, w2, hq2, .of_steps (StepsIn.trans harr (.one (fenced_calm hb hr rfl) stepR_inLoop)) harr2⟩
      | exit i => exact pass _ (by simp) hq harr
      | goto l => exact pass _ (by simp) hq harr
      | ret => exact pass _ (by simp) hq harr
      | panic ch => exact pass _ (by simp) hq harr
      | outgrown => exact pass _ (by simp) hq harr
  obtain ⟨e, a', w', hq, harr⟩ := key _ x0 a0 w0 rfl h0
  exact ⟨e, a', w', hq, .of_steps (.one (fenced_calm hb hr rfl) stepR_loop) harr⟩
/-- a loop: J holds of x, and f x is what is known, as a round begins; each round that goes on lowers μ -/
theorem lp {C : Cx} (hT : TabOk C.P C.T) {body : Code} {K : Exit → Sy → Prop} {s : Sy} {α : Type} (J : α → Prop) (f : α → Sy) (μ : α → Nat) (x0 : α) (h0 : J x0) (hle : Le (f x0) s)
    (step : ∀ x, J x → cx C body (fun e s' => match e with | .normal => ∃ y, J y ∧ μ y < μ x ∧ Le (f y) s' | e => K e s') (f x)) : LoopP C body K s := by
  refine ⟨fun n a w hf hs => ?_⟩
  refine loop_ghost (fun x a w => J x ∧ Fits C.N (f x) a ∧ St C.M C.B w (f x).L) μ ?_ x0 a w ⟨h0, hf.le hle, hs.sub hle.l⟩
  rintro x a w ⟨hJ, hf, hs⟩
  refine wpIn_mono ((cx_ok hT body _ _ (step x hJ)).go n a w hf hs) ?_
  rintro e a' w' ⟨s', hf', hs', hk⟩
  cases e with
  | normal =>
    obtain ⟨y, hy, hlt, hle⟩ := hk
    exact ⟨y, ⟨hy, hf'.le hle, hs'.sub hle.l⟩, hlt⟩
  | _ => exact ⟨s', hf', hs', hk⟩

/-- what a function returns -/
def rsV (C : Cx) (s : Sy) : List ResultVar → (List Value → Prop) → Prop
  | [], k => k []
  | .tmp t :: l, k => find s.σ t fun v => rsV C s l fun vs => k (v :: vs)
  | .cell t ty :: l, k => find s.σ t fun u => ldV C ty u s.L fun v => rsV C s l fun vs => k (v :: vs)
def oneOf : List Value → Value
  | [v] => v
  | l => .tuple l.toArray
structure RetP (C : Cx) (R : Value → World → Prop) (v : Value) (L : List Ent) : Prop where
  go : ∀ w, St C.M C.B w L → R v w
/-- the mark of a loop over a function is taken -/
inductive MkP (b : Nat) (L : List Ent) (next : List Ent → Prop) : Prop
  | mk (i : Nat) (h : L[i]? = some ⟨b, some (.deferred (some [])), false, none⟩) (go : next (L.set i ⟨b, some (.deferred none), false, none⟩))
/-- a call that was put off -/
structure DefP (C : Cx) (g : FuncId) (args : List Value) (L : List Ent) (next : List Ent → Prop) : Prop where
  hc : ∀ w, (callFunc g args.toArray).run C.P w = .ok (.enter g args.toArray) w
  go : ∀ w, St C.M C.B w L → ∀ n, CallsDIn Fence.wide n C.P g args.toArray .returning w fun e u w' => u = .returning ∧ ∃ v L', e = .returned v ∧ St C.M C.B w' L' ∧ next L'
def mkV (C : Cx) : List Deferred → List Ent → (List Ent → Prop) → Prop
  | [], L, k => k L
  | d :: D, L, k => match d.target with
    | .collected b => MkP b L fun L' => mkV C D L' k
    | .fn (.func g) cs => DefP C g (d.args.toList ++ cs.toList) L fun L' => mkV C D L' k
    | _ => False
def retV (C : Cx) (fn : Func) (R : Value → World → Prop) (s : Sy) : Prop := mkV C s.D s.L fun L' => rsV C ⟨s.σ, L', []⟩ fn.results.toList fun vs => RetP C R (oneOf vs) L'
def retK (C : Cx) (fn : Func) (R : Value → World → Prop) : Exit → Sy → Prop := fun e s => match e with
  | .ret => retV C fn R s
  | .normal => retV C fn R s
  | _ => False
def par : Nat → List Value → Fr
  | _, [] => []
  | i, v :: l => (i, v) :: par (i + 1) l
theorem par_get (vs : List Value) : ∀ (k i : Nat) (v : Value), get (par k vs) i = some v → k ≤ i ∧ vs[i - k]? = some v := by
  induction vs with
  | nil => intro k i v h; cases h
  | cons u vs ih =>
    intro k i v h
    simp only [par, get] at h
    cases hb : Nat.beq k i
    · rw [hb] at h
      obtain ⟨h1, h2⟩ := ih (k + 1) i v h
      refine ⟨by omega, ?_⟩
      rw [show i - k = (i - (k + 1)) + 1 by omega]; exact h2
    · rw [hb] at h
      have := Nat.eq_of_beq_eq_true hb
      subst this
      exact ⟨Nat.le_refl _, by simpa using h⟩
def rdV (tmps : Array Value) : ResultVar → Sem Value
  | .tmp t => pure (tmps.getD t undef)
  | .cell x t => do loadVar t (← asAddr (tmps.getD x undef))
theorem results_rd (fn : Func) (tmps : Array Value) : results fn tmps = (fn.results.mapM (rdV tmps) >>= fun vs => pure (if h : vs.size = 1 then vs[0] else .tuple vs)) := by
  unfold results
  congr 1
theorem rsV_run {C : Cx} (hT : TabOk C.P C.T) {s : Sy} {a : Act} {w : World} (hf : ∀ i v, get s.σ i = some v → a.tmps.getD i undef = v) (hs : St C.M C.B w s.L) (l : List ResultVar) (k : List Value → Prop) (h : rsV C s l k) :
    ∃ vs, k vs ∧ (l.mapM (rdV a.tmps)).run C.P w = .ok vs w := by
  induction l generalizing k with
  | nil => exact ⟨[], h, by simp⟩
  | cons r l ih =>
    cases r with
    | tmp t =>
      obtain ⟨v, hv, hk⟩ := find_get _ _ _ h
      obtain ⟨vs, h1, h2⟩ := ih _ hk
      refine ⟨v :: vs, h1, ?_⟩
      rw [List.mapM_cons]
      simp only [rdV, hf t v hv, Sem.run_bind, Sem.run_pure, Result.andThen_ok, h2]
    | cell t ty =>
      obtain ⟨u, hu, hk⟩ := find_get _ _ _ h
      obtain ⟨y, n, hk, hrow⟩ := hT.row hk
      split at hk
      · rename_i b o _
        have hag := (rowOk_says hrow).agg
        have key : ∃ v, (loadVar ty ⟨b, o, none⟩).run C.P w = .ok v w ∧ rsV C s l fun vs => k (v :: vs) := by
          cases hy : y.agg
          · rw [hy] at hk hag
            obtain ⟨v, hc, go⟩ := hk
            exact ⟨v, by simp [loadVar, run_isAgg hag.1 hag.2, hc w hs, load, Sem.run], go⟩
          · rw [hy] at hk hag
            obtain ⟨c, hn, hc, go⟩ := hk
            refine ⟨.agg c, ?_, go⟩
            cases hd : C.P.underlying ty with
            | none => rw [hd] at hag; cases hag.2
            | some d =>
              rw [hd] at hag
              have := run_loadVar_mid (P := C.P) w b o ty c.toList d (hc w hs) hd (by cases d <;> simp_all [descAgg]) (by rw [rowOk_size hrow]; simpa using hn.symm)
              simpa using this
        obtain ⟨v, hr, go⟩ := key
        obtain ⟨vs, h1, h2⟩ := ih _ go
        refine ⟨v :: vs, h1, ?_⟩
        rw [List.mapM_cons]
        simp only [rdV, hf t _ hu, asAddr, Sem.run_bind, Sem.run_pure, Result.andThen_ok, hr, h2]
      · exact hk.elim
theorem retV_ok {C : Cx} (hT : TabOk C.P C.T) {fn : Func} {R : Value → World → Prop} {σ : Fr} {a : Act} {n : Nat} (hf : ∀ i v, get σ i = some v → a.tmps.getD i undef = v) (D : List Deferred) :
    ∀ (L : List Ent) (w : World), St C.M C.B w L → (mkV C D L fun L' => rsV C ⟨σ, L', []⟩ fn.results.toList fun vs => RetP C R (oneOf vs) L') → LeavesInM Fence.wide n C.P fn a.tmps (fun e w' => ∃ v, e = .returned v ∧ R v w') D .returning w := by
  induction D with
  | nil =>
    intro L w hs h
    obtain ⟨vs, hr, hrun⟩ := rsV_run hT (s := ⟨σ, L, []⟩) hf hs _ _ h
    refine ⟨oneOf vs, ?_, _, rfl, hr.go w hs⟩
    rw [results_rd, Array.mapM_eq_mapM_toList, map_eq_pure_bind]
    simp only [Sem.run_bind, hrun, Result.andThen_ok, Sem.run_pure]
    unfold oneOf
    rcases vs with _ | ⟨v, _ | ⟨u, l⟩⟩ <;> simp
  | cons d D ih =>
    intro L w hs h
    unfold mkV at h
    split at h
    · rename_i b hb
      obtain ⟨i, hi, go⟩ := h
      have hk := hs.nth hi
      have hlt := (Array.getElem?_eq_some_iff.1 hk).1
      refine ⟨by simp, .inl ⟨b, _, hb, run_takeDeferred hk, ih _ _ ?_ go⟩⟩
      exact hs.set hi (by rw [World.putObj_size]; exact Nat.le_refl _) (World.putObj_heap_same hlt) (fun j _ hj => World.putObj_heap_other hj) rfl rfl rfl
    · rename_i g cs hb
      have e1 : (d.args.toList ++ cs.toList).toArray = d.args ++ cs := by apply Array.ext'; simp
      have hc := h.hc w
      have hg := h.go w hs (n - 1)
      rw [e1] at hc hg
      refine ⟨by simp, .inr ⟨(fun e => by cases e), .func g, cs, g, _, hb, (by rw [hb]; exact hc), fun _ _ => trivial, hg.mono ?_⟩⟩
      rintro e u w' ⟨rfl, v, L', rfl, h1, h2⟩
      exact ih L' w' h1 h2
    · exact h.elim
/-- a function with a body, by its code's conditions -/
theorem enter {P : Program} {T : Tab} (hT : TabOk P T) {g : FuncId} {fn : Func} {c : Code} (hf : P.funcs[g]? = some fn) (hb : fn.body = some c) {N : Nat} (hN : fn.ntmps = N) {vs : List Value} (hle : Nat.ble vs.length N = true) {M : Bks} {w : World} {L : List Ent}
    {R : Value → World → Prop} (hs : St M w w L) (h : cx ⟨P, T, N, M, w, none⟩ c (retK ⟨P, T, N, M, w, none⟩ fn R) ⟨par 0 vs, L, []⟩) : Calls P g vs.toArray w fun e w' => ∃ v, e = .returned v ∧ R v w' := by
  subst hN
  refine (callsIn_wide (n := 3)).1 (callsIn_of_wp_marks hf hb trivial (wpIn_mono ((cx_ok (C := ⟨P, T, fn.ntmps, M, w, none⟩) hT _ _ _ h).go 3 _ w ⟨by have := Nat.le_of_ble_eq_true hle; simp; omega, rfl, ?_⟩ hs) ?_) rfl)
  · intro i v hv
    obtain ⟨_, h1⟩ := par_get _ _ _ _ hv
    have hi : i < vs.length := (List.getElem?_eq_some_iff.1 h1).1
    simp [Array.getD_eq_getD_getElem?, Array.getElem?_append, hi]
    simpa [hi] using h1
  · rintro e a w' ⟨s, hf', hs', hk⟩
    have hd := hf'.defers
    cases e with
    | normal => simp only [bodyPostM, hd]; exact retV_ok (C := ⟨P, T, fn.ntmps, M, w, none⟩) hT hf'.slot s.D s.L w' hs' hk
    | ret => simp only [bodyPostM, hd]; exact retV_ok (C := ⟨P, T, fn.ntmps, M, w, none⟩) hT hf'.slot s.D s.L w' hs' hk
    | _ => exact hk.elim
end Go.Sx
