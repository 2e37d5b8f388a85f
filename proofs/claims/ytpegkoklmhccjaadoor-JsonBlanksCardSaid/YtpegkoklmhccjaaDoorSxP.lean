/- Regions that draw, as a graph: one fact for each set of operations that are done. -/
import Derived.Test.YtpegkoklmhccjaaDoorSxN
namespace Go.Sx
open Go Go.RowKit
set_option linter.unusedVariables false
variable {C : Cx} {ops : Array Oper} {L0 : List Ent} {Q : Act → World → Prop}

def Inc (σ τ : Fr) : Prop := ∀ i v, get σ i = some v → get τ i = some v
theorem Inc.put {σ τ : Fr} (h : Inc σ τ) (N : Nat) (d : Option Nat) (v : Value) : Inc (put N d v σ) (put N d v τ) := fun i u hu => by
  rw [get_put] at hu ⊢
  split at hu
  · rename_i hc; rw [if_pos hc]; exact hu
  · rename_i hc; rw [if_neg hc]; exact h i u hu
theorem dG_mono (n : Nat) : ∀ (l : Array Bool) (s s' : Sy), Sub L0 s'.L → Inc s.σ s'.σ → (∀ w, St C.M C.B w s'.L → St C.M C.B w s.L) → s.D = s'.D → dG C ops L0 [] Q n l s → dG C ops L0 [] Q n l s' := by
  have fit : ∀ (s s' : Sy) (a : Act), Inc s.σ s'.σ → s.D = s'.D → Fits C.N s' a → Fits C.N s a := fun s s' a hi hd hf => ⟨hf.size, hf.defers.trans hd.symm, fun i v hv => hf.slot i v (hi i v hv)⟩
  induction n with
  | zero => intro l s s' _ hi hL hD h; exact ⟨h.1, fun a w hf hs => h.2 a w (fit s s' a hi hD hf) (hL w hs)⟩
  | succ n ih =>
    intro l s s' hA hi hL hD h
    refine ⟨fun h0 a w hf hs => h.1 h0 a w (fit s s' a hi hD hf) (hL w hs), fun j hj o ho a w hf hs => ?_⟩
    have h1 := h.2 j hj o ho a w (fit s s' a hi hD hf) (hL w hs)
    refine ⟨fun hw => Fin.mono (fun v L' hk => ?_) (h1.1 hw), fun hw => ?_⟩
    · exact ⟨hk.1, ih _ ⟨put C.N o.dst v s.σ, L', s.D⟩ ⟨put C.N o.dst v s'.σ, L', s'.D⟩ (hk.1 rfl) (hi.put _ _ _) (fun _ h => h) hD hk.2⟩
    · exact ⟨fun _ => hA, ih _ ⟨put C.N o.dst undef s.σ, s.L, s.D⟩ ⟨put C.N o.dst undef s'.σ, s'.L, s'.D⟩ hA (hi.put _ _ _) hL hD (h1.2 hw).2⟩
/-- what may be said of a set of operations that are done -/
structure GR (C : Cx) (ops : Array Oper) (L0 : List Ent) (K : Sy → Prop) (T : Nat → Array Bool → Sy → Prop) : Prop where
  fin : ∀ m l s, Region.ready .any ops l = [] → K s → T m l s
  one : ∀ m l s i, Region.ready .any ops l = [i] → Sub L0 s.L → dn C ops L0 [] i (T m (l.setIfInBounds i true)) s → T (m + 1) l s
  two : ∀ m l s i j, Region.ready .any ops l = [i, j] → Sub L0 s.L → dn C ops L0 [] i (T m (l.setIfInBounds i true)) s → dn C ops L0 [] j (T m (l.setIfInBounds j true)) s → T (m + 1) l s
  three : ∀ m l s i j k, Region.ready .any ops l = [i, j, k] → Sub L0 s.L → dn C ops L0 [] i (T m (l.setIfInBounds i true)) s → dn C ops L0 [] j (T m (l.setIfInBounds j true)) s → dn C ops L0 [] k (T m (l.setIfInBounds k true)) s → T (m + 1) l s
  four : ∀ m l s i j k q, Region.ready .any ops l = [i, j, k, q] → Sub L0 s.L → dn C ops L0 [] i (T m (l.setIfInBounds i true)) s → dn C ops L0 [] j (T m (l.setIfInBounds j true)) s → dn C ops L0 [] k (T m (l.setIfInBounds k true)) s → dn C ops L0 [] q (T m (l.setIfInBounds q true)) s → T (m + 1) l s
  mono : ∀ m l s s', Sub L0 s'.L → leF s.σ s'.σ → (∃ L', s.L.Perm L' ∧ Sub L' s'.L) → s.D = s'.D → T m l s → T m l s'
theorem GR.go {K : Sy → Prop} {T : Nat → Array Bool → Sy → Prop} (g : GR C ops L0 K T) {m : Nat} {l : Array Bool} {s s' : Sy} (h : T m l s) (hs : Sub L0 s'.L) (hle : leF s.σ s'.σ) (hp : ∃ L', s.L.Perm L' ∧ Sub L' s'.L) (hd : s.D = s'.D) : T m l s' := g.mono m l s s' hs hle hp hd h
theorem gr_dG (hT : TabOk C.P C.T) (K : Sy → Prop) : GR C ops L0 K (dG C ops L0 [] (Holds C K)) := by
  have step : ∀ (n : Nat) (l : Array Bool) (s : Sy) (i : Nat), Sub L0 s.L → dn C ops L0 [] i (dG C ops L0 [] (Holds C K) n (l.setIfInBounds i true)) s → ∀ o, ops[i]? = some o → ∀ a w, Fits C.N s a → St C.M C.B w s.L →
      StepG C ops o a w s.L fun u L' => (memN i [] = false → Sub L0 L') ∧ dG C ops L0 [] (Holds C K) n (l.setIfInBounds i true) ⟨put C.N o.dst u s.σ, L', s.D⟩ :=
    fun n l s i hi h => dn_ok hT h (fun s' _ h => h) (.inl hi)
  refine ⟨fun m l s h0 hk => ?_, fun m l s i hr hs h => ?_, fun m l s i j hr hs h1 h2 => ?_, fun m l s i j k hr hs h1 h2 h3 => ?_, fun m l s i j k q0 hr hs h1 h2 h3 h4 => ?_, fun m l s s' hA hle ⟨L', hp, hs⟩ hD h => dG_mono m l s s' hA (leF_get hle) (fun w hw => (hw.sub hs).perm hp) hD h⟩
  · cases m with
    | zero => exact ⟨h0, fun a w hf hs => ⟨s, hf, hs, hk⟩⟩
    | succ n => exact ⟨fun _ a w hf hs => ⟨s, hf, hs, hk⟩, fun j hj => by rw [h0] at hj; cases hj⟩
  · refine ⟨fun h0 => (by rw [hr] at h0; cases h0), fun q hq => ?_⟩
    rw [hr] at hq
    obtain rfl : q = i := by simpa using hq
    exact step m l s q hs h
  · refine ⟨fun h0 => (by rw [hr] at h0; cases h0), fun q hq => ?_⟩
    rw [hr] at hq
    have : q = i ∨ q = j := by simpa using hq
    rcases this with rfl | rfl
    · exact step m l s q hs h1
    · exact step m l s q hs h2
  · refine ⟨fun h0 => (by rw [hr] at h0; cases h0), fun q hq => ?_⟩
    rw [hr] at hq
    have : q = i ∨ q = j ∨ q = k := by simpa using hq
    rcases this with rfl | rfl | rfl
    · exact step m l s q hs h1
    · exact step m l s q hs h2
    · exact step m l s q hs h3
  · refine ⟨fun h0 => (by rw [hr] at h0; cases h0), fun q hq => ?_⟩
    rw [hr] at hq
    have : q = i ∨ q = j ∨ q = k ∨ q = q0 := by simpa using hq
    rcases this with rfl | rfl | rfl | rfl
    · exact step m l s q hs h1
    · exact step m l s q hs h2
    · exact step m l s q hs h3
    · exact step m l s q hs h4
def odT : List Nat → Od
  | [] => .nil
  | i :: l => .t i (odT l)
def lst (l : Array Bool) : List Nat → Array Bool
  | [] => l
  | i :: ts => lst (l.setIfInBounds i true) ts
def tsOk (ops : Array Oper) : List Nat → Array Bool → Bool
  | [], _ => true
  | i :: ts, l => tOk ops [] l i && tsOk ops ts (l.setIfInBounds i true)
theorem dx_ts (hT : TabOk C.P C.T) (hsel : Region.noSelect ops = true) {K : Sy → Prop} (ts : List Nat) : ∀ (n : Nat) (l : Array Bool) (s : Sy), Shut ops l → tsOk ops ts l = true → Sub L0 s.L →
    dx C ops L0 [] (odT ts) (dG C ops L0 [] (Holds C K) n (lst l ts)) s → dG C ops L0 [] (Holds C K) (n + ts.length) l s := by
  induction ts with
  | nil => intro n l s _ _ _ h; exact h
  | cons i ts ih =>
    intro n l s hsh hok hsb h
    simp only [tsOk, Bool.and_eq_true] at hok
    obtain ⟨hk, hr⟩ := hok
    simp only [tOk, Bool.and_eq_true, Bool.not_eq_true'] at hk
    obtain ⟨⟨⟨k1, k2⟩, k3⟩, k4⟩ := hk
    obtain ⟨σ, L, D⟩ := s
    change dt C ops L0 i (dx C ops L0 [] (odT ts) (dG C ops L0 [] (Holds C K) n (lst (l.setIfInBounds i true) ts))) ⟨σ, L, D⟩ at h
    simp only [dt, opAt, putC_eq] at h
    split at h
    · rename_i o ho
      have hf' : ∀ j, memN j [] = true → (ops[j]?).isSome = true → Dep ops i j := fun j hj hs => waits_dep (allN_mem k4 hj) hs
      have hrd : i ∈ Region.ready .any ops l := by simpa using k2
      obtain ⟨b, hp, hq, hb⟩ := gd_ok (C := C) (s := ⟨σ, L, D⟩) h
      rw [List.length_cons, ← Nat.add_assoc]
      cases b with
      | false => exact dG_take (v := undef) ho hsel k3 hf' _ l _ hsh (Region.free_spec ho k1) hrd hsb (fun a ha => .inr ⟨hb a ha, rfl⟩) (ih n _ _ (hsh.next hrd) hr hsb (hq rfl))
      | true =>
        have key : ∃ v, dx C ops L0 [] (odT ts) (dG C ops L0 [] (Holds C K) n (lst (l.setIfInBounds i true) ts)) ⟨put C.N o.dst v σ, L, D⟩ ∧ ∀ a, Fits C.N ⟨σ, L, D⟩ a → ∀ w, St C.M C.B w L0 → FinT C v w ((execOp a.eval o).run C.P w) := by
          obtain ⟨v, hv, hr'⟩ := tkV_ok hT (fit_canon σ) (hp rfl)
          refine ⟨v, hv, fun a ha w hs => ?_⟩
          rw [execOp_congr o (fun cs b => Region.noSelect_spec hsel i o cs b ho) (fun x hx => canon_eq ha (tkV_known (hp rfl) x hx))]
          exact hr' w hs
        obtain ⟨v, hv, hr'⟩ := key
        exact dG_take (v := v) ho hsel k3 hf' _ l _ hsh (Region.free_spec ho k1) hrd hsb (fun a ha => .inl ⟨hb a ha, hr' a ha⟩) (ih n _ _ (hsh.next hrd) hr hsb hv)
    · exact h.elim
/-- a region that draws: those of ts first, then as a graph -/
theorem drg (L0 : List Ent) (ts : List Nat) (m : Nat) (hT : TabOk C.P C.T) {id : Nat} {K : Exit → Sy → Prop} {s : Sy} (hm : C.P.follows .mixedOrders = true) (hn : m + ts.length = ops.size)
    (hok : (Region.noSelect ops && tsOk ops ts (Array.replicate ops.size false)) = true) (hL : Sub L0 s.L)
    (h : ∀ T : Nat → Array Bool → Sy → Prop, GR C ops L0 (K .normal) T → dx C ops L0 [] (odT ts) (T m (lst (Array.replicate ops.size false) ts)) s) : DrawP C id ops K s := by
  simp only [Bool.and_eq_true] at hok
  obtain ⟨h1, h3⟩ := hok
  refine ⟨fun n a w hf hs => ?_⟩
  have hsh : Shut ops (Array.replicate ops.size false) := by
    intro j o ho hj
    have hlt : j < ops.size := (Array.getElem?_eq_some_iff.1 ho).1
    simp [hlt] at hj
  have h4 := dx_ts hT h1 ts m (Array.replicate ops.size false) s hsh h3 hL (h _ (gr_dG hT (K .normal)))
  rw [hn] at h4
  exact wpIn_region_any hm (dG_any (Q' := Qof C K) (fun a w hq => hq) _ _ _ h4 a _ hf hs.drew)
theorem permLast {α : Type} (X1 : List α) (e : α) (X2 : List α) : (X1 ++ e :: X2).Perm (X1 ++ X2 ++ [e]) := by
  rw [List.append_assoc]
  exact (List.perm_append_comm (l₁ := [e]) (l₂ := X2)).append_left X1
end Go.Sx
