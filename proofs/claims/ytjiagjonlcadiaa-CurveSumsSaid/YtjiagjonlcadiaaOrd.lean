/- A region that draws its order, whose last store hits a block that the region loads from: the loads are taken first under a condition that is asked behind every operation but that store. -/
import Derived.Test.YtjiagjonlcadiaaRow
import Derived.OrdersHeld
import Derived.Deep.RegionHeld3
namespace Go
variable {P : Program} {md : Region.Mode} {ops : Array Oper} {Q : Exit → Act → World → Prop} {f : Nat} {S : World → Prop}

/-- whatever order is picked from here on; behind each operation but number f the world meets S -/
def wpBut (P : Program) (md : Region.Mode) (ops : Array Oper) (Q : Exit → Act → World → Prop) (f : Nat) (S : World → Prop) : Nat → Array Bool → Act → World → Prop
  | 0, listed, a, w => Region.ready md ops listed = [] ∧ Q .normal a w
  | n + 1, listed, a, w => (Region.ready md ops listed = [] → Q .normal a w) ∧
      ∀ j ∈ Region.ready md ops listed, wpOp P ops Q j (fun a' w' => (j ≠ f → S w') ∧ wpBut P md ops Q f S n (listed.setIfInBounds j true) a' w') a w

theorem wpAny_of_but (n : Nat) : ∀ (listed : Array Bool) (a : Act) (w : World), wpBut P md ops Q f S n listed a w → wpAny P md ops Q n listed a w := by
  induction n with
  | zero => intro _ _ _ h; exact h
  | succ n ih => intro listed a w h; exact ⟨h.1, fun j hj => wpOp_mono (fun a' w' h' => ih _ a' w' h'.2) (h.2 j hj)⟩

theorem wpBut_gen {i : Nat} {oi : Oper} {v : Value} (hi : ops[i]? = some oi) (hsel : ∀ (j : Nat) (o : Oper) cs b, ops[j]? = some o → o.op ≠ .select cs b)
    (hif : i ≠ f) (hf : ∀ o, ops[f]? = some o → ∃ e ∈ o.after, Region.binds md e = true ∧ e.on = i) (hQ : ∀ c a w, Q (.panic c) (a.put oi.dst v) w → Q (.panic c) a w) (n : Nat) :
    ∀ (listed : Array Bool) (a : Act) (w : World),
      (∀ j oj, ops[j]? = some oj → j ≠ i → listed.getD j true = false → (∀ e ∈ oj.after, Region.binds md e = true → e.on ≠ i) → oi.apart ops oj = true) →
      i ∈ Region.ready md ops listed → YieldsIf P ops S oi v a → S w →
      wpBut P md ops Q f S n (listed.setIfInBounds i true) (a.put oi.dst v) w → wpBut P md ops Q f S (n + 1) listed a w := by
  induction n with
  | zero =>
    intro listed a w _ hr hy hS H
    refine ⟨fun h => (by rw [h] at hr; cases hr), fun j hj => ?_⟩
    by_cases hji : j = i
    · subst hji; exact hy.wpOp hi hS ⟨fun _ => hS, H⟩
    · have h0 := ready_mono hj hji
      rw [H.1] at h0
      cases h0
  | succ n ih =>
    intro listed a w hfree hr hy hS H
    refine ⟨fun h => (by rw [h] at hr; cases hr), fun j hj => ?_⟩
    by_cases hji : j = i
    · subst hji; exact hy.wpOp hi hS ⟨fun _ => hS, H⟩
    have hiun := (mem_ready.1 hr).1
    obtain ⟨hjun, oj, hoj, hall⟩ := mem_ready.1 hj
    -- j does not wait for i, which has not come up: so j is not f
    have hnot : ∀ e ∈ oj.after, Region.binds md e = true → e.on ≠ i := by
      intro e he hb heq
      have h1 := hall e he hb
      rw [heq] at h1
      by_cases hlt : i < listed.size
      · simp [hlt] at hiun h1; rw [hiun] at h1; cases h1
      · simp [Array.getElem?_eq_none (Nat.le_of_not_lt hlt)] at h1
    have hjf : j ≠ f := by
      rintro rfl
      obtain ⟨e, he, hb, hon⟩ := hf oj hoj
      exact hnot e he hb hon
    have hstep := wpOp_putIf hoj (hfree j oj hoj hji hjun hnot) (fun cs b => hsel i oi cs b hi) (fun cs b => hsel j oj cs b hoj) hQ hy (H.2 j (ready_mono hj hji))
    refine wpOp_mono (fun a' w' hk => ?_) hstep
    have hSw := hk.2.1 hjf
    refine ⟨fun _ => hSw, ih (listed.setIfInBounds j true) a' w' ?_ (ready_mono hr (Ne.symm hji)) hk.1 hSw ?_⟩
    · intro k ok hok hki hun hno
      refine hfree k ok hok hki ?_ hno
      by_cases hjk : j = k
      · subst hjk; exact hjun
      · rw [getD_set_ne true hjk] at hun; exact hun
    · rw [Array.setIfInBounds_comm _ _ hji]; exact hk.2.2

/-- does number f wait for number i? -/
def waitsFor (md : Region.Mode) (ops : Array Oper) (f i : Nat) : Bool := match ops[f]? with
  | some o => o.after.any fun e => Region.binds md e && e.on == i
  | none => true

/-- take number i first -/
theorem wpBut_take {i : Nat} {oi : Oper} {v : Value} {n : Nat} {listed : Array Bool} {a : Act} {w : World} (hi : ops[i]? = some oi) (hs : Region.noSelect ops = true) (hfr : Region.free md ops listed i = true)
    (hr : (Region.ready md ops listed).contains i = true) (hif : (i == f) = false) (hf : waitsFor md ops f i = true) (hQ : ∀ c a w, Q (.panic c) (a.put oi.dst v) w → Q (.panic c) a w) (hy : YieldsIf P ops S oi v a) (hS : S w)
    (h : wpBut P md ops Q f S n (listed.setIfInBounds i true) (a.put oi.dst v) w) : wpBut P md ops Q f S (n + 1) listed a w := by
  refine wpBut_gen hi (Region.noSelect_spec hs) (by simpa using hif) (fun o ho => ?_) hQ n listed a w (Region.free_spec hi hfr) (by simpa using hr) hy hS h
  unfold waitsFor at hf
  rw [ho] at hf
  simp only [Array.any_eq_true'] at hf
  obtain ⟨e, he, hb⟩ := hf
  simp only [Bool.and_eq_true, beq_iff_eq] at hb
  exact ⟨e, he, hb.1, hb.2⟩

theorem yieldsIf_load_row {oi : Oper} {a : Act} (hw : Region.wanted oi (yielded ops a.tmps) = true) (ty : TypeId) (x : Operand) (ho : oi.op = .load ty x) (g : Nat) (hx : a.eval x = .pointer (some ⟨g, 0, none⟩)) (t : TypeId) (cs : Array Value)
    {d : TypeDesc} (hS : ∀ w, S w → w.heap[g]? = some (.cells cs t (0, 0))) (hu : P.underlying ty = some d) (hd : (match d with | .struct _ | .array _ _ => true | _ => false) = true) (hi : (P.info? ty).map (·.size) = some cs.size) :
    YieldsIf P ops S oi (.agg cs) a := by
  refine Or.inl ⟨hw, fun w h => ?_⟩
  unfold execOp
  simp only [ho, hx, Instr.loadAt, Instr.sureAddr, Sem.run_bind, Sem.run_pure, Result.andThen_ok, run_loadVar_row w g t ty cs (0, 0) d (hS w h) hu hd hi]

/-- one operation alone may come up -/
theorem wpBut_one {i : Nat} {oi : Oper} {n : Nat} {listed : Array Bool} {a : Act} {w : World} (hr : Region.ready md ops listed = [i]) (hi : ops[i]? = some oi)
    (h : ∀ K : Act → World → Prop, Shut (∀ a' w', (i ≠ f → S w') → wpBut P md ops Q f S n (listed.setIfInBounds i true) a' w' → K a' w') → if Region.wanted oi (yielded ops a.tmps) = true then Oper.wp P oi a w K Q else K (a.put oi.dst undef) w) :
    wpBut P md ops Q f S (n + 1) listed a w := by
  refine ⟨fun h0 => (by rw [hr] at h0; cases h0), fun j hj => ?_⟩
  rw [hr] at hj
  obtain rfl : j = i := by simpa using hj
  exact wpOp_step hi fun K hK => h K fun a' w' hS hW => hK a' w' ⟨hS, hW⟩

/-- two operations may come up -/
theorem wpBut_two {i j : Nat} {oi oj : Oper} {n : Nat} {listed : Array Bool} {a : Act} {w : World} (hr : Region.ready md ops listed = [i, j]) (hi : ops[i]? = some oi) (hj : ops[j]? = some oj)
    (h1 : ∀ K : Act → World → Prop, Shut (∀ a' w', (i ≠ f → S w') → wpBut P md ops Q f S n (listed.setIfInBounds i true) a' w' → K a' w') → if Region.wanted oi (yielded ops a.tmps) = true then Oper.wp P oi a w K Q else K (a.put oi.dst undef) w)
    (h2 : ∀ K : Act → World → Prop, Shut (∀ a' w', (j ≠ f → S w') → wpBut P md ops Q f S n (listed.setIfInBounds j true) a' w' → K a' w') → if Region.wanted oj (yielded ops a.tmps) = true then Oper.wp P oj a w K Q else K (a.put oj.dst undef) w) :
    wpBut P md ops Q f S (n + 1) listed a w := by
  refine ⟨fun h0 => (by rw [hr] at h0; cases h0), fun k hk => ?_⟩
  rw [hr] at hk
  simp only [List.mem_cons, List.not_mem_nil, or_false] at hk
  rcases hk with rfl | rfl
  · exact wpOp_step hi fun K hK => h1 K fun a' w' hS hW => hK a' w' ⟨hS, hW⟩
  · exact wpOp_step hj fun K hK => h2 K fun a' w' hS hW => hK a' w' ⟨hS, hW⟩

theorem wpBut_done {n : Nat} {listed : Array Bool} {a : Act} {w : World} (hr : Region.ready md ops listed = []) (h : Q .normal a w) : wpBut P md ops Q f S n listed a w := by
  cases n with
  | zero => exact ⟨hr, h⟩
  | succ n => exact ⟨fun _ => h, by rw [hr]; simp⟩

theorem wp_region_but {id : Nat} {a : Act} {w : World} (f : Nat) (S : World → Prop) (hm : P.follows .mixedOrders = true)
    (h : wpBut P .any ops Q f S ops.size (Array.replicate ops.size false) a w.drew) : (Code.region id ops true).wp P Q a w :=
  wp_region_any hm (wpAny_of_but _ _ _ _ h)
/-- the ways through a region meet again: what is known of the block that it made -/
theorem wp_region_join {id : Nat} {b : Bool} {a : Act} {w : World} (C : World → Nat → World → Prop) (F : Act → Nat → Act)
    (h : ∀ Q' : Exit → Act → World → Prop, (∀ B w', C w B w' → Q' .normal (F a B) w') → (Code.region id ops b).wp P Q' a w) (hQ : ∀ W0 B w', W0 = w → C W0 B w' → Q .normal (F a B) w') : (Code.region id ops b).wp P Q a w :=
  h Q fun B w' hC => hQ w B w' rfl hC

/-- the condition: nothing that was there when the region began has turned -/
theorem wp_region_below {id : Nat} {a : Act} {w : World} (f : Nat) (hm : P.follows .mixedOrders = true)
    (h : ∀ W0 : World, W0 = w → wpBut P .any ops Q f (fun w' => Go.RowKit.Below W0.heap.size W0 w') ops.size (Array.replicate ops.size false) a W0.drew) : (Code.region id ops true).wp P Q a w :=
  wp_region_but f _ hm (h w rfl)
end Go
