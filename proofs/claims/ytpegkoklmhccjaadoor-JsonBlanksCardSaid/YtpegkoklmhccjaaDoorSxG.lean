/- Symbolic steps, seventh part: loads, stores, calls, tests, returns: one word each. -/
import Derived.Test.YtpegkoklmhccjaaDoorSxF
import Derived.KernelRfl
namespace Go.Sx
open Go Go.RowKit
set_option linter.unusedVariables false
variable {C : Cx} {L : List Ent}

theorem ld1 (k : Nat) {b o : Nat} {c : Array Value} {t : TypeId} {fz : Nat × Nat} {ro : Bool} {v : Value} {next : Value → Prop} (hk : L[k]? = some ⟨b, some (.cells c t fz), ro, none⟩) (hc : c[o]? = some v) (go : next v) : Ld1 C L b o next :=
  ⟨v, fun w hs => (hs.cell hk o).trans hc, go⟩
theorem range_of {w : World} {b o : Nat} {c d : Array Value} (h : ∀ i, w.cell? ⟨b, i, none⟩ = c[i]?) (hx : c.extract o (o + d.size) = d) : w.rangeAt b o d.toList := by
  intro j v hv
  have hj : j < d.size := by have := (List.getElem?_eq_some_iff.1 hv).1; simpa using this
  have hd : d[j]? = some v := by simpa using hv
  rw [h, ← hd, ← hx]
  simp only [Array.getElem?_extract]
  split
  · rfl
  · rename_i hn
    have hs : (c.extract o (o + d.size)).size = d.size := congrArg Array.size hx
    simp at hs
    omega
theorem ldP (k : Nat) {b o n : Nat} {c d : Array Value} {t : TypeId} {fz : Nat × Nat} {ro : Bool} {next : Value → Prop} (hk : L[k]? = some ⟨b, some (.cells c t fz), ro, none⟩) (hn : d.size = n) (hx : c.extract o (o + n) = d) (go : next (.agg d)) : LdN C L b o n next :=
  ⟨d, hn, fun w hs => range_of (hs.cell hk) (by rw [hn]; exact hx), go⟩
theorem ldN (k : Nat) {b n : Nat} {c : Array Value} {t : TypeId} {fz : Nat × Nat} {ro : Bool} {next : Value → Prop} (hk : L[k]? = some ⟨b, some (.cells c t fz), ro, none⟩) (hn : c.size = n) (go : next (.agg c)) : LdN C L b 0 n next :=
  ⟨c, hn, fun w hs => range_of (hs.cell hk) (by simp), go⟩
/-- a cell of a block of one's own -/
theorem s1 (k : Nat) {b o : Nat} {c : Array Value} {t t' : TypeId} {v : Value} {next : List Ent → Prop} (hk : L[k]? = some (cl b c t')) (ho : o < c.size) (go : next (L.set k (cl b (c.setIfInBounds o v) t')))
    (hz : sizeIs C.P t 1 = true := by kernel_rfl) (h1 : v.oneCell' = true := by rfl) (hv : v.cells = #[v] := by rfl) : StP C t L b o v next := by
  refine ⟨_, fun w hs => ⟨_, ?_, hs.setCell hk o v⟩, go⟩
  have hst := run_storeCells_cells (P := C.P) b o [v] 0 w (fun j hj => by
    obtain rfl : j = 0 := by simpa using hj
    rw [hs.cell hk]; simp [ho]) (fun j hj => by
    obtain rfl : j = 0 := by simpa using hj
    exact frozen_of_row w b o c t' (hs.nth hk)) (by simpa using h1)
  have h3 : (storeCells ⟨b, o, none⟩ [v]).run C.P w = .ok () (w.setCell ⟨b, o, none⟩ v) := hst
  simp [storeVar, run_sizeOf (sizeIs_eq hz), hv, h3]
/-- a whole block of one's own -/
theorem sN (k : Nat) {b : Nat} {c d : Array Value} {t t' : TypeId} {next : List Ent → Prop} (hk : L[k]? = some (cl b c t')) (hd : d.size = c.size) (h1 : d.toList.all (·.oneCell') = true) (go : next (L.set k (cl b d t')))
    (hz : sizeIs C.P t d.size = true) : StP C t L b 0 (.agg d) next := by
  refine ⟨_, fun w hs => ⟨_, ?_, hs.setRow hk d⟩, go⟩
  have h1' : ∀ u ∈ d.toList, u.oneCell' = true := fun u hu => List.all_eq_true.1 h1 u hu
  have h := run_storeCells_at C.P b 0 t' d.toList 0 c w (hs.nth hk) (by simp; omega) h1'
  have e : (c.toList.take 0 ++ d.toList ++ c.toList.drop (0 + d.toList.length)).toArray = d := by
    apply Array.ext'
    have : List.drop d.size c.toList = [] := by simp; omega
    simp [this]
  simp only [Nat.add_zero, e] at h
  simp [storeVar, run_sizeOf (sizeIs_eq hz), Value.cells, h]
/-- a part of a block of one's own -/
theorem sP (k : Nat) {b o : Nat} {c d e : Array Value} {t t' : TypeId} {next : List Ent → Prop} (hk : L[k]? = some (cl b c t')) (hd : o + d.size ≤ c.size) (h1 : d.toList.all (·.oneCell') = true) (he : (c.toList.take o ++ d.toList ++ c.toList.drop (o + d.size)).toArray = e) (go : next (L.set k (cl b e t')))
    (hz : sizeIs C.P t d.size = true) : StP C t L b o (.agg d) next := by
  subst he
  refine ⟨_, fun w hs => ⟨_, ?_, hs.setRow hk _⟩, go⟩
  have h1' : ∀ u ∈ d.toList, u.oneCell' = true := fun u hu => List.all_eq_true.1 h1 u hu
  have h := run_storeCells_at C.P b o t' d.toList 0 c w (hs.nth hk) (by simpa using hd) h1'
  simp only [Nat.add_zero] at h
  simp [storeVar, run_sizeOf (sizeIs_eq hz), Value.cells, h]

/-- a call that gives just this -/
theorem cv {g : FuncId} {vs : List Value} {v : Value} {next : Value → List Ent → Prop} (h : ∀ w, Calls C.P g vs.toArray w fun e w' => e = .returned v ∧ Below w.heap.size w w') (go : next v L) : CallP C g vs L next :=
  ⟨fun w hs => (h w).mono fun e w' ⟨he, hb⟩ => ⟨v, L, he, hs.call hb, go⟩⟩
theorem cvs {g : FuncId} {vs : List Value} {v : Value} {next : Value → List Ent → Prop} (h : ∀ w, St C.M C.B w L → Calls C.P g vs.toArray w fun e w' => e = .returned v ∧ Below w.heap.size w w') (go : next v L) : CallP C g vs L next :=
  ⟨fun w hs => (h w hs).mono fun e w' ⟨he, hb⟩ => ⟨v, L, he, hs.call hb, go⟩⟩
theorem cz {g : FuncId} {vs : List Value} {v : Value} {next : Value → Prop} (h : ∀ w, Calls C.P g vs.toArray w fun e w' => e = .returned v ∧ Below w.heap.size w w') (go : next v) : C0P C g vs L next := ⟨v, fun w _ => h w, go⟩
theorem czs {g : FuncId} {vs : List Value} {v : Value} {next : Value → Prop} (h : ∀ w, St C.M C.B w L → Calls C.P g vs.toArray w fun e w' => e = .returned v ∧ Below w.heap.size w w') (go : next v) : C0P C g vs L next := ⟨v, h, go⟩
/-- a call that makes a block -/
theorem cn {g : FuncId} {vs : List Value} {v : Nat → Value} {o : Obj} {next : Value → List Ent → Prop} (h : ∀ w, St C.M C.B w L → Calls C.P g vs.toArray w fun e w' => ∃ b, e = .returned (v b) ∧ w.heap.size ≤ b ∧ w'.heap[b]? = some o ∧ Below w.heap.size w w') (go : ∀ b, next (v b) (L ++ [⟨b, some o, false, none⟩])) : CallP C g vs L next :=
  ⟨fun w hs => (h w hs).mono fun e w' ⟨b, he, h1, h2, hb⟩ => ⟨v b, _, he, hs.add hb h1 h2, go b⟩⟩
/-- a call by its contract, as it stands -/
theorem cg {g : FuncId} {vs : List Value} {R : World → Ending → World → Prop} {next : Value → List Ent → Prop} (h : ∀ w, St C.M C.B w L → Calls C.P g vs.toArray w (R w)) (go : ∀ w e w', St C.M C.B w L → R w e w' → ∃ v L', e = .returned v ∧ St C.M C.B w' L' ∧ next v L') : CallP C g vs L next :=
  ⟨fun w hs => (h w hs).mono fun e w' hr => go w e w' hs hr⟩

theorem ct {b : Bool} {p q : Prop} (h : b = true) (go : p) : CondQ b p q := ⟨fun _ => go, fun h' => by rw [h] at h'; cases h'⟩
theorem cf {b : Bool} {p q : Prop} (h : b = false) (go : q) : CondQ b p q := ⟨fun h' => (by rw [h] at h'; cases h'), fun _ => go⟩
theorem cd {a : Prop} [Decidable a] {p q : Prop} (t : a → p) (f : ¬ a → q) : CondQ (decide a) p q := ⟨fun h => t (of_decide_eq_true h), fun h => f (of_decide_eq_false h)⟩
theorem cq {x y : Int} {p q : Prop} (t : x = y → p) (f : x ≠ y → q) : CondQ (x == y) p q := ⟨fun h => t (by simpa using h), fun h => f (by simpa using h)⟩
theorem cne {x y : Int} {p q : Prop} (t : x ≠ y → p) (f : x = y → q) : CondQ (x != y) p q := ⟨fun h => t (by simpa using h), fun h => f (by simpa using h)⟩

/-- a function with a body that gives just this -/
theorem enterV {P : Program} {T : Tab} (hT : TabOk P T) {g : FuncId} {fn : Func} {c : Code} (hf : P.funcs[g]? = some fn) (hb : fn.body = some c) {N : Nat} (hN : fn.ntmps = N) {vs : List Value} (hle : Nat.ble vs.length N = true) {w : World} {L : List Ent}
    {v0 : Value} (hs : St [] w w L) (h : cx ⟨P, T, N, [], w, none⟩ c (retK ⟨P, T, N, [], w, none⟩ fn (fun v w' => v = v0 ∧ Below w.heap.size w w')) ⟨par 0 vs, L, []⟩) : Calls P g vs.toArray w fun e w' => e = .returned v0 ∧ Below w.heap.size w w' :=
  (enter hT hf hb hN hle hs h).mono fun e w' ⟨v, he, hv, hb⟩ => ⟨by rw [he, hv], hb⟩
/-- it returns -/
theorem rt {P : Program} {T : Tab} {N : Nat} {w : World} {v0 v : Value} {L : List Ent} (hv : v = v0) : RetP ⟨P, T, N, [], w, none⟩ (fun v w' => v = v0 ∧ Below w.heap.size w w') v L := ⟨fun w' hs => ⟨hv, hs.below⟩⟩
/-- a block that was there, and is only read -/
theorem St.reads1 {w : World} {b : Nat} {c : Array Value} {t : TypeId} (h : w.heap[b]? = some (.cells c t (0, 0))) : St [] w w [cr b c t] :=
  St.from w [] _ (fun e he => by obtain rfl : e = cr b c t := by simpa using he
                                 exact ⟨by simpa using h, fun k hk => by simp at hk⟩) (by simp)
end Go.Sx
