/- Symbolic steps, tenth part: things that are held in blocks; maps. -/
import Derived.Test.YtpegkoklmhccjaaDoorSxJ
namespace Go.Sx
open Go Go.RowKit
set_option linter.unusedVariables false
variable {C : Cx} {L : List Ent}

/-- from one world to another, a thing that is held turns, and nothing else that was there -/
structure Turns (w w' : World) (r r' : Res) : Prop where
  os : w'.os = w.os
  tape : w'.tape = w.tape
  output : w'.output = w.output
  size : w.heap.size ≤ w'.heap.size
  old : ∀ k, k < w.heap.size → ¬ r.w k → w'.heap[k]? = w.heap[k]?
  ok : r'.p w'
  W : ∀ k, r'.w k → r.w k ∨ w.heap.size ≤ k
  A : ∀ k, r'.w k ∨ r'.r k → (r.w k ∨ r.r k) ∨ w.heap.size ≤ k
theorem Turns.refl {w : World} {r : Res} (h : r.p w) : Turns w w r r := ⟨rfl, rfl, rfl, Nat.le_refl _, fun _ _ _ => rfl, h, fun k h => .inl h, fun k h => .inl h⟩
theorem Turns.of_below {w w' : World} {r : Res} (h : r.p w) (hb : Below w.heap.size w w') : Turns w w' r r :=
  ⟨hb.os, hb.tape, hb.output, hb.size, fun k hk _ => hb.block k hk, r.st w w' (fun k hk => hb.block k (r.bd w h k hk)) h, fun k h => .inl h, fun k h => .inl h⟩
theorem Turns.trans {a b c : World} {r s t : Res} (h1 : Turns a b r s) (h2 : Turns b c s t) : Turns a c r t := by
  refine ⟨h2.os.trans h1.os, h2.tape.trans h1.tape, h2.output.trans h1.output, Nat.le_trans h1.size h2.size, fun k hk hn => ?_, h2.ok, fun k hk => ?_, fun k hk => ?_⟩
  · refine (h2.old k (Nat.lt_of_lt_of_le hk h1.size) fun hs => ?_).trans (h1.old k hk hn)
    rcases h1.W k hs with h | h
    · exact hn h
    · omega
  · rcases h2.W k hk with h | h
    · exact h1.W k h
    · exact .inr (Nat.le_trans h1.size h)
  · rcases h2.A k hk with h | h
    · exact h1.A k h
    · exact .inr (Nat.le_trans h1.size h)
theorem St.turn {M : Bks} {B w w' : World} (h : St M B w L) {k : Nat} {r r' : Res} (hk : L[k]? = some (rs r)) (ht : Turns w w' r r') : St M B w' (L.set k (rs r')) :=
  h.upd hk ht.size (by simpa using ht.ok) (fun j hj hn => ht.old j hj (by simpa using hn)) ht.os ht.tape ht.output (fun j hj => by simpa using ht.W j (by simpa using hj)) (fun j hj => by simpa using ht.A j (by simpa using hj))
/-- a function's world as it turned a thing that it was handed -/
theorem Turns.of_st {M : Bks} {w w' : World} {r r' : Res} (h : St M w w' L) (hM : ∀ k, InM M k → r.w k) (ok : r'.p w') (W : ∀ k, r'.w k → r.w k ∨ w.heap.size ≤ k) (A : ∀ k, r'.w k ∨ r'.r k → (r.w k ∨ r.r k) ∨ w.heap.size ≤ k) : Turns w w' r r' :=
  ⟨h.os, h.tape, h.output, h.size, fun k hk hn => h.old k hk fun hm => hn (hM k hm), ok, W, A⟩
/-- a call that turns a thing -/
theorem cT (k : Nat) {g : FuncId} {vs : List Value} {α : Type} {Φ : α → Prop} {v : α → Value} {r : Res} {r' : α → Res} {next : Value → List Ent → Prop} (hk : L[k]? = some (rs r))
    (h : ∀ w, St C.M C.B w L → Calls C.P g vs.toArray w fun e w' => ∃ x, Φ x ∧ e = .returned (v x) ∧ Turns w w' r (r' x)) (go : ∀ x, Φ x → next (v x) (L.set k (rs (r' x)))) : CallP C g vs L next :=
  ⟨fun w hs => (h w hs).mono fun e w' ⟨x, hx, he, ht⟩ => ⟨_, _, he, hs.turn hk ht, go x hx⟩⟩
/-- a call that makes a thing -/
theorem cM {g : FuncId} {vs : List Value} {α : Type} {Φ : α → Prop} {v : α → Value} {r' : α → Res} {next : Value → List Ent → Prop}
    (h : ∀ w, St C.M C.B w L → Calls C.P g vs.toArray w fun e w' => ∃ x, Φ x ∧ e = .returned (v x) ∧ Below w.heap.size w w' ∧ (r' x).p w' ∧ (∀ k, (r' x).w k → w.heap.size ≤ k) ∧ ∀ k, (r' x).r k → w.heap.size ≤ k ∨ ∃ f ∈ L, f.A k ∧ ¬ f.W k)
    (go : ∀ x, Φ x → next (v x) (L ++ [rs (r' x)])) : CallP C g vs L next :=
  ⟨fun w hs => (h w hs).mono fun e w' ⟨x, hx, he, hb, hp, hw, ha⟩ => ⟨_, _, he, hs.push hb (by simpa using hp) (fun k hk => hw k (by simpa using hk)) (fun k hk => by
    rcases (rsA _ _).1 hk with h | h
    · exact .inl (hw k h)
    · exact ha k h), go x hx⟩⟩

/-- cells that a slice reads, in blocks of a kind -/
def RdR (rr : Nat → Prop) (w : World) (v : Value) (xs : List Value) : Prop := ∃ a c, v = .slice a xs.length c ∧ xs.length ≤ c ∧ c ≤ maxLen ∧ (∀ x, a = some x → x.spot = none) ∧ (a = none → c = 0) ∧ (xs ≠ [] → ∃ b o, a = some ⟨b, o, none⟩ ∧ rr b ∧ b < w.heap.size ∧ ∀ j u, xs[j]? = some u → w.cell? ⟨b, o + j, none⟩ = some u)
theorem RdR.rd {rr : Nat → Prop} {w : World} {v : Value} {xs : List Value} (h : RdR rr w v xs) : Rd w v xs := by
  obtain ⟨a, c, h0, _, _, _, _, h⟩ := h
  refine ⟨a, c, h0, fun hx => ?_⟩
  obtain ⟨b, o, h1, h2, h3, h4⟩ := h hx
  exact ⟨b, o, h1, h3, h4⟩
theorem RdR.same {rr : Nat → Prop} {u v : World} {x : Value} {xs : List Value} (hs : ∀ k, rr k → v.heap[k]? = u.heap[k]?) (h : RdR rr u x xs) : RdR rr v x xs := by
  obtain ⟨a, c, h0, h1, h2, h3, h3', h⟩ := h
  refine ⟨a, c, h0, h1, h2, h3, h3', fun hx => ?_⟩
  obtain ⟨b, o, e, hb, hl, hc⟩ := h hx
  have hbb := hs b hb
  refine ⟨b, o, e, hb, ?_, fun j u' hu => ?_⟩
  · have h5 : u.heap[b]? = some u.heap[b] := Array.getElem?_eq_getElem hl
    rw [h5] at hbb
    exact (Array.getElem?_eq_some_iff.1 hbb).1
  · rw [← hc j u' hu]
    simp only [World.cell?, hbb]
theorem RdR.mono {rr rr' : Nat → Prop} {w : World} {v : Value} {xs : List Value} (hr : ∀ k, rr k → rr' k) (h : RdR rr w v xs) : RdR rr' w v xs := by
  obtain ⟨a, c, h0, h1, h2, h3, h3', h⟩ := h
  refine ⟨a, c, h0, h1, h2, h3, h3', fun hx => ?_⟩
  obtain ⟨b, o, e, hb, hl, hc⟩ := h hx
  exact ⟨b, o, e, hr b hb, hl, hc⟩

/-- two lists, element by element -/
inductive All2 {α β : Type} (R : α → β → Prop) : List α → List β → Prop
  | nil : All2 R [] []
  | cons {a b l m} : R a b → All2 R l m → All2 R (a :: l) (b :: m)
theorem All2.imp {α β : Type} {R S : α → β → Prop} (h : ∀ a b, R a b → S a b) {l : List α} {m : List β} (hf : All2 R l m) : All2 S l m := by
  induction hf with
  | nil => exact .nil
  | cons h1 _ ih => exact .cons (h _ _ h1) ih
theorem All2.app {α β : Type} {R : α → β → Prop} {l l' : List α} {m m' : List β} (h : All2 R l m) (h' : All2 R l' m') : All2 R (l ++ l') (m ++ m') := by
  induction h with
  | nil => exact h'
  | cons h1 _ ih => exact .cons h1 ih
theorem All2.len {α β : Type} {R : α → β → Prop} {l : List α} {m : List β} (h : All2 R l m) : l.length = m.length := by
  induction h with
  | nil => rfl
  | cons _ _ ih => simp [ih]
theorem All2.memL {α β : Type} {R : α → β → Prop} {l : List α} {m : List β} (h : All2 R l m) {a : α} (ha : a ∈ l) : ∃ b ∈ m, R a b := by
  induction h with
  | nil => cases ha
  | cons h1 _ ih =>
    rcases List.mem_cons.1 ha with rfl | ha
    · exact ⟨_, List.mem_cons_self, h1⟩
    · obtain ⟨b, hb, hr⟩ := ih ha
      exact ⟨b, List.mem_cons_of_mem _ hb, hr⟩
theorem All2.memR {α β : Type} {R : α → β → Prop} {l : List α} {m : List β} (h : All2 R l m) {b : β} (hb : b ∈ m) : ∃ a ∈ l, R a b := by
  induction h with
  | nil => cases hb
  | cons h1 _ ih =>
    rcases List.mem_cons.1 hb with rfl | hb
    · exact ⟨_, List.mem_cons_self, h1⟩
    · obtain ⟨a, ha, hr⟩ := ih hb
      exact ⟨a, List.mem_cons_of_mem _ ha, hr⟩
/-- entries of a map: key, value, when it was born -/
abbrev Es (κ : Type) := List (κ × Value × Nat)
def entS {κ : Type} (ke : κ → Value) (e : κ × Value × Nat) : MapEntry := ⟨ke e.1, e.2.1, e.2.2⟩
def mapO {κ : Type} (ke : κ → Value) (fs : Es κ) (clk : Nat) : Obj := .map (fs.map (entS ke)).toArray clk
abbrev me {κ : Type} (b : Nat) (ke : κ → Value) (fs : Es κ) (clk : Nat) : Ent := ⟨b, some (mapO ke fs clk), false, none⟩
def findS {κ : Type} [DecidableEq κ] (k : κ) : Es κ → Nat → Option (Nat × Value)
  | [], _ => none
  | e :: l, i => if k = e.1 then some (i, e.2.1) else findS k l (i + 1)
/-- what the model does with keys of a kind -/
structure KeyOk {κ : Type} [DecidableEq κ] (P : Program) (kt : TypeId) (ke : κ → Value) : Prop where
  check : ∀ k b w, (Instr.checkKey b 10000 kt (ke k)).run P w = .ok () w
  find : ∀ k (fs : Es κ) w, (Instr.findKey kt (ke k) (fs.map (entS ke))).run P w = .ok (findS k fs 0) w
  stays : ∀ k w, (Instr.keyThatStays (ke k) (ke k)).run P w = .ok (ke k) w
def keS (k : List UInt8) : Value := .string ⟨k.toArray⟩
theorem str_eq (a b : List UInt8) : ((⟨a.toArray⟩ : ByteArray) == ⟨b.toArray⟩) = decide (a = b) := by
  show (a.toArray == b.toArray) = _
  rw [Bool.eq_iff_iff]; simp
theorem keyStr {P : Program} {kt : TypeId} (hk : P.underlying kt = some .string) : KeyOk P kt keS := by
  have hnow : ∀ (k : List UInt8) (fs : Es (List UInt8)) (i : Nat), Instr.findNow .string (keS k) (fs.map (entS keS)) i = some (findS k fs i) := by
    intro k fs
    induction fs with
    | nil => intro i; rfl
    | cons e l ih =>
      intro i
      simp only [List.map_cons, Instr.findNow, entS, keS, Instr.sameNow, str_eq, findS]
      by_cases h : k = e.1
      · simp [h]
      · simp only [h, decide_false, if_false]; exact ih (i + 1)
  refine ⟨fun k b w => ?_, fun k fs w => ?_, fun k w => ?_⟩
  · show (Instr.checkKey b (9999 + 1) kt (keS k)).run P w = _
    rw [Instr.checkKey]
    simp [run_underlying hk, keS]
  · simp only [Instr.findKey, Sem.run_bind, run_underlying hk, Result.andThen_ok, hnow, Sem.run_pure]
  · have : ((⟨k.toArray⟩ : ByteArray) == ⟨k.toArray⟩) = true := (str_eq k k).trans (by simp)
    simp [Instr.keyThatStays, keS, Instr.sameBits, this]
section maps
variable {κ : Type} [DecidableEq κ] {ke : κ → Value}
def getS (k : κ) (fs : Es κ) : Option Value := (findS k fs 0).map (·.2)
def setS (k : κ) (v : Value) (clk : Nat) : Es κ → Es κ
  | [] => [(k, v, clk)]
  | e :: l => if k = e.1 then (k, v, e.2.2) :: l else e :: setS k v clk l
def hasS (k : κ) (fs : Es κ) : Prop := ∃ e ∈ fs, e.1 = k
def delS (k : κ) : Es κ → Es κ
  | [] => []
  | e :: l => if k = e.1 then l else e :: delS k l
theorem findS_shift (k : κ) (fs : Es κ) (i : Nat) : findS k fs i = (findS k fs 0).map fun p => (p.1 + i, p.2) := by
  induction fs generalizing i with
  | nil => rfl
  | cons e l ih =>
    unfold findS
    by_cases h : k = e.1
    · simp [h]
    · simp only [h, if_false]; rw [ih (i + 1), ih (0 + 1)]; cases findS k l 0 <;> simp; omega
theorem getS_cons (k : κ) (e : κ × Value × Nat) (l : Es κ) : getS k (e :: l) = if k = e.1 then some e.2.1 else getS k l := by
  unfold getS
  rw [findS]
  by_cases h : k = e.1
  · simp [h]
  · simp only [h, if_false]; rw [findS_shift, Option.map_map]; rfl
theorem findS_some {k : κ} {fs : Es κ} {i : Nat} {v : Value} (h : findS k fs 0 = some (i, v)) : ∃ n, fs[i]? = some (k, v, n) := by
  induction fs generalizing i with
  | nil => cases h
  | cons e l ih =>
    unfold findS at h
    split at h
    · rename_i hk
      injection h with h; injection h with h1 h2
      subst h1 h2 hk
      exact ⟨e.2.2, rfl⟩
    · rw [findS_shift] at h
      cases hf : findS k l 0 with
      | none => rw [hf] at h; cases h
      | some p =>
        rw [hf] at h
        injection h with h; injection h with h1 h2
        subst h1 h2
        obtain ⟨n, hn⟩ := ih (i := p.1) (by rw [hf])
        exact ⟨n, by simpa using hn⟩
theorem set_found {k : κ} {v : Value} {clk : Nat} {fs : Es κ} {i : Nat} {u : Value} (h : findS k fs 0 = some (i, u)) : setS k v clk fs = fs.modify i fun e => (k, v, e.2.2) := by
  induction fs generalizing i with
  | nil => cases h
  | cons e l ih =>
    unfold findS at h
    unfold setS
    split at h
    · rename_i hk
      injection h with h; injection h with h1 h2
      subst h1
      rw [if_pos hk]; simp
    · rename_i hk
      rw [if_neg hk]
      rw [findS_shift] at h
      cases hf : findS k l 0 with
      | none => rw [hf] at h; cases h
      | some p =>
        rw [hf] at h
        injection h with h; injection h with h1 h2
        subst h1
        rw [ih (i := p.1) (by rw [hf, ← h2])]
        simp
theorem set_new {k : κ} {v : Value} {clk : Nat} {fs : Es κ} (h : findS k fs 0 = none) : setS k v clk fs = fs ++ [(k, v, clk)] := by
  induction fs with
  | nil => rfl
  | cons e l ih =>
    unfold findS at h
    unfold setS
    split at h
    · cases h
    · rename_i hk
      rw [if_neg hk]
      rw [findS_shift] at h
      cases hf : findS k l 0 with
      | none => rw [ih hf]; rfl
      | some p => rw [hf] at h; cases h
theorem del_found {k : κ} {fs : Es κ} {i : Nat} {u : Value} (h : findS k fs 0 = some (i, u)) : delS k fs = fs.eraseIdx i := by
  induction fs generalizing i with
  | nil => cases h
  | cons e l ih =>
    unfold findS at h
    unfold delS
    split at h
    · rename_i hk
      injection h with h; injection h with h1 h2
      subst h1
      rw [if_pos hk]; simp
    · rename_i hk
      rw [if_neg hk]
      rw [findS_shift] at h
      cases hf : findS k l 0 with
      | none => rw [hf] at h; cases h
      | some p =>
        rw [hf] at h
        injection h with h; injection h with h1 h2
        subst h1
        rw [ih (i := p.1) (by rw [hf, ← h2])]
        simp
theorem del_none {k : κ} {fs : Es κ} (h : findS k fs 0 = none) : delS k fs = fs := by
  induction fs with
  | nil => rfl
  | cons e l ih =>
    unfold findS at h
    unfold delS
    split at h
    · cases h
    · rename_i hk
      rw [if_neg hk]
      rw [findS_shift] at h
      cases hf : findS k l 0 with
      | none => rw [ih hf]
      | some p => rw [hf] at h; cases h
theorem run_getObj {P : Program} {w : World} {b : Nat} {o : Obj} (h : w.heap[b]? = some o) (hc : ∀ c t f, o ≠ .cells c t f) : (getObj b).run P w = .ok o w := by
  simp only [getObj, Sem.run, h]
theorem run_setObj {P : Program} {w : World} {b : Nat} {o o' : Obj} (h : w.heap[b]? = some o) (hc : ∀ c t f, o ≠ .cells c t f) : (setObj b o').run P w = .ok () (w.putObj b o') := by
  simp only [setObj, Sem.run, h, World.putObj]
theorem St.put {M : Bks} {B w : World} (h : St M B w L) {k b : Nat} {o o' : Obj} (hk : L[k]? = some ⟨b, some o, false, none⟩) : St M B (w.putObj b o') (L.set k ⟨b, some o', false, none⟩) := by
  have hlt := (Array.getElem?_eq_some_iff.1 (h.nth hk)).1
  exact h.set hk (by rw [World.putObj_size]; exact Nat.le_refl _) (World.putObj_heap_same hlt) (fun j _ hj => World.putObj_heap_other hj) rfl rfl rfl
/-- m[k] -/
theorem lkp (i : Nat) {t kt et : TypeId} {b clk : Nat} {fs : Es κ} {ro ok : Bool} {k : κ} {z : Value} {next : Value → List Ent → Prop} (hi : L[i]? = some ⟨b, some (mapO ke fs clk), ro, none⟩) (ht : C.P.underlying t = some (.map kt et)) (hK : KeyOk C.P kt ke)
    (hz : (C.P.info? et).bind (·.zero) = some z) (go : next (if ok then .tuple #[(getS k fs).getD z, .bool (getS k fs).isSome] else (getS k fs).getD z) L) : SemP C (Instr.lookup t (.map (some b)) (ke k) ok) L next := by
  refine ⟨fun w hs => ⟨_, w, L, ?_, hs, go⟩⟩
  have hg := hs.nth hi
  have hf := hK.find k fs w
  have hzz : (zeroValue et).run C.P w = .ok z w := by
    cases hi : C.P.info? et with
    | none => rw [hi] at hz; cases hz
    | some inf => rw [hi] at hz; simp only [Option.bind_some] at hz; simp [zeroValue, run_typeInfo hi, hz]
  simp only [Instr.lookup, Sem.run_bind, run_underlying ht, Result.andThen_ok, run_getObj hg (by simp [mapO]), mapO, Sem.run_pure, hK.check, hf]
  unfold getS
  cases h : findS k fs 0 with
  | none => cases ok <;> simp [hzz]
  | some p => cases ok <;> simp
theorem lkpn {t kt et : TypeId} {ok : Bool} {k : κ} {z : Value} {next : Value → List Ent → Prop} (ht : C.P.underlying t = some (.map kt et)) (hK : KeyOk C.P kt ke)
    (hz : (C.P.info? et).bind (·.zero) = some z) (go : next (if ok then .tuple #[z, .bool false] else z) L) : SemP C (Instr.lookup t (.map none) (ke k) ok) L next := by
  refine ⟨fun w hs => ⟨_, w, L, ?_, hs, go⟩⟩
  have hf := hK.find k [] w
  have hzz : (zeroValue et).run C.P w = .ok z w := by
    cases hi : C.P.info? et with
    | none => rw [hi] at hz; cases hz
    | some inf => rw [hi] at hz; simp only [Option.bind_some] at hz; simp [zeroValue, run_typeInfo hi, hz]
  simp only [List.map_nil] at hf
  simp only [Instr.lookup, Sem.run_bind, run_underlying ht, Result.andThen_ok, Sem.run_pure, hK.check, hf, findS]
  cases ok <;> simp [hzz]
def clkS (k : κ) (fs : Es κ) (clk : Nat) : Nat := if (getS k fs).isSome then clk else clk + 1
/-- m[k] = v -/
theorem mup (i : Nat) {t kt et : TypeId} {b clk : Nat} {fs : Es κ} {k : κ} {v : Value} {next : List Ent → Prop} (hi : L[i]? = some (me b ke fs clk)) (ht : C.P.underlying t = some (.map kt et)) (hK : KeyOk C.P kt ke)
    (go : next (L.set i (me b ke (setS k v clk fs) (clkS k fs clk)))) : SemU C (Instr.mapUpdate t (.map (some b)) (ke k) v) L next := by
  refine ⟨fun w hs => ⟨w.putObj b (mapO ke (setS k v clk fs) (clkS k fs clk)), _, ?_, hs.put hi, go⟩⟩
  have hg := hs.nth hi
  have hf := hK.find k fs w
  simp only [Instr.mapUpdate, Sem.run_bind, run_underlying ht, Result.andThen_ok, run_getObj hg (by simp [mapO]), mapO, hK.check, hf]
  unfold clkS getS
  cases h : findS k fs 0 with
  | none =>
    simp only [Option.map_none, Option.isSome_none, Bool.false_eq_true, if_false, set_new h]
    rw [run_setObj hg (by simp [mapO])]; simp [entS]
  | some p =>
    obtain ⟨j, u⟩ := p
    obtain ⟨n, hn⟩ := findS_some h
    have hj : j < fs.length := (List.getElem?_eq_some_iff.1 hn).1
    have e1 : (((fs.map (entS ke)).toArray[j]?).map (·.key)).getD (ke k) = ke k := by simp [hn, entS]
    simp only [e1, Sem.run_bind, hK.stays, Result.andThen_ok, Option.map_some, Option.isSome_some, if_true, set_found h]
    rw [run_setObj hg (by simp [mapO])]
    congr 2
    congr 1
    apply Array.ext'
    rw [Array.toList_modify]
    apply List.ext_getElem?
    intro m
    simp only [List.getElem?_modify, List.getElem?_map]
    by_cases hm : j = m
    · subst hm; simp [hn, entS]
    · simp [hm]
end maps
end Go.Sx
