/- Symbolic steps, sixteenth part: functions that turn one block. -/
import Derived.Test.YtpegkoklmhccjaaDoorSxN
namespace Go.Sx
open Go Go.RowKit
set_option linter.unusedVariables false
/-- one block has turned; what there was besides stands -/
structure Upd (b : Nat) (c : Array Value) (t : TypeId) (w w' : World) : Prop where
  os : w'.os = w.os
  tape : w'.tape = w.tape
  output : w'.output = w.output
  size : w.heap.size ≤ w'.heap.size
  old : ∀ k, k < w.heap.size → k ≠ b → w'.heap[k]? = w.heap[k]?
  ok : w'.heap[b]? = some (.cells c t (0, 0))
theorem St.onlyU {w : World} {b : Nat} {c : Array Value} {t : TypeId} (h : w.heap[b]? = some (.cells c t (0, 0))) : St [bl b] w w [cl b c t] :=
  St.from w _ _ (fun e he => by
    obtain rfl : e = cl b c t := by simpa using he
    exact ⟨by simpa using h, fun k hk => by simp at hk; simp [hk]⟩) (by simp)
theorem St.updU {w w' : World} {b : Nat} {c : Array Value} {t : TypeId} {L : List Ent} (h : St [bl b] w w' (cl b c t :: L)) : Upd b c t w w' :=
  ⟨h.os, h.tape, h.output, h.size, fun k hk hn => h.old k hk (by simpa using hn), h.nth (k := 0) rfl⟩
theorem Upd.refl {w : World} {b : Nat} {c : Array Value} {t : TypeId} (h : w.heap[b]? = some (.cells c t (0, 0))) : Upd b c t w w := ⟨rfl, rfl, rfl, Nat.le_refl _, fun _ _ _ => rfl, h⟩
variable {C : Cx} {L : List Ent}
/-- a call that turns a block -/
theorem cU (k : Nat) {g : FuncId} {vs : List Value} {α : Type} {Φ : α → Prop} {v : α → Value} {b : Nat} {c0 : Array Value} {c : α → Array Value} {t : TypeId} {next : Value → List Ent → Prop} (hk : L[k]? = some (cl b c0 t))
    (h : ∀ w, w.heap[b]? = some (.cells c0 t (0, 0)) → Calls C.P g vs.toArray w fun e w' => ∃ x, Φ x ∧ e = .returned (v x) ∧ Upd b (c x) t w w') (go : ∀ x, Φ x → next (v x) (L.set k (cl b (c x) t))) : CallP C g vs L next :=
  ⟨fun w hs => (h w (hs.nth hk)).mono fun e w' ⟨x, hx, he, hu⟩ => ⟨_, _, he, hs.set hk hu.size hu.ok hu.old hu.os hu.tape hu.output, go x hx⟩⟩
/-- the same, where one thing alone comes of it -/
theorem cU1 (k : Nat) {g : FuncId} {vs : List Value} {v : Value} {b : Nat} {c0 c : Array Value} {t : TypeId} {next : Value → List Ent → Prop} (hk : L[k]? = some (cl b c0 t))
    (h : ∀ w, w.heap[b]? = some (.cells c0 t (0, 0)) → Calls C.P g vs.toArray w fun e w' => e = .returned v ∧ Upd b c t w w') (go : next v (L.set k (cl b c t))) : CallP C g vs L next :=
  ⟨fun w hs => (h w (hs.nth hk)).mono fun e w' ⟨he, hu⟩ => ⟨_, _, he, hs.set hk hu.size hu.ok hu.old hu.os hu.tape hu.output, go⟩⟩
/-- a function that turns a block: its body -/
theorem enterU {P : Program} {T : Tab} (hT : TabOk P T) {g : FuncId} {fn : Func} {cd : Code} (hf : P.funcs[g]? = some fn) (hb : fn.body = some cd) {N : Nat} (hN : fn.ntmps = N) {vs : List Value} (hle : Nat.ble vs.length N = true) {w : World} {b : Nat} {c0 c : Array Value} {t : TypeId} {v : Value}
    (hw : w.heap[b]? = some (.cells c0 t (0, 0))) (h : cx ⟨P, T, N, [bl b], w, none⟩ cd (retK ⟨P, T, N, [bl b], w, none⟩ fn fun u w' => u = v ∧ Upd b c t w w') ⟨par 0 vs, [cl b c0 t], []⟩) : Calls P g vs.toArray w fun e w' => e = .returned v ∧ Upd b c t w w' :=
  (enter hT hf hb hN hle (St.onlyU hw) h).mono fun e w' ⟨u, he, hu, h2⟩ => ⟨by rw [he, hu], h2⟩
theorem enterUx {P : Program} {T : Tab} (hT : TabOk P T) {g : FuncId} {fn : Func} {cd : Code} (hf : P.funcs[g]? = some fn) (hb : fn.body = some cd) {N : Nat} (hN : fn.ntmps = N) {vs : List Value} (hle : Nat.ble vs.length N = true) {w : World} {b : Nat} {c0 : Array Value} {α : Type} {Φ : α → Prop} {c : α → Array Value} {t : TypeId} {v : α → Value}
    (hw : w.heap[b]? = some (.cells c0 t (0, 0))) (h : cx ⟨P, T, N, [bl b], w, none⟩ cd (retK ⟨P, T, N, [bl b], w, none⟩ fn fun u w' => ∃ x, Φ x ∧ u = v x ∧ Upd b (c x) t w w') ⟨par 0 vs, [cl b c0 t], []⟩) : Calls P g vs.toArray w fun e w' => ∃ x, Φ x ∧ e = .returned (v x) ∧ Upd b (c x) t w w' :=
  (enter hT hf hb hN hle (St.onlyU hw) h).mono fun e w' ⟨u, he, x, hx, hu, h2⟩ => ⟨x, hx, by rw [he, hu], h2⟩
/-- it returns -/
theorem rtU {P : Program} {T : Tab} {N : Nat} {w : World} {b : Nat} {c : Array Value} {t : TypeId} {v0 v : Value} {L : List Ent} (hv : v = v0) : RetP ⟨P, T, N, [bl b], w, none⟩ (fun u w' => u = v0 ∧ Upd b c t w w') v (cl b c t :: L) := ⟨fun w' hs => ⟨hv, hs.updU⟩⟩
theorem rtUx {P : Program} {T : Tab} {N : Nat} {w : World} {b : Nat} {α : Type} {Φ : α → Prop} {c : α → Array Value} {t : TypeId} {vf : α → Value} {v : Value} {L : List Ent} (x : α) (hx : Φ x) (hv : v = vf x) : RetP ⟨P, T, N, [bl b], w, none⟩ (fun u w' => ∃ x, Φ x ∧ u = vf x ∧ Upd b (c x) t w w') v (cl b (c x) t :: L) := ⟨fun w' hs => ⟨x, hx, hv, hs.updU⟩⟩
end Go.Sx
