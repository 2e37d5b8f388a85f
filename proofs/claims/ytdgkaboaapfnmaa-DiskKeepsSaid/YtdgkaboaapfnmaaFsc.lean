/- A script that came in: its acts. -/
import Derived.Test.YtdgkaboaapfnmaaFre
import Derived.Test.YtdgkaboaapfnmaaDoE
import Derived.Deep.Slices
namespace Go.Proofs.Ytdgkaboaapfnmaa
open Go.ChangeShapes Go.WideShapes Go.ChangeAt Go.RowKit Go.Sx
set_option linter.unusedVariables false

abbrev TOp : Nat := 33
abbrev TOps : Nat := 22
theorem cellsOp : Try.prog.cellsOf TOp = 5 := by kernel_rfl
theorem cellsI : Try.prog.cellsOf 3 = 1 := by kernel_rfl
theorem cellsS : Try.prog.cellsOf 9 = 1 := by kernel_rfl
theorem cellsB : Try.prog.cellsOf 31 = 1 := by kernel_rfl
def opC (q : Opn × Value) : Array Value := #[.int .i64 q.1.kind, VS q.1.name, VS q.1.to, .int .i64 q.1.n, q.2]
/-- an act that lies at a place -/
structure ActAt (w : World) (a : Option Addr) (i : Nat) (q : Opn × Value) : Prop where
  at' : ∃ b o, a = some ⟨b, o, none⟩ ∧ b < w.heap.size ∧ ∀ j u, (opC q)[j]? = some u → w.cell? ⟨b, o + i * 5 + j, none⟩ = some u
  bs : Rd w q.2 (Lib.byteCells q.1.b)
  n : -9223372036854775808 ≤ q.1.n ∧ q.1.n ≤ 9223372036854775807
  l1 : q.1.name.length ≤ maxLen
  l2 : q.1.to.length ≤ maxLen
  l3 : q.1.b.length ≤ maxLen
instance : Inhabited (Opn × Value) := ⟨⟨0, [], [], 0, []⟩, .bool false⟩
/-- a script -/
def Scr (w : World) (v : Value) (n : Nat) (O : Nat → Opn × Value) : Prop := n ≤ maxLen ∧ ∃ a c, v = .slice a n c ∧ ∀ i, i < n → ActAt w a i (O i)
theorem ActAt.below {w w' : World} {a : Option Addr} {i : Nat} {q : Opn × Value} (hb : Below w.heap.size w w') (h : ActAt w a i q) : ActAt w' a i q := by
  obtain ⟨⟨b, o, e, hl, hc⟩, h2, h3, h4, h5, h6⟩ := h
  exact ⟨⟨b, o, e, Nat.lt_of_lt_of_le hl hb.size, fun j u hu => (hb.cell (p := ⟨b, o + i * 5 + j, none⟩) hl).trans (hc j u hu)⟩, h2.below hb, h3, h4, h5, h6⟩
section
variable {H : Type} {enc : TypeId × Value → H} {w : World} {base : Nat} {spare : Nat → Bool} {held : Bool}
set_option maxRecDepth 100000 in
/-- bytes in a field -/
theorem open_rdc {fuel : Nat} {cs : List Value} {x : DataW H × List MemPlace} (h : DataW.trod enc Try.prog w base spare held fuel 31 cs = some x) : ∃ v bs, cs = [v] ∧ bs.length ≤ maxLen ∧ Rd w v (Lib.byteCells bs) := by
  rcases open_ints Try.underlying31 Try.underlying5 cellsU8 h with ⟨hcs, hx⟩ | ⟨a, len, cap, zs, hcs, _, hl, hm, hz, hx, hcell, hwz⟩
  · exact ⟨_, [], hcs, Nat.zero_le _, none, 0, rfl, fun h => absurd rfl h⟩
  · have hlz : len ≤ zs.length := by rw [hz]; split <;> omega
    obtain ⟨bs, hbs, hd⟩ := bytes_of (fun i => zs.getD i 0) len (fun i hi => by
      have hmem : zs.getD i 0 ∈ zs := by
        have : zs.getD i 0 = zs[i]'(by omega) := by simp [List.getD, show i < zs.length by omega]
        rw [this]; exact List.getElem_mem _
      have := bounds_u8 (hwz _ hmem)
      omega)
    refine ⟨_, bs, hcs, by omega, some a, cap, by rw [Lib.byteCells_length, hbs], fun hne => ?_⟩
    have hpos : 0 < len := by
      rcases Nat.eq_zero_or_pos len with h0 | h0
      · rw [h0] at hbs; rw [List.eq_nil_of_length_eq_zero hbs] at hne; exact absurd rfl hne
      · exact h0
    have h0 := hcell 0 (by omega)
    obtain ⟨b, o, sp⟩ := a
    obtain rfl : sp = none := by have := World.cell?_spot h0; simpa [Addr.add] using this
    refine ⟨b, o, rfl, World.block_lt_of_cell? w _ h0, fun j u hu => ?_⟩
    have hj : j < len := by have := (List.getElem?_eq_some_iff.1 hu).1; rw [Lib.byteCells_length] at this; omega
    rw [hd j hj] at hu
    rw [← addr_add, hcell j (by omega)]; exact hu
set_option maxRecDepth 100000 in
theorem open_script {r : Reach} {b0 : Nat} {v : Value} {d : DataW H} {p : List MemPlace} (hv : Value.okWide Try.prog w r b0 TOps v) (h : DataW.Trod enc Try.prog w base spare held TOps v d p) : ∃ n O, Scr w v n O := by
  obtain ⟨a0, len0, cap0, rfl⟩ := okWide_slice Try.underlying22 hv
  obtain ⟨fuel, hf⟩ := h
  rcases Go.Deep.open_slice Try.underlying22 hf with ⟨hcs, _⟩ | ⟨a, len, cap, m, n, D, Pl, hcs, _, hl, hm, hmm, _, hx⟩
  · have e : Value.slice a0 len0 cap0 = .slice none 0 0 := by simpa [Value.cells] using hcs
    exact ⟨0, fun _ => default, Nat.zero_le _, none, 0, e, fun i hi => by omega⟩
  · have e : Value.slice a0 len0 cap0 = .slice (some a) len cap := by simpa [Value.cells] using hcs
    rw [e]
    have hlm : len ≤ m := by rw [hmm]; split <;> omega
    have each : ∀ i, i < len → ∃ q : Opn × Value, ActAt w (some a) i q := by
      intro i hi
      obtain ⟨cs', h1, h2⟩ := hx i (by omega)
      rw [cellsOp] at h1
      obtain ⟨_, hlen, hcell⟩ := World.cells?_some h1
      obtain ⟨xs, k, _, _, _, hxl, hfs⟩ := DataW.trod_struct Try.underlying33 h2
      match xs, hxl, cs', hlen with
      | [y0, y1, y2, y3, y4], _, [v0, v1, v2, v3, v4], _ =>
        have g0 : DataW.trod enc Try.prog w base spare held k 3 (([v0, v1, v2, v3, v4].drop 0).take (Try.prog.cellsOf 3)) = some y0 := hfs 0 _ rfl
        have g1 : DataW.trod enc Try.prog w base spare held k 9 (([v0, v1, v2, v3, v4].drop 1).take (Try.prog.cellsOf 9)) = some y1 := hfs 1 _ rfl
        have g2 : DataW.trod enc Try.prog w base spare held k 9 (([v0, v1, v2, v3, v4].drop 2).take (Try.prog.cellsOf 9)) = some y2 := hfs 2 _ rfl
        have g3 : DataW.trod enc Try.prog w base spare held k 3 (([v0, v1, v2, v3, v4].drop 3).take (Try.prog.cellsOf 3)) = some y3 := hfs 3 _ rfl
        have g4 : DataW.trod enc Try.prog w base spare held k 31 (([v0, v1, v2, v3, v4].drop 4).take (Try.prog.cellsOf 31)) = some y4 := hfs 4 _ rfl
        rw [cellsI] at g0 g3
        rw [cellsS] at g1 g2
        rw [cellsB] at g4
        obtain ⟨n0, e0, _, w0⟩ := DataW.trod_int Try.underlying3 g0
        obtain ⟨s1, e1, _, w1⟩ := DataW.trod_string Try.underlying9 g1
        obtain ⟨s2, e2, _, w2⟩ := DataW.trod_string Try.underlying9 g2
        obtain ⟨n3, e3, _, w3⟩ := DataW.trod_int Try.underlying3 g3
        obtain ⟨bv, bs, e4, w4, hrd⟩ := open_rdc g4
        simp at e0 e1 e2 e3 e4
        subst e0 e1 e2 e3 e4
        have c0 := hcell 0 (by omega)
        obtain ⟨b, o, sp⟩ := a
        have hsp : sp = none := by
          obtain ⟨cs0, h10, _⟩ := hx 0 (by omega)
          rw [cellsOp] at h10
          have := World.cell?_spot ((World.cells?_some h10).2.2 0 (by omega) |>.trans (List.getElem?_eq_getElem (by rw [(World.cells?_some h10).2.1]; omega)))
          simpa [Addr.add] using this
        subst hsp
        refine ⟨(⟨n0, s1.data.toList, s2.data.toList, n3, bs⟩, v4), ⟨⟨b, o, rfl, World.block_lt_of_cell? w _ (by simpa [addr_add] using c0), fun j u hu => ?_⟩, hrd, bounds_i64 w3, by simpa using w1, by simpa using w2, w4⟩⟩
        have hj : j < 5 := (Array.getElem?_eq_some_iff.1 hu).1
        have cj := hcell j hj
        rw [addr_add, addr_add] at cj
        rw [cj, ← hu]
        rcases j with _ | _ | _ | _ | _ | j
        · rfl
        · simp [opC]
        · simp [opC]
        · rfl
        · rfl
        · omega
    obtain ⟨O, hO⟩ := Go.Deep.choose_lt each
    exact ⟨len, O, by omega, some a, cap, rfl, hO⟩
end
end Go.Proofs.Ytdgkaboaapfnmaa
