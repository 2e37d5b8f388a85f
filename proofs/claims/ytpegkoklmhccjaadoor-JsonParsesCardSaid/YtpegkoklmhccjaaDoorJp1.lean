/- For every text the law JsonParses returns true, and the argument reads as it did; no condition. -/
import Derived.Test.YtpegkoklmhccjaaDoorRows
import Derived.WalkKit
import Derived.ProofKit
import Derived.OpenShut
import Derived.ShutString
import Derived.ChangeOld
import Derived.Below
import Derived.Lib.UnsafeStr
import Derived.Test.YtpegkoklmhccjaaDoorTie
import Derived.Test.YtpegkoklmhccjaaDoorCards
import Derived.LaidMore
import Derived.Lay
import Derived.SevenTiedAt
import Derived.Stop.Joined
import Derived.Deep.Slices
import Derived.Test.YtpegkoklmhccjaaDoorJb5
section
namespace Go.Proofs.YtpegkoklmhccjaaDoor
open Go.RowKit Go.Sx
set_option linter.unusedVariables false
abbrev TT : Nat := 65
/-- a text, where its reading stands -/
abbrev tC (va : Option Addr) (ca : Nat) (l : Bs) (at' : Nat) (bad : Bool) : Array Value := #[.slice va l.length ca, .int .i64 (at' : Nat), .bool bad]
/-- bytes that are read -/
def rdB (va : Option Addr) (ca : Nat) (l : Bs) : Res where
  w := fun _ => False
  r := fun k => l ≠ [] ∧ ∃ o, va = some ⟨k, o, none⟩
  p := fun w => Rd w (.slice va l.length ca) (Lib.byteCells l)
  st := fun u v h hp => by
    obtain ⟨a, c, e, hr⟩ := hp
    refine ⟨a, c, e, fun hne => ?_⟩
    obtain ⟨b, o, h1, h2, h3⟩ := hr hne
    injection e with e1 _ _
    have hl : l ≠ [] := fun e => hne (by rw [e]; rfl)
    have hb := h b (.inr ⟨hl, o, by rw [e1, h1]⟩)
    refine ⟨b, o, h1, ?_, fun j x hx => ?_⟩
    · rw [Array.getElem?_eq_getElem h2] at hb
      exact (Array.getElem?_eq_some_iff.1 hb).1
    · rw [← h3 j x hx]; simp only [World.cell?, hb]
  bd := fun u h k hk => by
    rcases hk with hk | ⟨hl, o, hk⟩
    · exact hk.elim
    · obtain ⟨a, c, e, hr⟩ := h
      obtain ⟨b, o2, h1, h2, _⟩ := hr (fun e => hl (by cases l with | nil => rfl | cons x t => simp [Lib.byteCells] at e))
      injection e with e1 _ _
      rw [hk, h1] at e1
      injection e1 with e1
      injection e1 with e1 _
      rw [e1]; exact h2
section
variable {va : Option Addr} {ca : Nat} {l : Bs} {at' : Nat} {bad : Bool} {b : Nat} {w : World}
theorem St.rdXr (hb : w.heap[b]? = some (.cells (tC va ca l at' bad) TT (0, 0))) (h : Rd w (.slice va l.length ca) (Lib.byteCells l)) : St [] w w [cr b (tC va ca l at' bad) TT, rs (rdB va ca l)] := St.reads fun e he => by
  simp only [List.mem_cons, List.not_mem_nil, or_false] at he
  rcases he with rfl | rfl
  · exact ⟨by simpa using hb, fun k hk => by simp at hk⟩
  · exact ⟨(rsOk _ w).2 h, fun k hk => (rsW _ k).1 hk⟩
/-- the text's own block holds none of its bytes -/
theorem rdB_ne (hb : w.heap[b]? = some (.cells (tC va ca l at' bad) TT (0, 0))) (h : Rd w (.slice va l.length ca) (Lib.byteCells l)) : ¬ (rdB va ca l).r b := by
  rintro ⟨hl, o, rfl⟩
  cases l with
  | nil => exact hl rfl
  | cons x t =>
    have := Rd.at h (i := 0) (u := .int .u8 x.toNat) rfl (k := 0) rfl
    simp only [World.cell?, hb] at this
    rw [nad_eq, nmu_eq] at this
    simp at this
    rcases o with _ | _ | _ | o
    · simp at this
    · simp at this
    · simp at this
    · simp at this
theorem St.rdX (hb : w.heap[b]? = some (.cells (tC va ca l at' bad) TT (0, 0))) (h : Rd w (.slice va l.length ca) (Lib.byteCells l)) : St [bl b] w w [cl b (tC va ca l at' bad) TT, rs (rdB va ca l)] := by
  refine St.from w _ _ (fun e he => ?_) ?_
  · simp at he
    rcases he with rfl | rfl
    · exact ⟨by simpa using hb, fun k hk => by simp at hk; simp [hk]⟩
    · exact ⟨(rsOk _ w).2 h, fun k hk => ((rsW _ k).1 hk).elim⟩
  · have := rdB_ne hb h
    refine .cons (fun e he => ?_) (.cons (by simp) .nil)
    obtain rfl : e = rs (rdB va ca l) := by simpa using he
    refine fun k => ⟨fun h1 h2 => ?_, fun h1 => ((rsW _ k).1 h1).elim⟩
    simp at h1
    subst h1
    rcases (rsA _ _).1 h2 with h2 | h2
    · exact h2
    · exact this h2
/-- the next byte; 0: there is none -/
def nx : Bs → Int
  | [] => 0
  | c :: _ => c.toNat
theorem ws_no {c : UInt8} (h : blk c = false) (t : Bs) : ws (c :: t) = c :: t := by rw [ws, if_neg (by rw [h]; decide)]
set_option maxRecDepth 100000 in
theorem next_any (hb : w.heap[b]? = some (.cells (tC va ca l at' bad) TT (0, 0))) (h : Rd w (.slice va l.length ca) (Lib.byteCells l)) : Calls Tryd.prog 36 ([pj b] : List Value).toArray w fun e w' => e = .returned (.int .i64 (nx (l.drop at'))) ∧ Below w.heap.size w w' := by
  refine enterV tab_ok Tryd.func36 rfl Tryd.ntmps36 rfl (St.rdXr hb h) ?_
  refine dr [cr b (tC va ca l at' bad) TT, rs (rdB va ca l)] 99 (.t 0 (.t 1 (.t 2 (.t 3 (.t 4 (.t 5 (.t 6 (.t 7 (.t 8 (.t 9 .nil)))))))))) tab_ok mixed_ok (by kernel_rfl) (.cons (.cons .nil)) ?_
  iterate 2 refine ld1 0 rfl rfl ?_
  refine cd (fun hlt => ?_) (fun hlt => ?_)
  · have hlt : at' < l.length := by omega
    have hd : l.drop at' = l[at'] :: l.drop (at' + 1) := List.drop_eq_getElem_cons hlt
    have hc : l[at']? = some l[at'] := List.getElem?_eq_getElem hlt
    generalize l[at'] = c at hd hc
    have hv : (Lib.byteCells l)[at']? = some (.int .u8 c.toNat) := by simp only [Lib.byteCells, List.getElem?_map, hc]; rfl
    have hcl := c.toNat_lt
    obtain ⟨ba, o, rfl⟩ := h.addr (fun e => by rw [e] at hv; cases hv)
    refine dr [cr b (tC (some ⟨ba, o, none⟩) ca l at' bad) TT, rs (rdB (some ⟨ba, o, none⟩) ca l)] 99 (.t 0 (.t 1 (.t 2 (.t 3 (.t 4 (.t 5 (.t 6 (.t 7 (.t 8 (.t 9 (.t 10 (.t 11 .nil)))))))))))) tab_ok mixed_ok (by kernel_rfl) (.cons (.cons .nil)) ?_
    iterate 2 refine ld1 0 rfl rfl ?_
    refine ⟨by omega, by omega, ?_⟩
    refine .mk (.int .u8 c.toNat) (fun w hs => Rd.at (hs.res (k := 1) rfl : Rd w _ _) hv rfl) ?_
    refine .same (by simp only [mn]; omega) (by simp only [mx]; omega) ?_
    exact rt (congrArg (Value.int .i64) (by rw [hd]; rfl))
  · exact rt (congrArg (Value.int .i64) (by rw [List.drop_of_length_le (by omega)]; rfl))
set_option maxRecDepth 100000 in
set_option maxHeartbeats 2000000 in
theorem rblanks_any (hl : l.length ≤ 100000) (ha : at' ≤ 200000) (hb : w.heap[b]? = some (.cells (tC va ca l at' bad) TT (0, 0))) (h : Rd w (.slice va l.length ca) (Lib.byteCells l)) : Calls Tryd.prog 29 ([pj b] : List Value).toArray w fun e w' => ∃ x : Nat, (at' ≤ x ∧ (x ≤ l.length ∨ x = at') ∧ l.drop x = ws (l.drop at')) ∧ e = .returned (.tuple #[]) ∧ Upd b (tC va ca l x bad) TT w w' := by
  refine enterUs (c := fun x : Nat => tC va ca l x bad) (v := fun _ => .tuple #[]) tab_ok Tryd.func29 rfl Tryd.ntmps29 rfl (St.rdX hb h) ?_
  refine lpe tab_ok 0 (β := Nat) (fun q => at' ≤ q ∧ (q ≤ l.length ∨ q = at') ∧ ws (l.drop q) = ws (l.drop at') ∧ ws (l.drop q) = l.drop q) (fun q => ⟨[(0, pj b)], [cl b (tC va ca l q bad) TT, rs (rdB va ca l)], []⟩) (α := Nat) (fun q => at' ≤ q ∧ (q ≤ l.length ∨ q = at') ∧ ws (l.drop q) = ws (l.drop at')) (fun q => ⟨[(0, pj b)], [cl b (tC va ca l q bad) TT, rs (rdB va ca l)], []⟩) (fun q => l.length - q) at' ⟨Nat.le_refl _, .inr rfl, rfl⟩ ⟨⟨rfl, trivial⟩, .cons (.cons .nil), rfl⟩ ?_ ?_
  · rintro q ⟨hq1, hq2, hw⟩
    have hnx := fun (w : World) (hb : w.heap[b]? = some (.cells (tC va ca l q bad) TT (0, 0))) (h : Rd w (.slice va l.length ca) (Lib.byteCells l)) => next_any hb h
    cases hs : l.drop q with
    | nil =>
      rw [hs] at hnx
      refine cvs (fun w hs => hnx w (hs.nth (k := 0) rfl) (hs.res (k := 1) rfl)) ?_
      refine ct rfl ?_
      refine ct rfl ?_
      refine cvs (fun w hs => hnx w (hs.nth (k := 0) rfl) (hs.res (k := 1) rfl)) ?_
      refine ct rfl ?_
      refine cf rfl ?_
      refine ct rfl ?_
      refine ct rfl ?_
      refine cvs (fun w hs => hnx w (hs.nth (k := 0) rfl) (hs.res (k := 1) rfl)) ?_
      refine ct rfl ?_
      refine cf rfl ?_
      refine ct rfl ?_
      refine ct rfl ?_
      refine cvs (fun w hs => hnx w (hs.nth (k := 0) rfl) (hs.res (k := 1) rfl)) ?_
      refine ct rfl ?_
      refine cf rfl ?_
      refine cf rfl ?_
      exact ⟨q, ⟨hq1, hq2, hw, by rw [hs]; rfl⟩, ⟨⟨rfl, trivial⟩, .cons (.cons .nil), rfl⟩⟩
    | cons c t =>
      have hlt : q < l.length := by
        rcases Nat.lt_or_ge q l.length with h | h
        · exact h
        · rw [List.drop_of_length_le h] at hs; cases hs
      have hdr : l.drop (q + 1) = t := by rw [← List.drop_drop, hs]; rfl
      rw [hs] at hnx
      by_cases n0 : c = 32
      case pos =>
        have e0 : ((c.toNat : Int) == 32) = true := ceT 32 rfl n0
        have f0 : (((c.toNat : Int) == 32) == false) = false := by rw [e0]; rfl
        refine cvs (fun w hs => hnx w (hs.nth (k := 0) rfl) (hs.res (k := 1) rfl)) ?_
        refine cf f0 ?_
        refine cf f0 ?_
        refine cf f0 ?_
        refine ct e0 ?_
        refine cf rfl ?_
        refine cf rfl ?_
        refine cf rfl ?_
        refine ct rfl ?_
        refine cf rfl ?_
        refine cf rfl ?_
        refine cf rfl ?_
        refine ct rfl ?_
        refine ct rfl ?_
        refine ld1 0 rfl rfl ?_
        refine .as ((q + 1 : Nat) : Int) (by omega) (by simp only [mn]; omega) (by simp only [mx]; omega) ?_
        refine s1 0 rfl (by show 1 < 3; decide) ?_
        exact ⟨q + 1, ⟨by omega, .inl (by omega), by rw [← hw, hs, ← hdr, ws, if_pos (by subst n0; decide)]⟩, by omega, ⟨⟨rfl, trivial⟩, .cons (.cons .nil), rfl⟩⟩
      have e0 : ((c.toNat : Int) == 32) = false := ceF 32 rfl n0
      have f0 : (((c.toNat : Int) == 32) == false) = true := by rw [e0]; rfl
      by_cases n1 : c = 9
      case pos =>
        have e1 : ((c.toNat : Int) == 9) = true := ceT 9 rfl n1
        have f1 : (((c.toNat : Int) == 9) == false) = false := by rw [e1]; rfl
        refine cvs (fun w hs => hnx w (hs.nth (k := 0) rfl) (hs.res (k := 1) rfl)) ?_
        refine ct f0 ?_
        refine ct f0 ?_
        refine cvs (fun w hs => hnx w (hs.nth (k := 0) rfl) (hs.res (k := 1) rfl)) ?_
        refine ct f0 ?_
        refine cf e0 ?_
        refine cf f1 ?_
        refine cf f1 ?_
        refine cf f1 ?_
        refine ct e1 ?_
        refine cf rfl ?_
        refine cf rfl ?_
        refine cf rfl ?_
        refine ct rfl ?_
        refine ct rfl ?_
        refine ld1 0 rfl rfl ?_
        refine .as ((q + 1 : Nat) : Int) (by omega) (by simp only [mn]; omega) (by simp only [mx]; omega) ?_
        refine s1 0 rfl (by show 1 < 3; decide) ?_
        exact ⟨q + 1, ⟨by omega, .inl (by omega), by rw [← hw, hs, ← hdr, ws, if_pos (by subst n1; decide)]⟩, by omega, ⟨⟨rfl, trivial⟩, .cons (.cons .nil), rfl⟩⟩
      have e1 : ((c.toNat : Int) == 9) = false := ceF 9 rfl n1
      have f1 : (((c.toNat : Int) == 9) == false) = true := by rw [e1]; rfl
      by_cases n2 : c = 10
      case pos =>
        have e2 : ((c.toNat : Int) == 10) = true := ceT 10 rfl n2
        have f2 : (((c.toNat : Int) == 10) == false) = false := by rw [e2]; rfl
        refine cvs (fun w hs => hnx w (hs.nth (k := 0) rfl) (hs.res (k := 1) rfl)) ?_
        refine ct f0 ?_
        refine ct f0 ?_
        refine cvs (fun w hs => hnx w (hs.nth (k := 0) rfl) (hs.res (k := 1) rfl)) ?_
        refine ct f0 ?_
        refine cf e0 ?_
        refine ct f1 ?_
        refine ct f1 ?_
        refine cvs (fun w hs => hnx w (hs.nth (k := 0) rfl) (hs.res (k := 1) rfl)) ?_
        refine ct f1 ?_
        refine cf e1 ?_
        refine cf f2 ?_
        refine cf f2 ?_
        refine cf f2 ?_
        refine ct e2 ?_
        refine ct rfl ?_
        refine ld1 0 rfl rfl ?_
        refine .as ((q + 1 : Nat) : Int) (by omega) (by simp only [mn]; omega) (by simp only [mx]; omega) ?_
        refine s1 0 rfl (by show 1 < 3; decide) ?_
        exact ⟨q + 1, ⟨by omega, .inl (by omega), by rw [← hw, hs, ← hdr, ws, if_pos (by subst n2; decide)]⟩, by omega, ⟨⟨rfl, trivial⟩, .cons (.cons .nil), rfl⟩⟩
      have e2 : ((c.toNat : Int) == 10) = false := ceF 10 rfl n2
      have f2 : (((c.toNat : Int) == 10) == false) = true := by rw [e2]; rfl
      by_cases n3 : c = 13
      case pos =>
        have e3 : ((c.toNat : Int) == 13) = true := ceT 13 rfl n3
        have f3 : (((c.toNat : Int) == 13) == false) = false := by rw [e3]; rfl
        refine cvs (fun w hs => hnx w (hs.nth (k := 0) rfl) (hs.res (k := 1) rfl)) ?_
        refine ct f0 ?_
        refine ct f0 ?_
        refine cvs (fun w hs => hnx w (hs.nth (k := 0) rfl) (hs.res (k := 1) rfl)) ?_
        refine ct f0 ?_
        refine cf e0 ?_
        refine ct f1 ?_
        refine ct f1 ?_
        refine cvs (fun w hs => hnx w (hs.nth (k := 0) rfl) (hs.res (k := 1) rfl)) ?_
        refine ct f1 ?_
        refine cf e1 ?_
        refine ct f2 ?_
        refine ct f2 ?_
        refine cvs (fun w hs => hnx w (hs.nth (k := 0) rfl) (hs.res (k := 1) rfl)) ?_
        refine ct f2 ?_
        refine cf e2 ?_
        refine ct e3 ?_
        refine ld1 0 rfl rfl ?_
        refine .as ((q + 1 : Nat) : Int) (by omega) (by simp only [mn]; omega) (by simp only [mx]; omega) ?_
        refine s1 0 rfl (by show 1 < 3; decide) ?_
        exact ⟨q + 1, ⟨by omega, .inl (by omega), by rw [← hw, hs, ← hdr, ws, if_pos (by subst n3; decide)]⟩, by omega, ⟨⟨rfl, trivial⟩, .cons (.cons .nil), rfl⟩⟩
      have e3 : ((c.toNat : Int) == 13) = false := ceF 13 rfl n3
      have f3 : (((c.toNat : Int) == 13) == false) = true := by rw [e3]; rfl
      refine cvs (fun w hs => hnx w (hs.nth (k := 0) rfl) (hs.res (k := 1) rfl)) ?_
      refine ct f0 ?_
      refine ct f0 ?_
      refine cvs (fun w hs => hnx w (hs.nth (k := 0) rfl) (hs.res (k := 1) rfl)) ?_
      refine ct f0 ?_
      refine cf e0 ?_
      refine ct f1 ?_
      refine ct f1 ?_
      refine cvs (fun w hs => hnx w (hs.nth (k := 0) rfl) (hs.res (k := 1) rfl)) ?_
      refine ct f1 ?_
      refine cf e1 ?_
      refine ct f2 ?_
      refine ct f2 ?_
      refine cvs (fun w hs => hnx w (hs.nth (k := 0) rfl) (hs.res (k := 1) rfl)) ?_
      refine ct f2 ?_
      refine cf e2 ?_
      refine cf e3 ?_
      exact ⟨q, ⟨hq1, hq2, hw, by rw [hs]; exact ws_no (by simp [blk, n0, n1, n2, n3]) _⟩, ⟨⟨rfl, trivial⟩, .cons (.cons .nil), rfl⟩⟩
  · rintro q ⟨hq1, hq2, hw, hw2⟩
    exact ⟨fun w' hs => ⟨q, ⟨hq1, hq2, by rw [← hw2, hw]⟩, rfl, hs.updU⟩⟩
set_option maxRecDepth 100000 in
theorem figure_any (hb : w.heap[b]? = some (.cells (tC va ca l at' bad) TT (0, 0))) (h : Rd w (.slice va l.length ca) (Lib.byteCells l)) : Calls Tryd.prog 59 ([pj b] : List Value).toArray w fun e w' => e = .returned (.bool (hd (l.drop at'))) ∧ Below w.heap.size w w' := by
  refine enterV tab_ok Tryd.func59 rfl Tryd.ntmps59 rfl (St.rdXr hb h) ?_
  have hnx := fun (w : World) (hb : w.heap[b]? = some (.cells (tC va ca l at' bad) TT (0, 0))) (h : Rd w (.slice va l.length ca) (Lib.byteCells l)) => next_any hb h
  refine cvs (fun w hs => hnx w (hs.nth (k := 0) rfl) (hs.res (k := 1) rfl)) ?_
  by_cases h48 : nx (l.drop at') ≥ 48
  · have g1 : decide (nx (l.drop at') ≥ 48) = true := decide_eq_true h48
    have g2 : (decide (nx (l.drop at') ≥ 48) == true) = true := by rw [g1]; rfl
    iterate 2 refine ct g2 ?_
    refine cvs (fun w hs => hnx w (hs.nth (k := 0) rfl) (hs.res (k := 1) rfl)) ?_
    refine ct g2 ?_
    refine ct g1 ?_
    refine rt (congrArg Value.bool ?_)
    cases hs : l.drop at' with
    | nil => rw [hs] at h48; exact absurd h48 (by show ¬ ((0 : Int) ≥ 48); decide)
    | cons c t =>
      rw [hs] at h48
      have h48 : (c.toNat : Int) ≥ 48 := h48
      show decide ((c.toNat : Int) ≤ 57) = (decide (48 ≤ c.toNat) && decide (c.toNat ≤ 57))
      rw [decide_eq_true (by omega : 48 ≤ c.toNat), Bool.true_and]
      by_cases h57 : c.toNat ≤ 57
      · rw [decide_eq_true h57, decide_eq_true (by omega)]
      · rw [decide_eq_false h57, decide_eq_false (by omega)]
  · have g1 : decide (nx (l.drop at') ≥ 48) = false := decide_eq_false h48
    have g2 : (decide (nx (l.drop at') ≥ 48) == true) = false := by rw [g1]; rfl
    iterate 3 refine cf g2 ?_
    refine cf g1 ?_
    refine rt (congrArg Value.bool ?_)
    cases hs : l.drop at' with
    | nil => rfl
    | cons c t =>
      rw [hs] at h48
      have h48 : ¬ (c.toNat : Int) ≥ 48 := h48
      show false = (decide (48 ≤ c.toNat) && decide (c.toNat ≤ 57))
      rw [decide_eq_false (by omega), Bool.false_and]
end
end Go.Proofs.YtpegkoklmhccjaaDoor
end
section
namespace Go.Proofs.YtpegkoklmhccjaaDoor
open Go.RowKit Go.Sx
set_option linter.unusedVariables false
theorem _root_.Go.Sx.Rd.mid {w : World} {b o n c i m : Nat} {l : List UInt8} (h : Rd w (.slice (some ⟨b, o, none⟩) n c) (Lib.byteCells l)) (him : i + m ≤ l.length) (c' : Nat) : Rd w (.slice (some ⟨b, o + i, none⟩) m c') (Lib.byteCells ((l.drop i).take m)) := by
  obtain ⟨a', c1, e, hc⟩ := h
  injection e with e1 e2 e3
  subst e1
  have hlen : ((l.drop i).take m).length = m := by rw [List.length_take, List.length_drop]; omega
  refine ⟨some ⟨b, o + i, none⟩, c', by rw [Lib.byteCells_length, hlen], fun hne => ?_⟩
  obtain ⟨b', o', h1, h2, h3⟩ := hc (fun e => hne (by
    have : l = [] := by cases l with | nil => rfl | cons x l => simp [Lib.byteCells] at e
    rw [this]; simp [Lib.byteCells]))
  injection h1 with h1
  injection h1 with h4 h5
  subst h4 h5
  refine ⟨b, o + i, rfl, h2, fun j u hu => ?_⟩
  rw [Nat.add_assoc]
  refine h3 (i + j) u ?_
  have e2 : Lib.byteCells ((l.drop i).take m) = ((Lib.byteCells l).drop i).take m := by simp [Lib.byteCells, List.map_take, List.map_drop]
  rw [e2, List.getElem?_take] at hu
  split at hu
  · rw [List.getElem?_drop] at hu; exact hu
  · cases hu
section
variable {va : Option Addr} {ca : Nat} {l : Bs} {at' : Nat} {bad : Bool} {b : Nat} {w : World}
def WdF (p : Bs) (l : Bs) (at' : Nat) (bad : Bool) (x : Nat × Bool) : Prop := (pre p (l.drop at') = none ∧ x = (at', true)) ∨ ((pre p (l.drop at')).isSome = true ∧ at' + p.length ≤ l.length ∧ pre p (l.drop at') = some (l.drop (at' + p.length)) ∧ x = (at' + p.length, bad))
set_option maxRecDepth 100000 in
set_option maxHeartbeats 2000000 in
theorem word_ref (p : Bs) (hp : 1 ≤ p.length) (hpl : p.length ≤ 100) (hl : l.length ≤ 100000) (ha : at' ≤ 200000) (hca : l.length ≤ ca) (hb : w.heap[b]? = some (.cells (tC va ca l at' bad) TT (0, 0))) (h : Rd w (.slice va l.length ca) (Lib.byteCells l)) : Calls Tryd.prog 37 ([pj b, sj p] : List Value).toArray w fun e w' => ∃ x : Nat × Bool, WdF p l at' bad x ∧ e = .returned (.tuple #[]) ∧ Upd b (tC va ca l x.1 x.2) TT w w' := by
  refine enterUs (c := fun x : Nat × Bool => tC va ca l x.1 x.2) (v := fun _ => .tuple #[]) tab_ok Tryd.func37 rfl Tryd.ntmps37 rfl (St.rdX hb h) ?_
  by_cases hG : ((at' + p.length : Nat) : Int) > (l.length : Int)
  · have g1 : decide (((at' + p.length : Nat) : Int) > (l.length : Int)) = true := decide_eq_true hG
    have g2 : (decide (((at' + p.length : Nat) : Int) > (l.length : Int)) == false) = false := by rw [g1]; rfl
    refine dr [cl b (tC va ca l at' bad) TT, rs (rdB va ca l)] 99 (.t 0 (.t 1 (.t 2 (.t 3 (.t 4 (.t 5 (.t 6 (.t 7 (.t 8 (.t 9 (.t 10 (.t 11 (.t 12 (.t 13 (.t 14 (.t 15 (.t 16 (.t 17 (.t 18 (.t 19 (.t 20 (.t 21 (.t 22 (.t 23 (.t 24 (.t 25 (.t 26 (.t 27 (.t 28 (.t 29 (.t 31 (.n 30 (.t 32 (.t 33 .nil)))))))))))))))))))))))))))))))))) tab_ok mixed_ok (by kernel_rfl) (.cons (.cons .nil)) ?_
    refine ld1 0 rfl rfl ?_
    refine .as ((at' + p.length : Nat) : Int) (by rw [str_size]; omega) (by simp only [mn]; omega) (by simp only [mx]; omega) ?_
    refine ld1 0 rfl rfl ?_
    iterate 19 refine cf g2 ?_
    refine ct g1 ?_
    refine ct rfl ?_
    refine s1 0 rfl (by show 2 < 3; decide) ?_
    have hno : pre p (l.drop at') = none := by
      rw [pre_eq, if_neg]
      rw [List.length_drop]; omega
    exact ⟨fun w' hs => ⟨(at', true), .inl ⟨hno, rfl⟩, rfl, hs.updU⟩⟩
  · have g1 : decide (((at' + p.length : Nat) : Int) > (l.length : Int)) = false := decide_eq_false hG
    have g2 : (decide (((at' + p.length : Nat) : Int) > (l.length : Int)) == false) = true := by rw [g1]; rfl
    have hle : at' + p.length ≤ l.length := by omega
    obtain ⟨ba, o, rfl⟩ := h.addr (fun e => by have := congrArg List.length e; rw [Lib.byteCells_length] at this; simp only [List.length_nil] at this; omega)
    have hsub : ∀ w, Rd w (.slice (some ⟨ba, o, none⟩) l.length ca) (Lib.byteCells l) → Rd w (.slice (some ⟨ba, nad o (nmu at' 1), none⟩) (at' + p.length - at') (ca - at')) (Lib.byteCells ((l.drop at').take p.length)) := fun w h => by
      rw [nad_eq, nmu_eq, Nat.mul_one, Nat.add_sub_cancel_left]; exact h.mid hle _
    refine dr [cl b (tC (some ⟨ba, o, none⟩) ca l at' bad) TT, rs (rdB (some ⟨ba, o, none⟩) ca l)] 99 (.t 0 (.t 1 (.t 2 (.t 3 (.t 4 (.t 5 (.t 6 (.t 7 (.t 8 (.t 9 (.t 10 (.t 11 (.t 12 (.t 13 (.t 14 (.t 15 (.t 16 (.t 17 (.t 18 (.t 19 (.t 20 (.t 21 (.t 22 (.t 23 (.t 24 (.t 25 (.t 26 (.t 27 (.t 28 (.t 29 (.t 31 (.n 30 (.t 32 (.t 33 .nil)))))))))))))))))))))))))))))))))) tab_ok mixed_ok (by kernel_rfl) (.cons (.cons .nil)) ?_
    refine ld1 0 rfl rfl ?_
    refine .as ((at' + p.length : Nat) : Int) (by rw [str_size]; omega) (by simp only [mn]; omega) (by simp only [mx]; omega) ?_
    refine ld1 0 rfl rfl ?_
    iterate 4 refine ct g2 ?_
    refine ld1 0 rfl rfl ?_
    iterate 4 refine ct g2 ?_
    refine ld1 0 rfl rfl ?_
    iterate 4 refine ct g2 ?_
    refine ld1 0 rfl rfl ?_
    iterate 3 refine ct g2 ?_
    refine .as ((at' + p.length : Nat) : Int) (by rw [str_size]; omega) (by simp only [mn]; omega) (by simp only [mx]; omega) ?_
    refine ct g2 ?_
    refine ⟨.mk at' (at' + p.length) ca rfl rfl rfl (by omega) (by omega) (Nat.le_refl _) (by simp) ?_⟩
    refine .on (by omega) ?_
    refine ct g2 ?_
    refine ct g2 ?_
    refine semV (fun w' hs => rd_str (hsub w' (hs.res (k := 1) rfl))) ?_
    refine ⟨.cons (.cons .nil), ?_⟩
    refine ct g2 ?_
    refine cf g1 ?_
    by_cases he : (l.drop at').take p.length = p
    · refine cf (by rw [list_beq, decide_eq_true he]; rfl) ?_
      refine ld1 0 rfl rfl ?_
      refine .as ((at' + p.length : Nat) : Int) (by rw [str_size]; omega) (by simp only [mn]; omega) (by simp only [mx]; omega) ?_
      refine s1 0 rfl (by show 1 < 3; decide) ?_
      have hy : pre p (l.drop at') = some (l.drop (at' + p.length)) := by
        rw [pre_eq, if_pos ⟨by rw [List.length_drop]; omega, he⟩, List.drop_drop]
      exact ⟨fun w' hs => ⟨(at' + p.length, bad), .inr ⟨by rw [hy]; rfl, hle, hy, rfl⟩, rfl, hs.updU⟩⟩
    · refine ct (by rw [list_beq, decide_eq_false he]; rfl) ?_
      refine s1 0 rfl (by show 2 < 3; decide) ?_
      have hno : pre p (l.drop at') = none := by
        rw [pre_eq, if_neg]
        exact fun h => he h.2
      exact ⟨fun w' hs => ⟨(at', true), .inl ⟨hno, rfl⟩, rfl, hs.updU⟩⟩
end
end Go.Proofs.YtpegkoklmhccjaaDoor
end
section
namespace Go.Proofs.YtpegkoklmhccjaaDoor
open Go.RowKit Go.Sx
set_option linter.unusedVariables false
structure RX where
  n : Nat
  p : Nat
  bad : Bool
def RxF (o : Option (Nat × Bs)) (l : Bs) (at' : Nat) (bad : Bool) (x : RX) : Prop := at' ≤ x.p ∧ x.p ≤ l.length + 1 ∧ x.n < 2147483648 ∧ ((o = none ∧ x.n = 0 ∧ x.bad = true) ∨ (o = some (x.n, l.drop x.p) ∧ x.p ≤ l.length ∧ x.bad = bad))
section
variable {va : Option Addr} {ca : Nat} {l : Bs} {at' : Nat} {bad : Bool} {b : Nat} {w : World}
set_option maxRecDepth 100000 in
set_option maxHeartbeats 4000000 in
theorem four_any (hl : l.length ≤ 100000) (ha : at' ≤ l.length) (hb : w.heap[b]? = some (.cells (tC va ca l at' bad) TT (0, 0))) (h : Rd w (.slice va l.length ca) (Lib.byteCells l)) : Calls Tryd.prog 73 ([pj b] : List Value).toArray w fun e w' => ∃ x : RX, RxF (hexP 4 0 (l.drop at')) l at' bad x ∧ e = .returned (.int .i64 (x.n : Nat)) ∧ Upd b (tC va ca l x.p x.bad) TT w w' := by
  refine enterUs (c := fun x : RX => tC va ca l x.p x.bad) (v := fun x => .int .i64 (x.n : Nat)) tab_ok Tryd.func73 rfl Tryd.ntmps73 rfl (St.rdX hb h) ?_
  refine lp tab_ok (fun x : Nat × Nat => x.1 ≤ 4 ∧ hexP 4 0 (l.drop at') = hexP (4 - x.1) x.2 (l.drop (at' + x.1)) ∧ x.2 < 16 ^ x.1 ∧ at' + x.1 ≤ l.length) (fun x => ⟨[(0, pj b), (3, .int .i64 (x.2 : Nat)), (4, .int .i64 (x.1 : Nat))], [cl b (tC va ca l (at' + x.1) bad) TT, rs (rdB va ca l)], []⟩) (fun x => 4 - x.1) (0, 0) ⟨by decide, rfl, by decide, ha⟩ ⟨⟨rfl, rfl, rfl, trivial⟩, .cons (.cons .nil), rfl⟩ ?_
  rintro ⟨i, n⟩ ⟨hi, hh, hn, hlt⟩
  dsimp only at hi hh hn hlt
  have hn2 : n < 65536 := Nat.lt_of_lt_of_le hn (Nat.pow_le_pow_right (by decide) hi : 16 ^ i ≤ 16 ^ 4)
  refine cd (fun h4 => ?_) (fun h4 => ?_)
  · have h4 : i < 4 := by dsimp only at h4; omega
    have hnx := fun (w : World) (hb : w.heap[b]? = some (.cells (tC va ca l (at' + i) bad) TT (0, 0))) (h : Rd w (.slice va l.length ca) (Lib.byteCells l)) => next_any hb h
    obtain ⟨m, hm4⟩ : ∃ m, 4 - i = m + 1 := ⟨3 - i, by omega⟩
    rw [hm4] at hh
    cases hm : l.drop (at' + i) with
    | nil =>
      rw [hm] at hnx
      refine cvs (fun w hs => hnx w (hs.nth (k := 0) rfl) (hs.res (k := 1) rfl)) ?_
      refine cf rfl ?_
      refine cf rfl ?_
      refine cf rfl ?_
      refine cf rfl ?_
      refine cf rfl ?_
      refine cf rfl ?_
      refine cf rfl ?_
      refine cf rfl ?_
      refine cf rfl ?_
      refine cf rfl ?_
      refine cf rfl ?_
      refine cf rfl ?_
      refine ct rfl ?_
      refine s1 0 rfl (by show 2 < 3; decide) ?_
      exact ⟨fun w' hs => ⟨⟨0, at' + i, true⟩, ⟨by dsimp only; omega, by dsimp only; omega, (by show 0 < 2147483648; decide), .inl ⟨by rw [hh, hm]; rfl, rfl, rfl⟩⟩, rfl, hs.updU⟩⟩
    | cons ch t =>
      have hltl : at' + i < l.length := by
        rcases Nat.lt_or_ge (at' + i) l.length with h | h
        · exact h
        · rw [List.drop_of_length_le h] at hm; cases hm
      have hdr : l.drop (at' + (i + 1)) = t := by rw [← Nat.add_assoc, ← List.drop_drop, hm]; rfl
      have hc256 := ch.toNat_lt
      rw [hm, show nx (ch :: t) = (ch.toNat : Int) from rfl] at hnx
      refine cvs (fun w hs => hnx w (hs.nth (k := 0) rfl) (hs.res (k := 1) rfl)) ?_
      by_cases w0 : ch.toNat < 48
      case pos =>
        have u1 : decide (((ch.toNat : Nat) : Int) ≥ 48) = false := decide_eq_false (by omega)
        have u2 : (decide (((ch.toNat : Nat) : Int) ≥ 48) == true) = false := by rw [u1]; rfl
        have x1 : decide (((ch.toNat : Nat) : Int) ≥ 65) = false := decide_eq_false (by omega)
        have x2 : (decide (((ch.toNat : Nat) : Int) ≥ 65) == true) = false := by rw [x1]; rfl
        have z1 : decide (((ch.toNat : Nat) : Int) ≥ 97) = false := decide_eq_false (by omega)
        have z2 : (decide (((ch.toNat : Nat) : Int) ≥ 97) == true) = false := by rw [z1]; rfl
        refine cf u2 ?_
        refine cf u2 ?_
        refine cf u1 ?_
        refine cf rfl ?_
        refine cf x2 ?_
        refine cf x2 ?_
        refine cf x1 ?_
        refine cf rfl ?_
        refine cf z2 ?_
        refine cf z2 ?_
        refine cf z1 ?_
        refine cf rfl ?_
        refine ct rfl ?_
        refine s1 0 rfl (by show 2 < 3; decide) ?_
        have hno : hexN ch.toNat = none := by unfold hexN; rw [if_neg (by omega), if_neg (by omega), if_neg (by omega)]
        exact ⟨fun w' hs => ⟨⟨0, at' + i, true⟩, ⟨by dsimp only; omega, by dsimp only; omega, (by show 0 < 2147483648; decide), .inl ⟨by rw [hh, hm, hexP_no _ _ _ _ hno], rfl, rfl⟩⟩, rfl, hs.updU⟩⟩
      by_cases w1 : ch.toNat < 58
      case pos =>
        have u1 : decide (((ch.toNat : Nat) : Int) ≥ 48) = true := decide_eq_true (by omega)
        have u2 : (decide (((ch.toNat : Nat) : Int) ≥ 48) == true) = true := by rw [u1]; rfl
        have v1 : decide (((ch.toNat : Nat) : Int) ≤ 57) = true := decide_eq_true (by omega)
        have v2 : (decide (((ch.toNat : Nat) : Int) ≤ 57) == true) = true := by rw [v1]; rfl
        have x1 : decide (((ch.toNat : Nat) : Int) ≥ 65) = false := decide_eq_false (by omega)
        have x2 : (decide (((ch.toNat : Nat) : Int) ≥ 65) == true) = false := by rw [x1]; rfl
        have z1 : decide (((ch.toNat : Nat) : Int) ≥ 97) = false := decide_eq_false (by omega)
        have z2 : (decide (((ch.toNat : Nat) : Int) ≥ 97) == true) = false := by rw [z1]; rfl
        refine ct u2 ?_
        refine ct u2 ?_
        refine ct u1 ?_
        refine ct v1 ?_
        refine .as (((ch.toNat - 48 : Nat) : Int)) (by omega) (by simp only [mn]; omega) (by simp only [mx]; omega) ?_
        refine cf x2 ?_
        refine cf x2 ?_
        refine cf x1 ?_
        refine cf rfl ?_
        refine cf z2 ?_
        refine cf z2 ?_
        refine cf z1 ?_
        refine cf rfl ?_
        refine cf (decide_eq_false (by omega)) ?_
        have hv : hexN ch.toNat = some (ch.toNat - 48) := by unfold hexN; rw [if_pos (by omega)]
        have hd16 : ch.toNat - 48 < 16 := by omega
        generalize ch.toNat - 48 = dd at hv hd16 ⊢
        refine .as (((16 * n : Nat) : Int)) (by omega) (by simp only [mn]; omega) (by simp only [mx]; omega) ?_
        refine .as (((16 * n + dd : Nat) : Int)) (by omega) (by simp only [mn]; omega) (by simp only [mx]; omega) ?_
        refine ld1 0 rfl rfl ?_
        refine .as (((at' + (i + 1) : Nat) : Int)) (by omega) (by simp only [mn]; omega) (by simp only [mx]; omega) ?_
        refine s1 0 rfl (by show 1 < 3; decide) ?_
        refine .as (((i + 1 : Nat) : Int)) (by omega) (by simp only [mn]; omega) (by simp only [mx]; omega) ?_
        exact ⟨(i + 1, 16 * n + dd), ⟨by dsimp only; omega, by dsimp only; rw [hh, hm, hexP_one _ _ _ _ _ hv, show m = 4 - (i + 1) by omega, ← hdr], by dsimp only; rw [Nat.pow_succ]; omega, by dsimp only; omega⟩, by dsimp only; omega, ⟨⟨rfl, rfl, rfl, trivial⟩, .cons (.cons .nil), rfl⟩⟩
      by_cases w2 : ch.toNat < 65
      case pos =>
        have u1 : decide (((ch.toNat : Nat) : Int) ≥ 48) = true := decide_eq_true (by omega)
        have u2 : (decide (((ch.toNat : Nat) : Int) ≥ 48) == true) = true := by rw [u1]; rfl
        have v1 : decide (((ch.toNat : Nat) : Int) ≤ 57) = false := decide_eq_false (by omega)
        have v2 : (decide (((ch.toNat : Nat) : Int) ≤ 57) == true) = false := by rw [v1]; rfl
        have x1 : decide (((ch.toNat : Nat) : Int) ≥ 65) = false := decide_eq_false (by omega)
        have x2 : (decide (((ch.toNat : Nat) : Int) ≥ 65) == true) = false := by rw [x1]; rfl
        have z1 : decide (((ch.toNat : Nat) : Int) ≥ 97) = false := decide_eq_false (by omega)
        have z2 : (decide (((ch.toNat : Nat) : Int) ≥ 97) == true) = false := by rw [z1]; rfl
        refine ct u2 ?_
        refine ct u2 ?_
        refine ct u1 ?_
        refine cf v1 ?_
        refine cf x2 ?_
        refine cf x2 ?_
        refine cf x1 ?_
        refine cf rfl ?_
        refine cf z2 ?_
        refine cf z2 ?_
        refine cf z1 ?_
        refine cf rfl ?_
        refine ct rfl ?_
        refine s1 0 rfl (by show 2 < 3; decide) ?_
        have hno : hexN ch.toNat = none := by unfold hexN; rw [if_neg (by omega), if_neg (by omega), if_neg (by omega)]
        exact ⟨fun w' hs => ⟨⟨0, at' + i, true⟩, ⟨by dsimp only; omega, by dsimp only; omega, (by show 0 < 2147483648; decide), .inl ⟨by rw [hh, hm, hexP_no _ _ _ _ hno], rfl, rfl⟩⟩, rfl, hs.updU⟩⟩
      by_cases w3 : ch.toNat < 71
      case pos =>
        have u1 : decide (((ch.toNat : Nat) : Int) ≥ 48) = true := decide_eq_true (by omega)
        have u2 : (decide (((ch.toNat : Nat) : Int) ≥ 48) == true) = true := by rw [u1]; rfl
        have v1 : decide (((ch.toNat : Nat) : Int) ≤ 57) = false := decide_eq_false (by omega)
        have v2 : (decide (((ch.toNat : Nat) : Int) ≤ 57) == true) = false := by rw [v1]; rfl
        have x1 : decide (((ch.toNat : Nat) : Int) ≥ 65) = true := decide_eq_true (by omega)
        have x2 : (decide (((ch.toNat : Nat) : Int) ≥ 65) == true) = true := by rw [x1]; rfl
        have y1 : decide (((ch.toNat : Nat) : Int) ≤ 70) = true := decide_eq_true (by omega)
        have y2 : (decide (((ch.toNat : Nat) : Int) ≤ 70) == true) = true := by rw [y1]; rfl
        have z1 : decide (((ch.toNat : Nat) : Int) ≥ 97) = false := decide_eq_false (by omega)
        have z2 : (decide (((ch.toNat : Nat) : Int) ≥ 97) == true) = false := by rw [z1]; rfl
        refine ct u2 ?_
        refine ct u2 ?_
        refine ct u1 ?_
        refine cf v1 ?_
        refine ct x2 ?_
        refine ct x2 ?_
        refine ct x1 ?_
        refine ct y1 ?_
        refine .as (((ch.toNat - 55 : Nat) : Int)) (by omega) (by simp only [mn]; omega) (by simp only [mx]; omega) ?_
        refine cf z2 ?_
        refine cf z2 ?_
        refine cf z1 ?_
        refine cf rfl ?_
        refine cf (decide_eq_false (by omega)) ?_
        have hv : hexN ch.toNat = some (ch.toNat - 55) := by unfold hexN; rw [if_neg (by omega), if_pos (by omega)]
        have hd16 : ch.toNat - 55 < 16 := by omega
        generalize ch.toNat - 55 = dd at hv hd16 ⊢
        refine .as (((16 * n : Nat) : Int)) (by omega) (by simp only [mn]; omega) (by simp only [mx]; omega) ?_
        refine .as (((16 * n + dd : Nat) : Int)) (by omega) (by simp only [mn]; omega) (by simp only [mx]; omega) ?_
        refine ld1 0 rfl rfl ?_
        refine .as (((at' + (i + 1) : Nat) : Int)) (by omega) (by simp only [mn]; omega) (by simp only [mx]; omega) ?_
        refine s1 0 rfl (by show 1 < 3; decide) ?_
        refine .as (((i + 1 : Nat) : Int)) (by omega) (by simp only [mn]; omega) (by simp only [mx]; omega) ?_
        exact ⟨(i + 1, 16 * n + dd), ⟨by dsimp only; omega, by dsimp only; rw [hh, hm, hexP_one _ _ _ _ _ hv, show m = 4 - (i + 1) by omega, ← hdr], by dsimp only; rw [Nat.pow_succ]; omega, by dsimp only; omega⟩, by dsimp only; omega, ⟨⟨rfl, rfl, rfl, trivial⟩, .cons (.cons .nil), rfl⟩⟩
      by_cases w4 : ch.toNat < 97
      case pos =>
        have u1 : decide (((ch.toNat : Nat) : Int) ≥ 48) = true := decide_eq_true (by omega)
        have u2 : (decide (((ch.toNat : Nat) : Int) ≥ 48) == true) = true := by rw [u1]; rfl
        have v1 : decide (((ch.toNat : Nat) : Int) ≤ 57) = false := decide_eq_false (by omega)
        have v2 : (decide (((ch.toNat : Nat) : Int) ≤ 57) == true) = false := by rw [v1]; rfl
        have x1 : decide (((ch.toNat : Nat) : Int) ≥ 65) = true := decide_eq_true (by omega)
        have x2 : (decide (((ch.toNat : Nat) : Int) ≥ 65) == true) = true := by rw [x1]; rfl
        have y1 : decide (((ch.toNat : Nat) : Int) ≤ 70) = false := decide_eq_false (by omega)
        have y2 : (decide (((ch.toNat : Nat) : Int) ≤ 70) == true) = false := by rw [y1]; rfl
        have z1 : decide (((ch.toNat : Nat) : Int) ≥ 97) = false := decide_eq_false (by omega)
        have z2 : (decide (((ch.toNat : Nat) : Int) ≥ 97) == true) = false := by rw [z1]; rfl
        refine ct u2 ?_
        refine ct u2 ?_
        refine ct u1 ?_
        refine cf v1 ?_
        refine ct x2 ?_
        refine ct x2 ?_
        refine ct x1 ?_
        refine cf y1 ?_
        refine cf z2 ?_
        refine cf z2 ?_
        refine cf z1 ?_
        refine cf rfl ?_
        refine ct rfl ?_
        refine s1 0 rfl (by show 2 < 3; decide) ?_
        have hno : hexN ch.toNat = none := by unfold hexN; rw [if_neg (by omega), if_neg (by omega), if_neg (by omega)]
        exact ⟨fun w' hs => ⟨⟨0, at' + i, true⟩, ⟨by dsimp only; omega, by dsimp only; omega, (by show 0 < 2147483648; decide), .inl ⟨by rw [hh, hm, hexP_no _ _ _ _ hno], rfl, rfl⟩⟩, rfl, hs.updU⟩⟩
      by_cases w5 : ch.toNat < 103
      case pos =>
        have u1 : decide (((ch.toNat : Nat) : Int) ≥ 48) = true := decide_eq_true (by omega)
        have u2 : (decide (((ch.toNat : Nat) : Int) ≥ 48) == true) = true := by rw [u1]; rfl
        have v1 : decide (((ch.toNat : Nat) : Int) ≤ 57) = false := decide_eq_false (by omega)
        have v2 : (decide (((ch.toNat : Nat) : Int) ≤ 57) == true) = false := by rw [v1]; rfl
        have x1 : decide (((ch.toNat : Nat) : Int) ≥ 65) = true := decide_eq_true (by omega)
        have x2 : (decide (((ch.toNat : Nat) : Int) ≥ 65) == true) = true := by rw [x1]; rfl
        have y1 : decide (((ch.toNat : Nat) : Int) ≤ 70) = false := decide_eq_false (by omega)
        have y2 : (decide (((ch.toNat : Nat) : Int) ≤ 70) == true) = false := by rw [y1]; rfl
        have z1 : decide (((ch.toNat : Nat) : Int) ≥ 97) = true := decide_eq_true (by omega)
        have z2 : (decide (((ch.toNat : Nat) : Int) ≥ 97) == true) = true := by rw [z1]; rfl
        have t1 : decide (((ch.toNat : Nat) : Int) ≤ 102) = true := decide_eq_true (by omega)
        have t2 : (decide (((ch.toNat : Nat) : Int) ≤ 102) == true) = true := by rw [t1]; rfl
        refine ct u2 ?_
        refine ct u2 ?_
        refine ct u1 ?_
        refine cf v1 ?_
        refine ct x2 ?_
        refine ct x2 ?_
        refine ct x1 ?_
        refine cf y1 ?_
        refine ct z2 ?_
        refine ct z2 ?_
        refine ct z1 ?_
        refine ct t1 ?_
        refine .as (((ch.toNat - 87 : Nat) : Int)) (by omega) (by simp only [mn]; omega) (by simp only [mx]; omega) ?_
        refine cf (decide_eq_false (by omega)) ?_
        have hv : hexN ch.toNat = some (ch.toNat - 87) := by unfold hexN; rw [if_neg (by omega), if_neg (by omega), if_pos (by omega)]
        have hd16 : ch.toNat - 87 < 16 := by omega
        generalize ch.toNat - 87 = dd at hv hd16 ⊢
        refine .as (((16 * n : Nat) : Int)) (by omega) (by simp only [mn]; omega) (by simp only [mx]; omega) ?_
        refine .as (((16 * n + dd : Nat) : Int)) (by omega) (by simp only [mn]; omega) (by simp only [mx]; omega) ?_
        refine ld1 0 rfl rfl ?_
        refine .as (((at' + (i + 1) : Nat) : Int)) (by omega) (by simp only [mn]; omega) (by simp only [mx]; omega) ?_
        refine s1 0 rfl (by show 1 < 3; decide) ?_
        refine .as (((i + 1 : Nat) : Int)) (by omega) (by simp only [mn]; omega) (by simp only [mx]; omega) ?_
        exact ⟨(i + 1, 16 * n + dd), ⟨by dsimp only; omega, by dsimp only; rw [hh, hm, hexP_one _ _ _ _ _ hv, show m = 4 - (i + 1) by omega, ← hdr], by dsimp only; rw [Nat.pow_succ]; omega, by dsimp only; omega⟩, by dsimp only; omega, ⟨⟨rfl, rfl, rfl, trivial⟩, .cons (.cons .nil), rfl⟩⟩
      have u1 : decide (((ch.toNat : Nat) : Int) ≥ 48) = true := decide_eq_true (by omega)
      have u2 : (decide (((ch.toNat : Nat) : Int) ≥ 48) == true) = true := by rw [u1]; rfl
      have v1 : decide (((ch.toNat : Nat) : Int) ≤ 57) = false := decide_eq_false (by omega)
      have v2 : (decide (((ch.toNat : Nat) : Int) ≤ 57) == true) = false := by rw [v1]; rfl
      have x1 : decide (((ch.toNat : Nat) : Int) ≥ 65) = true := decide_eq_true (by omega)
      have x2 : (decide (((ch.toNat : Nat) : Int) ≥ 65) == true) = true := by rw [x1]; rfl
      have y1 : decide (((ch.toNat : Nat) : Int) ≤ 70) = false := decide_eq_false (by omega)
      have y2 : (decide (((ch.toNat : Nat) : Int) ≤ 70) == true) = false := by rw [y1]; rfl
      have z1 : decide (((ch.toNat : Nat) : Int) ≥ 97) = true := decide_eq_true (by omega)
      have z2 : (decide (((ch.toNat : Nat) : Int) ≥ 97) == true) = true := by rw [z1]; rfl
      have t1 : decide (((ch.toNat : Nat) : Int) ≤ 102) = false := decide_eq_false (by omega)
      have t2 : (decide (((ch.toNat : Nat) : Int) ≤ 102) == true) = false := by rw [t1]; rfl
      refine ct u2 ?_
      refine ct u2 ?_
      refine ct u1 ?_
      refine cf v1 ?_
      refine ct x2 ?_
      refine ct x2 ?_
      refine ct x1 ?_
      refine cf y1 ?_
      refine ct z2 ?_
      refine ct z2 ?_
      refine ct z1 ?_
      refine cf t1 ?_
      refine ct rfl ?_
      refine s1 0 rfl (by show 2 < 3; decide) ?_
      have hno : hexN ch.toNat = none := by unfold hexN; rw [if_neg (by omega), if_neg (by omega), if_neg (by omega)]
      exact ⟨fun w' hs => ⟨⟨0, at' + i, true⟩, ⟨by dsimp only; omega, by dsimp only; omega, (by show 0 < 2147483648; decide), .inl ⟨by rw [hh, hm, hexP_no _ _ _ _ hno], rfl, rfl⟩⟩, rfl, hs.updU⟩⟩
  · obtain rfl : i = 4 := by dsimp only at h4; omega
    refine ⟨fun w' hs => ⟨⟨n, at' + 4, bad⟩, ⟨by dsimp only; omega, by dsimp only; omega, by dsimp only; omega, .inr ⟨by rw [hh]; rfl, hlt, rfl⟩⟩, rfl, hs.updU⟩⟩
end
end Go.Proofs.YtpegkoklmhccjaaDoor
end
section
namespace Go.Proofs.YtpegkoklmhccjaaDoor
open Go.RowKit Go.Sx
set_option linter.unusedVariables false
def PLs : Bs := [34, 92, 47, 98, 102, 110, 114, 116]
def MNs : Bs := [34, 92, 47, 8, 12, 10, 13, 9]
theorem esc_plain {i : Nat} {p m : UInt8} {t : Bs} (hi : i < 8) (hp : PLs[i]? = some p) (hm : MNs[i]? = some m) : escQ p t = some (m.toNat, t) := by
  match i, hi with
  | 0, _ => obtain rfl := Option.some.inj hp; obtain rfl := Option.some.inj hm; rfl
  | 1, _ => obtain rfl := Option.some.inj hp; obtain rfl := Option.some.inj hm; rfl
  | 2, _ => obtain rfl := Option.some.inj hp; obtain rfl := Option.some.inj hm; rfl
  | 3, _ => obtain rfl := Option.some.inj hp; obtain rfl := Option.some.inj hm; rfl
  | 4, _ => obtain rfl := Option.some.inj hp; obtain rfl := Option.some.inj hm; rfl
  | 5, _ => obtain rfl := Option.some.inj hp; obtain rfl := Option.some.inj hm; rfl
  | 6, _ => obtain rfl := Option.some.inj hp; obtain rfl := Option.some.inj hm; rfl
  | 7, _ => obtain rfl := Option.some.inj hp; obtain rfl := Option.some.inj hm; rfl
theorem esc_else {c : UInt8} {t : Bs} (h : ∀ (j : Nat) (p : UInt8), j < 8 → PLs[j]? = some p → c ≠ p) : escQ c t = if c = 117 then sigP t else none := by
  unfold escQ
  rw [if_neg (h 0 34 (by decide) rfl), if_neg (h 1 92 (by decide) rfl), if_neg (h 2 47 (by decide) rfl), if_neg (h 3 98 (by decide) rfl), if_neg (h 4 102 (by decide) rfl), if_neg (h 5 110 (by decide) rfl), if_neg (h 6 114 (by decide) rfl), if_neg (h 7 116 (by decide) rfl)]
section
variable {va : Option Addr} {ca : Nat} {l : Bs} {at' : Nat} {b : Nat} {w : World}
set_option maxRecDepth 100000 in
set_option maxHeartbeats 4000000 in
theorem escaped_any (hl : l.length ≤ 100000) (hca : l.length ≤ ca) (ha : at' ≤ l.length) (hb : w.heap[b]? = some (.cells (tC va ca l at' false) TT (0, 0))) (h : Rd w (.slice va l.length ca) (Lib.byteCells l)) : Calls Tryd.prog 57 ([pj b] : List Value).toArray w fun e w' => ∃ x : RX, RxF (escP (l.drop at')) l at' false x ∧ e = .returned (.int .i64 (x.n : Nat)) ∧ Upd b (tC va ca l x.p x.bad) TT w w' := by
  refine enterUs (c := fun x : RX => tC va ca l x.p x.bad) (v := fun x => .int .i64 (x.n : Nat)) tab_ok Tryd.func57 rfl Tryd.ntmps57 rfl (St.rdX hb h) ?_
  have hnx := fun (w : World) (hb : w.heap[b]? = some (.cells (tC va ca l at' false) TT (0, 0))) (h : Rd w (.slice va l.length ca) (Lib.byteCells l)) => next_any hb h
  generalize hz : nx (l.drop at') = z at hnx
  have hz256 : 0 ≤ z ∧ z < 256 := by
    rw [← hz]
    cases l.drop at' with
    | nil => exact ⟨by decide, by decide⟩
    | cons c t => have := c.toNat_lt; exact ⟨by show (0 : Int) ≤ (c.toNat : Int); omega, by show (c.toNat : Int) < 256; omega⟩
  refine cvs (fun w hs => hnx w (hs.nth (k := 0) rfl) (hs.res (k := 1) rfl)) ?_
  refine ld1 0 rfl rfl ?_
  refine .as (((at' + 1 : Nat) : Int)) (by omega) (by simp only [mn]; omega) (by simp only [mx]; omega) ?_
  refine s1 0 rfl (by show 1 < 3; decide) ?_
  refine lp tab_ok (fun i : Nat => i ≤ 8 ∧ ∀ (j : Nat) (p : UInt8), j < i → PLs[j]? = some p → z ≠ (p.toNat : Int)) (fun i => ⟨[(0, pj b), (3, .int .i64 z), (4, sj PLs), (5, sj MNs), (6, .int .i64 (i : Nat))], [cl b (tC va ca l (at' + 1) false) TT, rs (rdB va ca l)], []⟩) (fun i => 8 - i) 0 ⟨by decide, fun j p h => by omega⟩ ⟨⟨rfl, rfl, rfl, rfl, rfl, trivial⟩, .cons (.cons .nil), rfl⟩ ?_
  rintro i ⟨hi, hnot⟩
  refine cd (fun h8 => ?_) (fun h8 => ?_)
  · have h8 : i < 8 := by rw [str_size] at h8; have : PLs.length = 8 := rfl; omega
    have hp : PLs[i]? = some (PLs[i]'(by exact h8)) := List.getElem?_eq_getElem _
    have hm : MNs[i]? = some (MNs[i]'(by exact h8)) := List.getElem?_eq_getElem _
    generalize PLs[i]'(by exact h8) = p at hp
    generalize MNs[i]'(by exact h8) = m at hm
    have hp256 := p.toNat_lt
    have hm256 := m.toNat_lt
    refine chL i rfl hp ?_
    refine .same (by simp only [mn]; omega) (by simp only [mx]; omega) ?_
    refine cq (fun he => ?_) (fun he => ?_)
    · refine chL i rfl hm ?_
      refine .same (by simp only [mn]; omega) (by simp only [mx]; omega) ?_
      have hsp : escP (l.drop at') = some (m.toNat, l.drop (at' + 1)) ∧ at' + 1 ≤ l.length := by
        cases hs : l.drop at' with
        | nil =>
          rw [hs] at hz
          have h0 : z = 0 := hz.symm
          have : (List.range 8).all (fun j => match PLs[j]? with | some p => decide (p.toNat ≠ 0) | none => false) = true := by decide +kernel
          have h1 := List.all_eq_true.1 this i (List.mem_range.2 h8)
          rw [hp] at h1
          have h2 : p.toNat ≠ 0 := of_decide_eq_true h1
          omega
        | cons c t =>
          rw [hs] at hz
          have hc : (c.toNat : Int) = z := hz
          obtain rfl : c = p := UInt8.toNat_inj.1 (by omega)
          have hdr : l.drop (at' + 1) = t := by rw [← List.drop_drop, hs]; rfl
          refine ⟨by rw [hdr]; exact esc_plain h8 hp hm, ?_⟩
          rcases Nat.lt_or_ge at' l.length with h | h
          · exact h
          · rw [List.drop_of_length_le h] at hs; cases hs
      exact ⟨fun w' hs => ⟨⟨m.toNat, at' + 1, false⟩, ⟨by dsimp only; omega, by dsimp only; omega, by dsimp only; omega, .inr ⟨hsp.1, hsp.2, rfl⟩⟩, rfl, hs.updU⟩⟩
    · refine .as (((i + 1 : Nat) : Int)) (by omega) (by simp only [mn]; omega) (by simp only [mx]; omega) ?_
      exact ⟨i + 1, ⟨by omega, fun j q hj hq => by
        by_cases hji : j < i
        · exact hnot j q hji hq
        · obtain rfl : j = i := by omega
          obtain rfl := Option.some.inj (hp.symm.trans hq)
          exact he⟩, by omega, ⟨⟨rfl, rfl, rfl, rfl, rfl, trivial⟩, .cons (.cons .nil), rfl⟩⟩
  · obtain rfl : i = 8 := by rw [str_size] at h8; have : PLs.length = 8 := rfl; omega
    clear h8 hi
    by_cases h117 : z = 117
    case neg =>
      refine ct (by rw [bne_iff_ne]; exact h117) ?_
      have hno : escP (l.drop at') = none := by
        cases hs : l.drop at' with
        | nil => rfl
        | cons c t =>
          rw [hs] at hz
          have hc : (c.toNat : Int) = z := hz
          show escQ c t = none
          rw [esc_else fun j p hj hp e => hnot j p hj hp (by rw [← e, hc]), if_neg fun e => h117 (by rw [← hc, e]; rfl)]
      refine s1 0 rfl (by show 2 < 3; decide) ?_
      exact ⟨fun w' hs => ⟨⟨0, at' + 1, true⟩, ⟨by dsimp only; omega, by dsimp only; omega, (by show 0 < 2147483648; decide), .inl ⟨hno, rfl, rfl⟩⟩, rfl, hs.updU⟩⟩
    refine cf (by rw [h117]; rfl) ?_
    obtain ⟨hsp, hle⟩ : escP (l.drop at') = sigP (l.drop (at' + 1)) ∧ at' + 1 ≤ l.length := by
      cases hs : l.drop at' with
      | nil => rw [hs] at hz; rw [← hz] at h117; exact absurd h117 (by show ¬ (0 : Int) = 117; decide)
      | cons c t =>
        rw [hs] at hz
        have hc : (c.toNat : Int) = z := hz
        have hdr : l.drop (at' + 1) = t := by rw [← List.drop_drop, hs]; rfl
        have h1 : c = 117 := UInt8.toNat_inj.1 (by have : (117 : UInt8).toNat = 117 := rfl; omega)
        refine ⟨?_, ?_⟩
        · show escQ c t = _
          rw [esc_else fun j p hj hp e => hnot j p hj hp (by rw [← e, hc]), if_pos h1, hdr]
        · rcases Nat.lt_or_ge at' l.length with h | h
          · exact h
          · rw [List.drop_of_length_le h] at hs; cases hs
    refine cUs (c := fun x : RX => tC va ca l x.p x.bad) (v := fun x => .int .i64 (x.n : Nat)) (Φ := RxF (hexP 4 0 (l.drop (at' + 1))) l (at' + 1) false) 0 rfl (fun w hs => four_any hl hle (hs.nth (k := 0) rfl) (hs.res (k := 1) rfl)) (fun x hx => ?_)
    obtain ⟨n1, p1, bd1⟩ := x
    obtain ⟨k1, k2, k3, hx⟩ := hx
    dsimp only at k1 k2 k3 hx ⊢
    by_cases hA : n1 < 55296
    case pos =>
      have A1 : decide (((n1 : Nat) : Int) < 55296) = true := decide_eq_true (by omega)
      have A2 : (decide (((n1 : Nat) : Int) < 55296) == false) = false := by rw [A1]; rfl
      iterate 2 refine cf A2 ?_
      refine ct A1 ?_
      refine ct rfl ?_
      exact ⟨fun w' hs => ⟨⟨n1, p1, bd1⟩, ⟨by dsimp only; omega, by dsimp only; omega, k3, by
        rcases hx with ⟨hx, h1, h2⟩ | ⟨hx, hp1, h2⟩
        · exact .inl ⟨by rw [hsp]; unfold sigP; rw [hx], h1, h2⟩
        · exact .inr ⟨by rw [hsp]; unfold sigP; rw [hx]; dsimp only; rw [if_pos (.inl hA)], hp1, h2⟩⟩, rfl, hs.updU⟩⟩
    obtain ⟨hy1, hp1, hbd⟩ : hexP 4 0 (l.drop (at' + 1)) = some (n1, l.drop p1) ∧ p1 ≤ l.length ∧ bd1 = false := by
      rcases hx with ⟨hx, h1, h2⟩ | hx
      · omega
      · exact hx
    subst hbd
    clear hx
    have A1 : decide (((n1 : Nat) : Int) < 55296) = false := decide_eq_false (by omega)
    have A2 : (decide (((n1 : Nat) : Int) < 55296) == false) = true := by rw [A1]; rfl
    iterate 2 refine ct A2 ?_
    refine cf A1 ?_
    by_cases hB : n1 > 57343
    case pos =>
      refine ct (decide_eq_true (by omega)) ?_
      exact ⟨fun w' hs => ⟨⟨n1, p1, false⟩, ⟨by dsimp only; omega, by dsimp only; omega, k3, .inr ⟨by rw [hsp]; unfold sigP; rw [hy1]; dsimp only; rw [if_pos (.inr (by omega))], hp1, rfl⟩⟩, rfl, hs.updU⟩⟩
    refine cf (decide_eq_false (by omega)) ?_
    have hsig : sigP (l.drop (at' + 1)) = if 56320 ≤ n1 then none else match pre [92, 117] (l.drop p1) with
        | none => none
        | some u => match hexP 4 0 u with
          | none => none
          | some (lo, v) => if lo < 56320 ∨ 57344 ≤ lo then none else some (65536 + (n1 - 55296) * 1024 + lo - 56320, v) := by
      unfold sigP; rw [hy1]; dsimp only; rw [if_neg (by omega)]; rfl
    refine cUs (c := fun x : Nat × Bool => tC va ca l x.1 x.2) (v := fun _ => .tuple #[]) (Φ := WdF [92, 117] l p1 false) 0 rfl (fun w hs => word_ref (p := [92, 117]) (by decide) (by decide) hl (by omega) hca (hs.nth (k := 0) rfl) (hs.res (k := 1) rfl)) (fun x hx2 => ?_)
    rcases hx2 with ⟨hx2, rfl⟩ | ⟨_, hp2, hx2, rfl⟩
    · dsimp only
      refine ld1 0 rfl (v := .bool true) rfl ?_
      refine cf rfl ?_
      refine ld1 0 rfl (v := .bool true) rfl ?_
      refine cf rfl ?_
      refine cf rfl ?_
      refine ct rfl ?_
      refine cf rfl ?_
      refine cf rfl ?_
      refine ct rfl ?_
      refine cf rfl ?_
      refine cf rfl ?_
      refine ct rfl ?_
      refine ct rfl ?_
      refine s1 0 rfl (by show 2 < 3; decide) ?_
      exact ⟨fun w' hs => ⟨⟨0, p1, true⟩, ⟨by dsimp only; omega, by dsimp only; omega, (by show 0 < 2147483648; decide), .inl ⟨by rw [hsp, hsig, hx2]; simp, rfl, rfl⟩⟩, rfl, hs.updU⟩⟩
    · dsimp only
      have hlen : ([92, 117] : Bs).length = 2 := rfl
      rw [hlen] at hp2 hx2 ⊢
      refine ld1 0 rfl (v := .bool false) rfl ?_
      refine ct rfl ?_
      refine cUs (c := fun x : RX => tC va ca l x.p x.bad) (v := fun x => .int .i64 (x.n : Nat)) (Φ := RxF (hexP 4 0 (l.drop (p1 + 2))) l (p1 + 2) false) 0 rfl (fun w hs => four_any hl hp2 (hs.nth (k := 0) rfl) (hs.res (k := 1) rfl)) (fun x hx3 => ?_)
      obtain ⟨n3, p3, bd3⟩ := x
      obtain ⟨j1, j2, j3, hx3⟩ := hx3
      dsimp only at j1 j2 j3 hx3 ⊢
      rcases hx3 with ⟨hx3, rfl, rfl⟩ | ⟨hx3, hp3, rfl⟩
      · refine ld1 0 rfl (v := .bool true) rfl ?_
        refine cf rfl ?_
        refine cf rfl ?_
        refine ct rfl ?_
        refine cf rfl ?_
        refine cf rfl ?_
        refine ct rfl ?_
        refine cf rfl ?_
        refine cf rfl ?_
        refine ct rfl ?_
        refine ct rfl ?_
        refine s1 0 rfl (by show 2 < 3; decide) ?_
        exact ⟨fun w' hs => ⟨⟨0, p3, true⟩, ⟨by dsimp only; omega, by dsimp only; omega, (by show 0 < 2147483648; decide), .inl ⟨by rw [hsp, hsig, hx2]; dsimp only; rw [hx3]; simp, rfl, rfl⟩⟩, rfl, hs.updU⟩⟩
      · by_cases hG : n1 > 56319
        case pos =>
          have G1 : decide (((n1 : Nat) : Int) > 56319) = true := decide_eq_true (by omega)
          have G2 : (decide (((n1 : Nat) : Int) > 56319) == false) = false := by rw [G1]; rfl
          refine ld1 0 rfl (v := .bool false) rfl ?_
          refine ct rfl ?_
          refine ct rfl ?_
          refine cf rfl ?_
          refine cf G2 ?_
          refine cf G2 ?_
          refine ct G1 ?_
          refine cf rfl ?_
          refine cf rfl ?_
          refine ct rfl ?_
          refine ct rfl ?_
          refine s1 0 rfl (by show 2 < 3; decide) ?_
          exact ⟨fun w' hs => ⟨⟨0, p3, true⟩, ⟨by dsimp only; omega, by dsimp only; omega, (by show 0 < 2147483648; decide), .inl ⟨by rw [hsp, hsig, if_pos (by omega)], rfl, rfl⟩⟩, rfl, hs.updU⟩⟩
        by_cases hL : n3 < 56320
        case pos =>
          have G1 : decide (((n1 : Nat) : Int) > 56319) = false := decide_eq_false (by omega)
          have G2 : (decide (((n1 : Nat) : Int) > 56319) == false) = true := by rw [G1]; rfl
          have L1 : decide (((n3 : Nat) : Int) < 56320) = true := decide_eq_true (by omega)
          have L2 : (decide (((n3 : Nat) : Int) < 56320) == false) = false := by rw [L1]; rfl
          refine ld1 0 rfl (v := .bool false) rfl ?_
          refine ct rfl ?_
          refine ct rfl ?_
          refine cf rfl ?_
          refine ct G2 ?_
          refine ct G2 ?_
          refine cf G1 ?_
          refine cf L2 ?_
          refine cf L2 ?_
          refine ct L1 ?_
          refine ct rfl ?_
          refine s1 0 rfl (by show 2 < 3; decide) ?_
          exact ⟨fun w' hs => ⟨⟨0, p3, true⟩, ⟨by dsimp only; omega, by dsimp only; omega, (by show 0 < 2147483648; decide), .inl ⟨by rw [hsp, hsig, if_neg (by omega), hx2]; dsimp only; rw [hx3]; dsimp only; rw [if_pos (.inl hL)], rfl, rfl⟩⟩, rfl, hs.updU⟩⟩
        by_cases hM : n3 > 57343
        case pos =>
          have G1 : decide (((n1 : Nat) : Int) > 56319) = false := decide_eq_false (by omega)
          have G2 : (decide (((n1 : Nat) : Int) > 56319) == false) = true := by rw [G1]; rfl
          have L1 : decide (((n3 : Nat) : Int) < 56320) = false := decide_eq_false (by omega)
          have L2 : (decide (((n3 : Nat) : Int) < 56320) == false) = true := by rw [L1]; rfl
          have M1 : decide (((n3 : Nat) : Int) > 57343) = true := decide_eq_true (by omega)
          have M2 : (decide (((n3 : Nat) : Int) > 57343) == false) = false := by rw [M1]; rfl
          refine ld1 0 rfl (v := .bool false) rfl ?_
          refine ct rfl ?_
          refine ct rfl ?_
          refine cf rfl ?_
          refine ct G2 ?_
          refine ct G2 ?_
          refine cf G1 ?_
          refine ct L2 ?_
          refine ct L2 ?_
          refine cf L1 ?_
          refine ct M1 ?_
          refine s1 0 rfl (by show 2 < 3; decide) ?_
          exact ⟨fun w' hs => ⟨⟨0, p3, true⟩, ⟨by dsimp only; omega, by dsimp only; omega, (by show 0 < 2147483648; decide), .inl ⟨by rw [hsp, hsig, if_neg (by omega), hx2]; dsimp only; rw [hx3]; dsimp only; rw [if_pos (.inr (by omega))], rfl, rfl⟩⟩, rfl, hs.updU⟩⟩
        have G1 : decide (((n1 : Nat) : Int) > 56319) = false := decide_eq_false (by omega)
        have G2 : (decide (((n1 : Nat) : Int) > 56319) == false) = true := by rw [G1]; rfl
        have L1 : decide (((n3 : Nat) : Int) < 56320) = false := decide_eq_false (by omega)
        have L2 : (decide (((n3 : Nat) : Int) < 56320) == false) = true := by rw [L1]; rfl
        have M1 : decide (((n3 : Nat) : Int) > 57343) = false := decide_eq_false (by omega)
        have M2 : (decide (((n3 : Nat) : Int) > 57343) == false) = true := by rw [M1]; rfl
        refine ld1 0 rfl (v := .bool false) rfl ?_
        refine ct rfl ?_
        refine ct rfl ?_
        refine cf rfl ?_
        refine ct G2 ?_
        refine ct G2 ?_
        refine cf G1 ?_
        refine ct L2 ?_
        refine ct L2 ?_
        refine cf L1 ?_
        refine cf M1 ?_
        refine .as (((n1 - 55296 : Nat) : Int)) (by omega) (by simp only [mn]; omega) (by simp only [mx]; omega) ?_
        refine .as (((1024 * (n1 - 55296) : Nat) : Int)) (by omega) (by simp only [mn]; omega) (by simp only [mx]; omega) ?_
        refine .as (((65536 + 1024 * (n1 - 55296) : Nat) : Int)) (by omega) (by simp only [mn]; omega) (by simp only [mx]; omega) ?_
        refine .as (((65536 + 1024 * (n1 - 55296) + n3 : Nat) : Int)) (by omega) (by simp only [mn]; omega) (by simp only [mx]; omega) ?_
        refine .as (((65536 + (n1 - 55296) * 1024 + n3 - 56320 : Nat) : Int)) (by omega) (by simp only [mn]; omega) (by simp only [mx]; omega) ?_
        exact ⟨fun w' hs => ⟨⟨65536 + (n1 - 55296) * 1024 + n3 - 56320, p3, false⟩, ⟨by dsimp only; omega, by dsimp only; omega, by dsimp only; omega, .inr ⟨by rw [hsp, hsig, if_neg (by omega), hx2]; dsimp only; rw [hx3]; dsimp only; rw [if_neg (by omega)], hp3, rfl⟩⟩, rfl, hs.updU⟩⟩
end
end Go.Proofs.YtpegkoklmhccjaaDoor
end
section
namespace Go.Proofs.YtpegkoklmhccjaaDoor
open Go.RowKit Go.Sx
set_option linter.unusedVariables false
structure NX where
  i : Int
  p : Nat
  bad : Bool
def NxF (o : Option (Int × Bs)) (l : Bs) (at' : Nat) (x : NX) : Prop := at' ≤ x.p ∧ x.p ≤ l.length ∧ (-9223372036854775808 < x.i ∧ x.i < 9223372036854775808) ∧ ((o = none ∧ x.bad = true) ∨ (o = some (x.i, l.drop x.p) ∧ x.bad = false))
theorem valD_head {l : Bs} {c : UInt8} (h : (l.foldl valD 0 : Nat) = 0) (hh : l.all isDig = true) (hl : l.head? = some c) : c = 48 := by
  cases l with
  | nil => cases hl
  | cons x t =>
    obtain rfl : x = c := by simpa using hl
    have h1 := valD_ge t (valD 0 x)
    have h2 : t.foldl valD (valD 0 x) = 0 := h
    simp only [List.all_cons, Bool.and_eq_true] at hh
    have h3 := hh.1
    simp only [isDig, Bool.and_eq_true, decide_eq_true_eq] at h3
    unfold valD at h1 h2
    apply UInt8.toNat_inj.1
    have : (48 : UInt8).toNat = 48 := rfl
    omega
theorem valD_one {l : Bs} {c : UInt8} (hl : l.length = 1) (hh : l.head? = some c) (h : c = 48) : (l.foldl valD 0 : Nat) = 0 := by
  match l, hl with
  | [x], _ =>
    obtain rfl : x = c := by simpa using hh
    subst h; rfl
section
variable {va : Option Addr} {ca : Nat} {l : Bs} {at' : Nat} {b : Nat} {w : World}
set_option maxRecDepth 100000 in
set_option maxHeartbeats 4000000 in
theorem number_ref (hl : l.length ≤ 100000) (ha : at' ≤ l.length) (hb : w.heap[b]? = some (.cells (tC va ca l at' false) TT (0, 0))) (h : Rd w (.slice va l.length ca) (Lib.byteCells l)) : Calls Tryd.prog 41 ([pj b] : List Value).toArray w fun e w' => ∃ x : NX, NxF (numP (l.drop at')) l at' x ∧ e = .returned (.int .i64 x.i) ∧ Upd b (tC va ca l x.p x.bad) TT w w' := by
  refine enterUs (c := fun x : NX => tC va ca l x.p x.bad) (v := fun x => .int .i64 x.i) tab_ok Tryd.func41 rfl Tryd.ntmps41 rfl (St.rdX hb h) ?_
  have hnx := fun (w : World) (hb : w.heap[b]? = some (.cells (tC va ca l at' false) TT (0, 0))) (h : Rd w (.slice va l.length ca) (Lib.byteCells l)) => next_any hb h
  refine cvs (fun w hs => hnx w (hs.nth (k := 0) rfl) (hs.res (k := 1) rfl)) ?_
  by_cases h45 : nx (l.drop at') = 45
  refine ct (by rw [h45]; rfl) ?_
  obtain ⟨fr, hfr⟩ : ∃ fr, fr = at' + 1 := ⟨_, rfl⟩
  obtain ⟨sg, hsg⟩ : ∃ sg : Int, sg = -1 := ⟨_, rfl⟩
  obtain ⟨m, hm⟩ : ∃ m : Bool, m = true := ⟨_, rfl⟩
  obtain ⟨hnum, hlf⟩ : numP (l.drop at') = numQ m (l.drop fr) ∧ fr ≤ l.length := by
    cases hs : l.drop at' with
    | nil => rw [hs] at h45; cases h45
    | cons c t =>
      rw [hs] at h45
      have hc : (c.toNat : Int) = 45 := h45
      obtain rfl : c = 45 := UInt8.toNat_inj.1 (by have : (45 : UInt8).toNat = 45 := rfl; omega)
      have hdr : l.drop fr = t := by rw [hfr, ← List.drop_drop, hs]; rfl
      refine ⟨by rw [hm, hdr]; rfl, ?_⟩
      rcases Nat.lt_or_ge at' l.length with h | h
      · omega
      · rw [List.drop_of_length_le h] at hs; cases hs
  refine ld1 0 rfl rfl ?_
  refine .as (((fr : Nat) : Int)) (by omega) (by simp only [mn]; omega) (by simp only [mx]; omega) ?_
  refine s1 0 rfl (by show 1 < 3; decide) ?_
  have hsgm : (m = true ∧ sg = -1) ∨ (m = false ∧ sg = 1) := .inl ⟨hm, hsg⟩
  have hafr : at' ≤ fr := by omega
  clear hm hfr
  rotate_left
  refine cf (by rw [beq_eq_false_iff_ne]; exact h45) ?_
  obtain ⟨fr, hfr⟩ : ∃ fr, fr = at' := ⟨_, rfl⟩
  obtain ⟨sg, hsg⟩ : ∃ sg : Int, sg = 1 := ⟨_, rfl⟩
  obtain ⟨m, hm⟩ : ∃ m : Bool, m = false := ⟨_, rfl⟩
  obtain ⟨hnum, hlf⟩ : numP (l.drop at') = numQ m (l.drop fr) ∧ fr ≤ l.length := by
    refine ⟨?_, by omega⟩
    rw [hm, hfr]
    have hh : ((l.drop at').head? == some 45) = false := by
      cases hs : l.drop at' with
      | nil => rfl
      | cons c t =>
        rw [hs] at h45
        have hc : ¬ (c.toNat : Int) = 45 := h45
        simp only [List.head?_cons]
        rw [beq_eq_false_iff_ne]
        intro e
        injection e with e
        exact hc (by rw [e]; rfl)
    unfold numP
    rw [hh]
    simp
  have hsgm : (m = true ∧ sg = -1) ∨ (m = false ∧ sg = 1) := .inr ⟨hm, hsg⟩
  have hafr : at' ≤ fr := by omega
  have hcl : cl b (tC va ca l at' false) TT = cl b (tC va ca l fr false) TT := by rw [hfr]
  rw [hcl]
  clear hm hfr hcl
  rotate_left
  all_goals
    refine ld1 0 rfl rfl ?_
    rw [hnum]
    refine lp tab_ok (fun x : Nat × Nat × Bool => fr ≤ x.1 ∧ x.1 ≤ l.length ∧ ((l.drop fr).take (x.1 - fr)).all isDig = true ∧ x.2.1 ≤ MAXI ∧ ((x.2.2 = false ∧ x.2.1 = ((l.drop fr).take (x.1 - fr)).foldl valD 0) ∨ (x.2.2 = true ∧ MAXI < ((l.drop fr).take (x.1 - fr)).foldl valD 0))) (fun x => ⟨[(0, pj b), (3, .int .i64 sg), (4, .int .i64 ((fr : Nat) : Int)), (5, .int .i64 ((x.2.1 : Nat) : Int))], [cl b (tC va ca l x.1 x.2.2) TT, rs (rdB va ca l)], []⟩) (fun x => l.length - x.1) (fr, 0, false) ⟨Nat.le_refl _, hlf, by simp, Nat.zero_le _, .inl ⟨rfl, by simp⟩⟩ ⟨⟨rfl, by subst hsg; rfl, rfl, rfl, trivial⟩, .cons (.cons .nil), rfl⟩ ?_
    rintro ⟨q, n, bd⟩ ⟨hq1, hq2, hall, hn, hV⟩
    dsimp only at hq1 hq2 hall hn hV
    have hnM : n ≤ 9007199254740991 := hn
    refine cvs (fun w hs => figure_any (hs.nth (k := 0) rfl) (hs.res (k := 1) rfl)) ?_
    cases hdq : hd (l.drop q) with
    | true =>
      obtain ⟨c, t, hs⟩ : ∃ c t, l.drop q = c :: t := by
        cases hs : l.drop q with
        | nil => rw [hs] at hdq; cases hdq
        | cons c t => exact ⟨c, t, rfl⟩
      rw [hs] at hdq
      have hdg : isDig c = true := hdq
      have hdg2 : 48 ≤ c.toNat ∧ c.toNat ≤ 57 := by simpa [isDig] using hdg
      have hltl : q < l.length := by
        rcases Nat.lt_or_ge q l.length with h | h
        · exact h
        · rw [List.drop_of_length_le h] at hs; cases hs
      have hc0 : l[q]? = some c := by have := congrArg List.head? hs; rwa [List.head?_drop] at this
      have htk : (l.drop fr).take (q + 1 - fr) = (l.drop fr).take (q - fr) ++ [c] := by
        rw [show q + 1 - fr = (q - fr) + 1 by omega, List.take_add_one, List.getElem?_drop, show fr + (q - fr) = q by omega, hc0]; rfl
      have hall2 : ((l.drop fr).take (q + 1 - fr)).all isDig = true := by rw [htk, List.all_append, hall]; simp [hdg]
      have hV2 : ((l.drop fr).take (q + 1 - fr)).foldl valD 0 = 10 * ((l.drop fr).take (q - fr)).foldl valD 0 + (c.toNat - 48) := by rw [htk, List.foldl_append]; rfl
      have hnx := fun (w : World) (hb : w.heap[b]? = some (.cells (tC va ca l q bd) TT (0, 0))) (h : Rd w (.slice va l.length ca) (Lib.byteCells l)) => next_any hb h
      rw [hs, show nx (c :: t) = (c.toNat : Int) from rfl] at hnx
      refine ct rfl ?_
      refine .as ((10 * n : Nat) : Int) (by dsimp only; omega) (by simp only [mn]; omega) (by simp only [mx]; omega) ?_
      refine cvs (fun w hs => hnx w (hs.nth (k := 0) rfl) (hs.res (k := 1) rfl)) ?_
      refine .as (((10 * n + c.toNat : Nat) : Int)) (by omega) (by simp only [mn]; omega) (by simp only [mx]; omega) ?_
      refine .as (((10 * n + (c.toNat - 48) : Nat) : Int)) (by omega) (by simp only [mn]; omega) (by simp only [mx]; omega) ?_
      refine cd (fun hov => ?_) (fun hov => ?_)
      · refine s1 0 rfl (by show 2 < 3; decide) ?_
        refine ld1 0 rfl rfl ?_
        refine .as (((q + 1 : Nat) : Int)) (by omega) (by simp only [mn]; omega) (by simp only [mx]; omega) ?_
        refine s1 0 rfl (by show 1 < 3; decide) ?_
        exact ⟨(q + 1, 0, true), ⟨by dsimp only; omega, by dsimp only; omega, hall2, Nat.zero_le _, .inr ⟨rfl, by
          show MAXI < _
          rw [hV2]; rcases hV with ⟨_, hV⟩ | ⟨_, hV⟩
          · rw [← hV]; show 9007199254740991 < _; omega
          · omega⟩⟩, by dsimp only; omega, ⟨⟨rfl, rfl, rfl, rfl, trivial⟩, .cons (.cons .nil), rfl⟩⟩
      · refine ld1 0 rfl rfl ?_
        refine .as (((q + 1 : Nat) : Int)) (by omega) (by simp only [mn]; omega) (by simp only [mx]; omega) ?_
        refine s1 0 rfl (by show 1 < 3; decide) ?_
        exact ⟨(q + 1, 10 * n + (c.toNat - 48), bd), ⟨by dsimp only; omega, by dsimp only; omega, hall2, by show 10 * n + (c.toNat - 48) ≤ 9007199254740991; omega, by
          rcases hV with ⟨h1, hV⟩ | ⟨h1, hV⟩
          · exact .inl ⟨h1, by dsimp only; rw [hV2, ← hV]⟩
          · exact .inr ⟨h1, by dsimp only; rw [hV2]; omega⟩⟩, by dsimp only; omega, ⟨⟨rfl, rfl, rfl, rfl, trivial⟩, .cons (.cons .nil), rfl⟩⟩
    | false =>
      refine cf rfl ?_
      refine ld1 0 rfl rfl ?_
      refine .as (((q - fr : Nat) : Int)) (by omega) (by simp only [mn]; omega) (by simp only [mx]; omega) ?_
      have hsplit : (l.drop fr).take (q - fr) ++ l.drop q = l.drop fr := by
        have h1 := List.take_append_drop (q - fr) (l.drop fr)
        rwa [List.drop_drop, show fr + (q - fr) = q by omega] at h1
      obtain ⟨t1, t2⟩ := span_dig _ _ _ hsplit hall hdq
      have hq0 : ∀ m, numQ m (l.drop fr) = if (l.drop fr).take (q - fr) = [] ∨ MAXI < ((l.drop fr).take (q - fr)).foldl valD 0 ∨ (((l.drop fr).take (q - fr)).head? = some 48 ∧ (1 < ((l.drop fr).take (q - fr)).length ∨ m = true)) then none else some (if m then -((((l.drop fr).take (q - fr)).foldl valD 0 : Nat) : Int) else ((((l.drop fr).take (q - fr)).foldl valD 0 : Nat) : Int), l.drop q) := fun m => by
        unfold numQ; rw [t1, t2]
      have hmany : ((l.drop fr).take (q - fr)).length = q - fr := by rw [List.length_take, List.length_drop]; omega
      clear hsg
      rcases hsgm with ⟨rfl, rfl⟩ | ⟨rfl, rfl⟩
      · have hq := hq0 true
        by_cases hA : q = fr
        case pos =>
          have hpe : (l.drop fr).take (q - fr) = [] := by rw [hA]; simp
          have A1 : (((q - fr : Nat) : Int) == 0) = true := by rw [hA, Nat.sub_self]; rfl
          have A2 : ((((q - fr : Nat) : Int) == 0) == false) = false := by rw [A1]; rfl
          refine cf A2 ?_
          refine cf A2 ?_
          refine cf A2 ?_
          refine cf A2 ?_
          refine ct A1 ?_
          refine cf rfl ?_
          refine cf rfl ?_
          refine cf rfl ?_
          refine cf rfl ?_
          refine ct rfl ?_
          refine ct rfl ?_
          refine s1 0 rfl (by show 2 < 3; decide) ?_
          refine .as (-1 * (n : Int)) rfl (by simp only [mn]; omega) (by simp only [mx]; omega) ?_
          exact ⟨fun w' hs => ⟨⟨(-1 * (n : Int)), q, true⟩, ⟨by dsimp only; omega, by dsimp only; omega, by dsimp only; omega, .inl ⟨by rw [hq, if_pos (.inl hpe)], rfl⟩⟩, rfl, hs.updU⟩⟩
        have A1 : (((q - fr : Nat) : Int) == 0) = false := by rw [beq_eq_false_iff_ne]; omega
        have A2 : ((((q - fr : Nat) : Int) == 0) == false) = true := by rw [A1]; rfl
        obtain ⟨c0, hc0⟩ : ∃ c0, l[fr]? = some c0 := ⟨_, List.getElem?_eq_getElem (by omega : fr < l.length)⟩
        have hcv : (Lib.byteCells l)[fr]? = some (.int .u8 c0.toNat) := by simp only [Lib.byteCells, List.getElem?_map, hc0]; rfl
        obtain ⟨ba, ob, rfl⟩ := h.addr (fun e => by rw [e] at hcv; cases hcv)
        have hph : ((l.drop fr).take (q - fr)).head? = some c0 := by rw [List.head?_take, if_neg (by omega), List.head?_drop]; exact hc0
        have hpn : (l.drop fr).take (q - fr) ≠ [] := fun e => by rw [e] at hph; cases hph
        by_cases hB : q - fr > 1
        case pos =>
          have B1 : decide (((q - fr : Nat) : Int) > 1) = true := decide_eq_true (by omega)
          have B2 : (decide (((q - fr : Nat) : Int) > 1) == true) = true := by rw [B1]; rfl
          by_cases hC : c0 = 48
          case pos =>
            have C1 : ((c0.toNat : Int) == 48) = true := ceT 48 rfl hC
            have C2 : (((c0.toNat : Int) == 48) == false) = false := by rw [C1]; rfl
            refine ct A2 ?_
            refine ct A2 ?_
            refine ct A2 ?_
            refine ct B2 ?_
            refine ct B2 ?_
            refine ct B2 ?_
            refine ct B2 ?_
            refine ld1 0 rfl rfl ?_
            refine ct B2 ?_
            refine ct B2 ?_
            refine ⟨by omega, by omega, ?_⟩
            refine ct B2 ?_
            refine .mk (.int .u8 c0.toNat) (fun w' hs => Rd.at (hs.res (k := 1) rfl : Rd w' _ _) hcv rfl) ?_
            refine ct B2 ?_
            refine ct A2 ?_
            refine ct B1 ?_
            refine cf A1 ?_
            refine cf C2 ?_
            refine cf C2 ?_
            refine cf C2 ?_
            refine cf C2 ?_
            refine ct C1 ?_
            refine ct rfl ?_
            refine s1 0 rfl (by show 2 < 3; decide) ?_
            refine .as (-1 * (n : Int)) rfl (by simp only [mn]; omega) (by simp only [mx]; omega) ?_
            exact ⟨fun w' hs => ⟨⟨(-1 * (n : Int)), q, true⟩, ⟨by dsimp only; omega, by dsimp only; omega, by dsimp only; omega, .inl ⟨by rw [hq, if_pos (.inr (.inr ⟨by rw [hph, hC], .inl (by omega)⟩))], rfl⟩⟩, rfl, hs.updU⟩⟩
          have C1 : ((c0.toNat : Int) == 48) = false := ceF 48 rfl hC
          have C2 : (((c0.toNat : Int) == 48) == false) = true := by rw [C1]; rfl
          by_cases hD : n = 0
          case pos =>
            have D1 : (((n : Nat) : Int) == 0) = true := by rw [hD]; rfl
            have D2 : ((((n : Nat) : Int) == 0) == true) = true := by rw [D1]; rfl
            refine ct A2 ?_
            refine ct A2 ?_
            refine ct A2 ?_
            refine ct B2 ?_
            refine ct B2 ?_
            refine ct B2 ?_
            refine ct B2 ?_
            refine ld1 0 rfl rfl ?_
            refine ct B2 ?_
            refine ct B2 ?_
            refine ⟨by omega, by omega, ?_⟩
            refine ct B2 ?_
            refine .mk (.int .u8 c0.toNat) (fun w' hs => Rd.at (hs.res (k := 1) rfl : Rd w' _ _) hcv rfl) ?_
            refine ct B2 ?_
            refine ct A2 ?_
            refine ct B1 ?_
            refine cf A1 ?_
            refine ct C2 ?_
            refine ct C2 ?_
            refine ct C2 ?_
            refine ct D2 ?_
            refine ct D2 ?_
            refine ct C2 ?_
            refine ct D1 ?_
            refine cf C1 ?_
            refine ct rfl ?_
            refine s1 0 rfl (by show 2 < 3; decide) ?_
            refine .as (-1 * (n : Int)) rfl (by simp only [mn]; omega) (by simp only [mx]; omega) ?_
            exact ⟨fun w' hs => ⟨⟨(-1 * (n : Int)), q, true⟩, ⟨by dsimp only; omega, by dsimp only; omega, by dsimp only; omega, .inl ⟨by
                rcases hV with ⟨_, hV⟩ | ⟨_, hV⟩
                · rw [hq, if_pos (.inr (.inr ⟨by rw [hph, valD_head (by rw [← hV]; exact hD) hall hph], .inr rfl⟩))]
                · rw [hq, if_pos (.inr (.inl hV))], rfl⟩⟩, rfl, hs.updU⟩⟩
          have D1 : (((n : Nat) : Int) == 0) = false := by rw [beq_eq_false_iff_ne]; omega
          have D2 : ((((n : Nat) : Int) == 0) == true) = false := by rw [D1]; rfl
          refine ct A2 ?_
          refine ct A2 ?_
          refine ct A2 ?_
          refine ct B2 ?_
          refine ct B2 ?_
          refine ct B2 ?_
          refine ct B2 ?_
          refine ld1 0 rfl rfl ?_
          refine ct B2 ?_
          refine ct B2 ?_
          refine ⟨by omega, by omega, ?_⟩
          refine ct B2 ?_
          refine .mk (.int .u8 c0.toNat) (fun w' hs => Rd.at (hs.res (k := 1) rfl : Rd w' _ _) hcv rfl) ?_
          refine ct B2 ?_
          refine ct A2 ?_
          refine ct B1 ?_
          refine cf A1 ?_
          refine ct C2 ?_
          refine ct C2 ?_
          refine ct C2 ?_
          refine cf D2 ?_
          refine cf D2 ?_
          refine ct C2 ?_
          refine cf D1 ?_
          refine cf C1 ?_
          refine cf rfl ?_
          refine .as (-1 * (n : Int)) rfl (by simp only [mn]; omega) (by simp only [mx]; omega) ?_
          rcases hV with ⟨rfl, hV⟩ | ⟨rfl, hV⟩
          · have hqs : numQ true (l.drop fr) = some ((-1 * (n : Int)), l.drop q) := by
              rw [hq, if_neg]
              · rw [hV]; simp
              · rintro (h1 | h1 | ⟨h1, h2⟩)
                · exact hpn h1
                · omega
                · rw [hph] at h1; injection h1 with h1; exact hC h1
            exact ⟨fun w' hs => ⟨⟨(-1 * (n : Int)), q, false⟩, ⟨by dsimp only; omega, by dsimp only; omega, by dsimp only; omega, .inr ⟨hqs, rfl⟩⟩, rfl, hs.updU⟩⟩
          · exact ⟨fun w' hs => ⟨⟨(-1 * (n : Int)), q, true⟩, ⟨by dsimp only; omega, by dsimp only; omega, by dsimp only; omega, .inl ⟨by rw [hq, if_pos (.inr (.inl hV))], rfl⟩⟩, rfl, hs.updU⟩⟩
        have B1 : decide (((q - fr : Nat) : Int) > 1) = false := decide_eq_false (by omega)
        have B2 : (decide (((q - fr : Nat) : Int) > 1) == true) = false := by rw [B1]; rfl
        have hlen1 : ((l.drop fr).take (q - fr)).length = 1 := by rw [List.length_take, List.length_drop]; omega
        by_cases hD : n = 0
        case pos =>
          have D1 : (((n : Nat) : Int) == 0) = true := by rw [hD]; rfl
          have D2 : ((((n : Nat) : Int) == 0) == true) = true := by rw [D1]; rfl
          refine ct A2 ?_
          refine ct A2 ?_
          refine ct A2 ?_
          refine cf B2 ?_
          refine cf B2 ?_
          refine cf B2 ?_
          refine cf B2 ?_
          refine cf B2 ?_
          refine cf B2 ?_
          refine cf B2 ?_
          refine cf B2 ?_
          refine ct A2 ?_
          refine cf B1 ?_
          refine cf A1 ?_
          refine ct rfl ?_
          refine ct rfl ?_
          refine ct rfl ?_
          refine ct D2 ?_
          refine ct D2 ?_
          refine ct rfl ?_
          refine ct D1 ?_
          refine cf rfl ?_
          refine ct rfl ?_
          refine s1 0 rfl (by show 2 < 3; decide) ?_
          refine .as (-1 * (n : Int)) rfl (by simp only [mn]; omega) (by simp only [mx]; omega) ?_
          exact ⟨fun w' hs => ⟨⟨(-1 * (n : Int)), q, true⟩, ⟨by dsimp only; omega, by dsimp only; omega, by dsimp only; omega, .inl ⟨by
              rcases hV with ⟨_, hV⟩ | ⟨_, hV⟩
              · rw [hq, if_pos (.inr (.inr ⟨by rw [hph, valD_head (by rw [← hV]; exact hD) hall hph], .inr rfl⟩))]
              · rw [hq, if_pos (.inr (.inl hV))], rfl⟩⟩, rfl, hs.updU⟩⟩
        have D1 : (((n : Nat) : Int) == 0) = false := by rw [beq_eq_false_iff_ne]; omega
        have D2 : ((((n : Nat) : Int) == 0) == true) = false := by rw [D1]; rfl
        refine ct A2 ?_
        refine ct A2 ?_
        refine ct A2 ?_
        refine cf B2 ?_
        refine cf B2 ?_
        refine cf B2 ?_
        refine cf B2 ?_
        refine cf B2 ?_
        refine cf B2 ?_
        refine cf B2 ?_
        refine cf B2 ?_
        refine ct A2 ?_
        refine cf B1 ?_
        refine cf A1 ?_
        refine ct rfl ?_
        refine ct rfl ?_
        refine ct rfl ?_
        refine cf D2 ?_
        refine cf D2 ?_
        refine ct rfl ?_
        refine cf D1 ?_
        refine cf rfl ?_
        refine cf rfl ?_
        refine .as (-1 * (n : Int)) rfl (by simp only [mn]; omega) (by simp only [mx]; omega) ?_
        rcases hV with ⟨rfl, hV⟩ | ⟨rfl, hV⟩
        · have hqs : numQ true (l.drop fr) = some ((-1 * (n : Int)), l.drop q) := by
            rw [hq, if_neg]
            · rw [hV]; simp
            · rintro (h1 | h1 | ⟨h1, h2⟩)
              · exact hpn h1
              · omega
              · rw [hph] at h1; injection h1 with h1; exact hD (by rw [hV]; exact valD_one hlen1 hph h1)
          exact ⟨fun w' hs => ⟨⟨(-1 * (n : Int)), q, false⟩, ⟨by dsimp only; omega, by dsimp only; omega, by dsimp only; omega, .inr ⟨hqs, rfl⟩⟩, rfl, hs.updU⟩⟩
        · exact ⟨fun w' hs => ⟨⟨(-1 * (n : Int)), q, true⟩, ⟨by dsimp only; omega, by dsimp only; omega, by dsimp only; omega, .inl ⟨by rw [hq, if_pos (.inr (.inl hV))], rfl⟩⟩, rfl, hs.updU⟩⟩
      · have hq := hq0 false
        by_cases hA : q = fr
        case pos =>
          have hpe : (l.drop fr).take (q - fr) = [] := by rw [hA]; simp
          have A1 : (((q - fr : Nat) : Int) == 0) = true := by rw [hA, Nat.sub_self]; rfl
          have A2 : ((((q - fr : Nat) : Int) == 0) == false) = false := by rw [A1]; rfl
          refine cf A2 ?_
          refine cf A2 ?_
          refine cf A2 ?_
          refine cf A2 ?_
          refine ct A1 ?_
          refine cf rfl ?_
          refine cf rfl ?_
          refine cf rfl ?_
          refine cf rfl ?_
          refine ct rfl ?_
          refine ct rfl ?_
          refine s1 0 rfl (by show 2 < 3; decide) ?_
          refine .as (1 * (n : Int)) rfl (by simp only [mn]; omega) (by simp only [mx]; omega) ?_
          exact ⟨fun w' hs => ⟨⟨(1 * (n : Int)), q, true⟩, ⟨by dsimp only; omega, by dsimp only; omega, by dsimp only; omega, .inl ⟨by rw [hq, if_pos (.inl hpe)], rfl⟩⟩, rfl, hs.updU⟩⟩
        have A1 : (((q - fr : Nat) : Int) == 0) = false := by rw [beq_eq_false_iff_ne]; omega
        have A2 : ((((q - fr : Nat) : Int) == 0) == false) = true := by rw [A1]; rfl
        obtain ⟨c0, hc0⟩ : ∃ c0, l[fr]? = some c0 := ⟨_, List.getElem?_eq_getElem (by omega : fr < l.length)⟩
        have hcv : (Lib.byteCells l)[fr]? = some (.int .u8 c0.toNat) := by simp only [Lib.byteCells, List.getElem?_map, hc0]; rfl
        obtain ⟨ba, ob, rfl⟩ := h.addr (fun e => by rw [e] at hcv; cases hcv)
        have hph : ((l.drop fr).take (q - fr)).head? = some c0 := by rw [List.head?_take, if_neg (by omega), List.head?_drop]; exact hc0
        have hpn : (l.drop fr).take (q - fr) ≠ [] := fun e => by rw [e] at hph; cases hph
        by_cases hB : q - fr > 1
        case pos =>
          have B1 : decide (((q - fr : Nat) : Int) > 1) = true := decide_eq_true (by omega)
          have B2 : (decide (((q - fr : Nat) : Int) > 1) == true) = true := by rw [B1]; rfl
          by_cases hC : c0 = 48
          case pos =>
            have C1 : ((c0.toNat : Int) == 48) = true := ceT 48 rfl hC
            have C2 : (((c0.toNat : Int) == 48) == false) = false := by rw [C1]; rfl
            refine ct A2 ?_
            refine ct A2 ?_
            refine ct A2 ?_
            refine ct B2 ?_
            refine ct B2 ?_
            refine ct B2 ?_
            refine ct B2 ?_
            refine ld1 0 rfl rfl ?_
            refine ct B2 ?_
            refine ct B2 ?_
            refine ⟨by omega, by omega, ?_⟩
            refine ct B2 ?_
            refine .mk (.int .u8 c0.toNat) (fun w' hs => Rd.at (hs.res (k := 1) rfl : Rd w' _ _) hcv rfl) ?_
            refine ct B2 ?_
            refine ct A2 ?_
            refine ct B1 ?_
            refine cf A1 ?_
            refine cf C2 ?_
            refine cf C2 ?_
            refine cf C2 ?_
            refine cf C2 ?_
            refine ct C1 ?_
            refine ct rfl ?_
            refine s1 0 rfl (by show 2 < 3; decide) ?_
            refine .as (1 * (n : Int)) rfl (by simp only [mn]; omega) (by simp only [mx]; omega) ?_
            exact ⟨fun w' hs => ⟨⟨(1 * (n : Int)), q, true⟩, ⟨by dsimp only; omega, by dsimp only; omega, by dsimp only; omega, .inl ⟨by rw [hq, if_pos (.inr (.inr ⟨by rw [hph, hC], .inl (by omega)⟩))], rfl⟩⟩, rfl, hs.updU⟩⟩
          have C1 : ((c0.toNat : Int) == 48) = false := ceF 48 rfl hC
          have C2 : (((c0.toNat : Int) == 48) == false) = true := by rw [C1]; rfl
          by_cases hD : n = 0
          case pos =>
            have D1 : (((n : Nat) : Int) == 0) = true := by rw [hD]; rfl
            have D2 : ((((n : Nat) : Int) == 0) == true) = true := by rw [D1]; rfl
            refine ct A2 ?_
            refine ct A2 ?_
            refine ct A2 ?_
            refine ct B2 ?_
            refine ct B2 ?_
            refine ct B2 ?_
            refine ct B2 ?_
            refine ld1 0 rfl rfl ?_
            refine ct B2 ?_
            refine ct B2 ?_
            refine ⟨by omega, by omega, ?_⟩
            refine ct B2 ?_
            refine .mk (.int .u8 c0.toNat) (fun w' hs => Rd.at (hs.res (k := 1) rfl : Rd w' _ _) hcv rfl) ?_
            refine ct B2 ?_
            refine ct A2 ?_
            refine ct B1 ?_
            refine cf A1 ?_
            refine ct C2 ?_
            refine ct C2 ?_
            refine ct C2 ?_
            refine ct D2 ?_
            refine ct D2 ?_
            refine ct C2 ?_
            refine ct D1 ?_
            refine cf C1 ?_
            refine cf rfl ?_
            refine .as (1 * (n : Int)) rfl (by simp only [mn]; omega) (by simp only [mx]; omega) ?_
            rcases hV with ⟨rfl, hV⟩ | ⟨rfl, hV⟩
            · have hqs : numQ false (l.drop fr) = some ((1 * (n : Int)), l.drop q) := by
                rw [hq, if_neg]
                · rw [hV]; simp
                · rintro (h1 | h1 | ⟨h1, h2⟩)
                  · exact hpn h1
                  · omega
                  · rw [hph] at h1; injection h1 with h1; exact hC h1
              exact ⟨fun w' hs => ⟨⟨(1 * (n : Int)), q, false⟩, ⟨by dsimp only; omega, by dsimp only; omega, by dsimp only; omega, .inr ⟨hqs, rfl⟩⟩, rfl, hs.updU⟩⟩
            · exact ⟨fun w' hs => ⟨⟨(1 * (n : Int)), q, true⟩, ⟨by dsimp only; omega, by dsimp only; omega, by dsimp only; omega, .inl ⟨by rw [hq, if_pos (.inr (.inl hV))], rfl⟩⟩, rfl, hs.updU⟩⟩
          have D1 : (((n : Nat) : Int) == 0) = false := by rw [beq_eq_false_iff_ne]; omega
          have D2 : ((((n : Nat) : Int) == 0) == true) = false := by rw [D1]; rfl
          refine ct A2 ?_
          refine ct A2 ?_
          refine ct A2 ?_
          refine ct B2 ?_
          refine ct B2 ?_
          refine ct B2 ?_
          refine ct B2 ?_
          refine ld1 0 rfl rfl ?_
          refine ct B2 ?_
          refine ct B2 ?_
          refine ⟨by omega, by omega, ?_⟩
          refine ct B2 ?_
          refine .mk (.int .u8 c0.toNat) (fun w' hs => Rd.at (hs.res (k := 1) rfl : Rd w' _ _) hcv rfl) ?_
          refine ct B2 ?_
          refine ct A2 ?_
          refine ct B1 ?_
          refine cf A1 ?_
          refine ct C2 ?_
          refine ct C2 ?_
          refine ct C2 ?_
          refine cf D2 ?_
          refine cf D2 ?_
          refine ct C2 ?_
          refine cf D1 ?_
          refine cf C1 ?_
          refine cf rfl ?_
          refine .as (1 * (n : Int)) rfl (by simp only [mn]; omega) (by simp only [mx]; omega) ?_
          rcases hV with ⟨rfl, hV⟩ | ⟨rfl, hV⟩
          · have hqs : numQ false (l.drop fr) = some ((1 * (n : Int)), l.drop q) := by
              rw [hq, if_neg]
              · rw [hV]; simp
              · rintro (h1 | h1 | ⟨h1, h2⟩)
                · exact hpn h1
                · omega
                · rw [hph] at h1; injection h1 with h1; exact hC h1
            exact ⟨fun w' hs => ⟨⟨(1 * (n : Int)), q, false⟩, ⟨by dsimp only; omega, by dsimp only; omega, by dsimp only; omega, .inr ⟨hqs, rfl⟩⟩, rfl, hs.updU⟩⟩
          · exact ⟨fun w' hs => ⟨⟨(1 * (n : Int)), q, true⟩, ⟨by dsimp only; omega, by dsimp only; omega, by dsimp only; omega, .inl ⟨by rw [hq, if_pos (.inr (.inl hV))], rfl⟩⟩, rfl, hs.updU⟩⟩
        have B1 : decide (((q - fr : Nat) : Int) > 1) = false := decide_eq_false (by omega)
        have B2 : (decide (((q - fr : Nat) : Int) > 1) == true) = false := by rw [B1]; rfl
        have hlen1 : ((l.drop fr).take (q - fr)).length = 1 := by rw [List.length_take, List.length_drop]; omega
        by_cases hD : n = 0
        case pos =>
          have D1 : (((n : Nat) : Int) == 0) = true := by rw [hD]; rfl
          have D2 : ((((n : Nat) : Int) == 0) == true) = true := by rw [D1]; rfl
          refine ct A2 ?_
          refine ct A2 ?_
          refine ct A2 ?_
          refine cf B2 ?_
          refine cf B2 ?_
          refine cf B2 ?_
          refine cf B2 ?_
          refine cf B2 ?_
          refine cf B2 ?_
          refine cf B2 ?_
          refine cf B2 ?_
          refine ct A2 ?_
          refine cf B1 ?_
          refine cf A1 ?_
          refine ct rfl ?_
          refine ct rfl ?_
          refine ct rfl ?_
          refine ct D2 ?_
          refine ct D2 ?_
          refine ct rfl ?_
          refine ct D1 ?_
          refine cf rfl ?_
          refine cf rfl ?_
          refine .as (1 * (n : Int)) rfl (by simp only [mn]; omega) (by simp only [mx]; omega) ?_
          rcases hV with ⟨rfl, hV⟩ | ⟨rfl, hV⟩
          · have hqs : numQ false (l.drop fr) = some ((1 * (n : Int)), l.drop q) := by
              rw [hq, if_neg]
              · rw [hV]; simp
              · rintro (h1 | h1 | ⟨h1, h2⟩)
                · exact hpn h1
                · omega
                · rw [hph] at h1; injection h1 with h1; exact absurd h2 (by rintro (h2 | h2); exact absurd h2 (by omega); cases h2)
            exact ⟨fun w' hs => ⟨⟨(1 * (n : Int)), q, false⟩, ⟨by dsimp only; omega, by dsimp only; omega, by dsimp only; omega, .inr ⟨hqs, rfl⟩⟩, rfl, hs.updU⟩⟩
          · exact ⟨fun w' hs => ⟨⟨(1 * (n : Int)), q, true⟩, ⟨by dsimp only; omega, by dsimp only; omega, by dsimp only; omega, .inl ⟨by rw [hq, if_pos (.inr (.inl hV))], rfl⟩⟩, rfl, hs.updU⟩⟩
        have D1 : (((n : Nat) : Int) == 0) = false := by rw [beq_eq_false_iff_ne]; omega
        have D2 : ((((n : Nat) : Int) == 0) == true) = false := by rw [D1]; rfl
        refine ct A2 ?_
        refine ct A2 ?_
        refine ct A2 ?_
        refine cf B2 ?_
        refine cf B2 ?_
        refine cf B2 ?_
        refine cf B2 ?_
        refine cf B2 ?_
        refine cf B2 ?_
        refine cf B2 ?_
        refine cf B2 ?_
        refine ct A2 ?_
        refine cf B1 ?_
        refine cf A1 ?_
        refine ct rfl ?_
        refine ct rfl ?_
        refine ct rfl ?_
        refine cf D2 ?_
        refine cf D2 ?_
        refine ct rfl ?_
        refine cf D1 ?_
        refine cf rfl ?_
        refine cf rfl ?_
        refine .as (1 * (n : Int)) rfl (by simp only [mn]; omega) (by simp only [mx]; omega) ?_
        rcases hV with ⟨rfl, hV⟩ | ⟨rfl, hV⟩
        · have hqs : numQ false (l.drop fr) = some ((1 * (n : Int)), l.drop q) := by
            rw [hq, if_neg]
            · rw [hV]; simp
            · rintro (h1 | h1 | ⟨h1, h2⟩)
              · exact hpn h1
              · omega
              · rw [hph] at h1; injection h1 with h1; exact absurd h2 (by rintro (h2 | h2); exact absurd h2 (by omega); cases h2)
          exact ⟨fun w' hs => ⟨⟨(1 * (n : Int)), q, false⟩, ⟨by dsimp only; omega, by dsimp only; omega, by dsimp only; omega, .inr ⟨hqs, rfl⟩⟩, rfl, hs.updU⟩⟩
        · exact ⟨fun w' hs => ⟨⟨(1 * (n : Int)), q, true⟩, ⟨by dsimp only; omega, by dsimp only; omega, by dsimp only; omega, .inl ⟨by rw [hq, if_pos (.inr (.inl hV))], rfl⟩⟩, rfl, hs.updU⟩⟩
end
end Go.Proofs.YtpegkoklmhccjaaDoor
end
section
namespace Go.Proofs.YtpegkoklmhccjaaDoor
open Go.RowKit Go.Sx
set_option linter.unusedVariables false
structure QX where
  t : Bs
  p : Nat
  bad : Bool
def QxF (o : Option (Bs × Bs)) (l : Bs) (at' : Nat) (x : QX) : Prop := at' ≤ x.p ∧ x.p ≤ l.length + 1 ∧ ((o = none ∧ x.t = [] ∧ x.bad = true) ∨ (o = some (x.t, l.drop x.p) ∧ x.p ≤ l.length ∧ x.bad = false))
theorem plB {m l : Nat} {a a' : Addr} {next : Addr → Prop} (h : ∀ x, (x = a ∧ m = l) ∨ (x = a' ∧ l ≠ m) → next x) (hle : l ≤ m) : PlP m l a a' next := by
  by_cases e : m = l
  · exact .all e (h a (.inl ⟨rfl, e⟩))
  · exact .on (by omega) (h a' (.inr ⟨rfl, fun h => e h.symm⟩))
/-- a sign that bytes begin with is one -/
theorem decP_sc {s : Bs} {c z : Nat} (h : decP s = some (c, z)) : c ≤ 1114111 ∧ ¬ (55296 ≤ c ∧ c ≤ 57343) := by
  cases s with
  | nil => cases h
  | cons a r =>
    have ha := a.toNat_lt
    have h : (if a.toNat < 128 then some (a.toNat, 1) else decQ a.toNat r) = some (c, z) := h
    split at h
    · injection h with h; injection h with h1 h2; omega
    · unfold decQ at h
      split at h
      · cases h
      · rename_i z0 lo hi hc
        have hcl : (z0 = 2 ∧ 194 ≤ a.toNat ∧ a.toNat < 224) ∨ (z0 = 3 ∧ ((a.toNat = 224 ∧ lo = 160 ∧ hi = 191) ∨ (a.toNat = 237 ∧ lo = 128 ∧ hi = 159) ∨ (a.toNat ≠ 237 ∧ 225 ≤ a.toNat ∧ a.toNat < 240 ∧ lo = 128 ∧ hi = 191))) ∨ (z0 = 4 ∧ ((a.toNat = 240 ∧ lo = 144 ∧ hi = 191) ∨ (241 ≤ a.toNat ∧ a.toNat < 244 ∧ lo = 128 ∧ hi = 191) ∨ (a.toNat = 244 ∧ lo = 128 ∧ hi = 143))) := by
          unfold clsP at hc
          repeat' split at hc
          all_goals (first | (cases hc; done) | (injection hc with hc; injection hc with k1 hc; injection hc with k2 k3; omega))
        cases r with
        | nil => cases h
        | cons b1 r1 =>
          have hb1 := b1.toNat_lt
          dsimp only at h
          split at h
          · cases h
          · split at h
            · injection h with h; injection h with h1 h2; omega
            · cases r1 with
              | nil => cases h
              | cons b2 r2 =>
                dsimp only at h
                split at h
                · cases h
                · split at h
                  · injection h with h; injection h with h1 h2; omega
                  · cases r2 with
                    | nil => cases h
                    | cons b3 r3 =>
                      dsimp only at h
                      split at h
                      · cases h
                      · injection h with h; injection h with h1 h2; omega
theorem escP_sc {s : Bs} {n : Nat} {t : Bs} (h : escP s = some (n, t)) : n ≤ 1114111 ∧ ¬ (55296 ≤ n ∧ n ≤ 57343) := by
  cases s with
  | nil => cases h
  | cons c u =>
    have h : escQ c u = some (n, t) := h
    unfold escQ at h
    have one : ∀ k : Nat, k < 128 → some (k, u) = some (n, t) → n ≤ 1114111 ∧ ¬ (55296 ≤ n ∧ n ≤ 57343) := fun k hk e => by
      injection e with e; injection e with e1 e2; omega
    repeat (split at h; · exact one _ (by decide) h)
    split at h
    · unfold sigP at h
      split at h
      · cases h
      · rename_i m u1 hm
        have hm4 := hex4_lt hm
        split at h
        · injection h with h; injection h with h1 h2; omega
        · split at h
          · cases h
          · split at h
            · cases h
            · split at h
              · cases h
              · rename_i lo v hv
                split at h
                · cases h
                · injection h with h; injection h with h1 h2; omega
    · cases h
section
variable {va : Option Addr} {ca : Nat} {l : Bs} {at' : Nat} {b : Nat} {w : World}
structure QS where
  q : Nat
  out : Bs
  r : Sx.Own
  bd : Bool
  n : Nat
set_option maxRecDepth 100000 in
set_option maxHeartbeats 4000000 in
theorem quoted_any (hl : l.length ≤ 100000) (hca : l.length ≤ ca) (ha : at' ≤ l.length) (hb : w.heap[b]? = some (.cells (tC va ca l at' false) TT (0, 0))) (h : Rd w (.slice va l.length ca) (Lib.byteCells l)) : Calls Tryd.prog 38 ([pj b] : List Value).toArray w fun e w' => ∃ x : QX, QxF (textP (l.drop at')) l at' x ∧ e = .returned (sj x.t) ∧ Upd b (tC va ca l x.p x.bad) TT w w' := by
  refine enterUs (c := fun x : QX => tC va ca l x.p x.bad) (v := fun x => sj x.t) tab_ok Tryd.func38 rfl Tryd.ntmps38 rfl (St.rdX hb h) ?_
  have hnx := fun (w : World) (hb : w.heap[b]? = some (.cells (tC va ca l at' false) TT (0, 0))) (h : Rd w (.slice va l.length ca) (Lib.byteCells l)) => next_any hb h
  refine cvs (fun w hs => hnx w (hs.nth (k := 0) rfl) (hs.res (k := 1) rfl)) ?_
  by_cases h34 : nx (l.drop at') = 34
  case neg =>
    refine ct (by rw [bne_iff_ne]; exact h34) ?_
    have hno : textP (l.drop at') = none := by
      unfold textP
      cases hs : l.drop at' with
      | nil => rfl
      | cons c t =>
        rw [hs] at h34
        have hc : ¬ (c.toNat : Int) = 34 := h34
        have hp : pre [34] (c :: t) = none := by
          show (if (34 : UInt8) = c then pre [] t else none) = none
          rw [if_neg]; intro e; exact hc (by rw [← e]; rfl)
        rw [hp]
    refine s1 0 rfl (by show 2 < 3; decide) ?_
    exact ⟨fun w' hs => ⟨⟨[], at', true⟩, ⟨Nat.le_refl _, by dsimp only; omega, .inl ⟨hno, rfl, rfl⟩⟩, rfl, hs.updU⟩⟩
  refine cf (by rw [h34]; rfl) ?_
  obtain ⟨hsp, hle⟩ : textP (l.drop at') = txtF ((l.drop (at' + 1)).length + 1) (l.drop (at' + 1)) ∧ at' + 1 ≤ l.length := by
    cases hs : l.drop at' with
    | nil => rw [hs] at h34; cases h34
    | cons c t =>
      rw [hs] at h34
      have hc : (c.toNat : Int) = 34 := h34
      obtain rfl : c = 34 := UInt8.toNat_inj.1 (by have : (34 : UInt8).toNat = 34 := rfl; omega)
      have hdr : l.drop (at' + 1) = t := by rw [← List.drop_drop, hs]; rfl
      refine ⟨by rw [hdr]; rfl, ?_⟩
      rcases Nat.lt_or_ge at' l.length with h | h
      · exact h
      · rw [List.drop_of_length_le h] at hs; cases hs
  obtain ⟨ba, o, rfl⟩ := h.addr (fun e => by have := congrArg List.length e; rw [Lib.byteCells_length] at this; simp only [List.length_nil] at this; omega)
  refine ld1 0 rfl rfl ?_
  refine .as (((at' + 1 : Nat) : Int)) (by omega) (by simp only [mn]; omega) (by simp only [mx]; omega) ?_
  refine s1 0 rfl (by show 1 < 3; decide) ?_
  refine lp tab_ok (fun x : QS => at' + 1 ≤ x.q ∧ x.q ≤ l.length + 1 ∧ x.out.length ≤ 4 * x.q ∧ Rw 1 x.out.length x.r (Lib.byteCells x.out) ∧ ((x.bd = false ∧ x.q ≤ l.length ∧ textP (l.drop at') = app x.out (txtF x.n (l.drop x.q)) ∧ (l.drop x.q).length < x.n) ∨ (x.bd = true ∧ textP (l.drop at') = none))) (fun x => ⟨[(0, pj b), (3, sv x.r x.out.length)], [cl b (tC (some ⟨ba, o, none⟩) ca l x.q x.bd) TT, rs (rdB (some ⟨ba, o, none⟩) ca l), se x.r (Lib.byteCells x.out) 5], []⟩) (fun x => cond x.bd 0 (x.n + 1)) ⟨at' + 1, [], none, false, (l.drop (at' + 1)).length + 1⟩ ⟨Nat.le_refl _, by dsimp only; omega, Nat.zero_le _, Rw.nil 1, .inl ⟨rfl, hle, by rw [hsp]; cases txtF _ _ <;> rfl, by dsimp only; omega⟩⟩ ⟨⟨rfl, rfl, trivial⟩, .cons (.cons (.pad .nil)), rfl⟩ ?_
  rintro ⟨q, out, r, bd, n⟩ ⟨hq1, hq2, hol0, hR, hJ⟩
  dsimp only at hq1 hq2 hol0 hR hJ
  refine ld1 0 rfl (v := .bool bd) rfl ?_
  rcases hJ with ⟨rfl, hql, hspec, hn⟩ | ⟨rfl, hspec⟩
  case inr =>
    refine cf rfl ?_
    exact ⟨fun w' hs => ⟨⟨[], q, true⟩, ⟨by dsimp only; omega, hq2, .inl ⟨hspec, rfl, rfl⟩⟩, rfl, hs.updU⟩⟩
  refine ct rfl ?_
  obtain ⟨m, rfl⟩ : ∃ m, n = m + 1 := ⟨n - 1, by omega⟩
  have hlq : (l.drop q).length = l.length - q := List.length_drop
  have hsl : ∀ a, (a = (⟨ba, o, none⟩ : Addr) ∧ ca - 0 = q) ∨ (a = ⟨ba, nad o (nmu q 1), none⟩ ∧ q ≠ ca) → ∀ w, Rd w (.slice (some ⟨ba, o, none⟩) l.length ca) (Lib.byteCells l) → Rd w (.slice (some a) (l.drop q).length (ca - q)) (Lib.byteCells (l.drop q)) := fun a ha w h => by
    rcases ha with ⟨rfl, hc⟩ | ⟨rfl, hc⟩
    · have h0 : l.drop q = [] := List.drop_of_length_le (by omega)
      rw [h0]; exact ⟨_, _, rfl, fun h => absurd rfl h⟩
    · have := h.mid (i := q) (m := l.length - q) (by omega) (ca - q)
      rw [nad_eq, nmu_eq, Nat.mul_one, hlq]
      rwa [List.take_of_length_le (by omega)] at this
  refine dr [cl b (tC (some ⟨ba, o, none⟩) ca l q false) TT, rs (rdB (some ⟨ba, o, none⟩) ca l), se r (Lib.byteCells out) 5] 99 (.t 0 (.t 1 (.t 2 (.t 3 (.t 4 (.t 5 (.t 6 (.t 7 (.t 8 (.t 9 (.t 10 (.t 11 (.t 12 (.t 13 (.t 14 .nil))))))))))))))) tab_ok mixed_ok (by kernel_rfl) (.cons (.cons (Sub.refl _))) ?_
  iterate 2 refine ld1 0 rfl rfl ?_
  refine ⟨.mk q l.length ca rfl rfl rfl hql hca (Nat.le_refl _) (by simp) ?_⟩
  refine plB (fun a ha2 => ?_) (by omega)
  have hcall := fun (w : World) (h : Rd w (.slice (some ⟨ba, o, none⟩) l.length ca) (Lib.byteCells l)) => fst_any (some a) (ca - q) (l.drop q) (by omega) w (hsl a (by rcases ha2 with ⟨h1, h2⟩ | ⟨h1, h2⟩; exact .inl ⟨h1, by omega⟩; exact .inr ⟨h1, h2⟩) w h)
  rw [hlq] at hcall
  unfold fstV at hcall
  cases hd : decP (l.drop q) with
  | none =>
    rw [hd] at hcall
    have hno : textP (l.drop at') = none := by rw [hspec]; show app out (match decP (l.drop q) with | none => none | some (c, z) => _) = none; rw [hd]; rfl
    refine czs (fun w hs => hcall w (hs.res (k := 1) rfl)) ?_
    iterate 2 refine cf rfl ?_
    refine ct rfl ?_
    refine ct rfl ?_
    refine s1 0 rfl (by show 2 < 3; decide) ?_
    exact ⟨fun w' hs => ⟨⟨[], q, true⟩, ⟨by dsimp only; omega, by dsimp only; omega, .inl ⟨hno, rfl, rfl⟩⟩, rfl, hs.updU⟩⟩
  | some p =>
    obtain ⟨c, z⟩ := p
    rw [hd] at hcall
    obtain ⟨hc1, hc2⟩ := decP_sc hd
    have hz := decP_in hd
    have htx : txtF (m + 1) (l.drop q) = if c < 32 then none else if c = 34 then some ([], l.drop (q + z)) else if c = 92 then (match escP (l.drop (q + z)) with
        | none => none
        | some (e, t) => app (encP e) (txtF m t)) else app (encP c) (txtF m (l.drop (q + z))) := by
      show (match decP (l.drop q) with | none => none | some (c, z) => _) = _
      rw [hd]; simp only [List.drop_drop]; rfl
    rw [htx] at hspec
    have z1 : (((z : Nat) : Int) == 0) = false := by rw [beq_eq_false_iff_ne]; omega
    have z2 : ((((z : Nat) : Int) == 0) == false) = true := by rw [z1]; rfl
    refine czs (fun w hs => hcall w (hs.res (k := 1) rfl)) ?_
    iterate 2 refine ct z2 ?_
    refine cf z1 ?_
    refine cd (fun h32 => ?_) (fun h32 => ?_)
    · have hno : textP (l.drop at') = none := by rw [hspec, if_pos (by omega)]; rfl
      refine s1 0 rfl (by show 2 < 3; decide) ?_
      exact ⟨fun w' hs => ⟨⟨[], q, true⟩, ⟨by dsimp only; omega, by dsimp only; omega, .inl ⟨hno, rfl, rfl⟩⟩, rfl, hs.updU⟩⟩
    rw [if_neg (by omega)] at hspec
    have hqz : q + z ≤ l.length := by omega
    refine ld1 0 rfl rfl ?_
    refine .as (((q + z : Nat) : Int)) (by (try dsimp only); omega) (by simp only [mn]; omega) (by simp only [mx]; omega) ?_
    refine s1 0 rfl (by show 1 < 3; decide) ?_
    by_cases h34 : c = 34
    · refine ct (by rw [h34]; rfl) ?_
      rw [if_pos h34] at hspec
      refine semV (fun w' hs => rd_str (l := out) (Rd.own hs 2 rfl hR)) ?_
      exact ⟨fun w' hs => ⟨⟨out, q + z, false⟩, ⟨by dsimp only; omega, by dsimp only; omega, .inr ⟨by rw [hspec]; simp [app], hqz, rfl⟩⟩, rfl, hs.updU⟩⟩
    refine cf (by rw [beq_eq_false_iff_ne]; omega) ?_
    rw [if_neg h34] at hspec
    by_cases h92 : c = 92
    · refine ct (by rw [h92]; rfl) ?_
      rw [if_pos h92] at hspec
      refine cUs (c := fun x : RX => tC (some ⟨ba, o, none⟩) ca l x.p x.bad) (v := fun x => .int .i64 (x.n : Nat)) (Φ := RxF (escP (l.drop (q + z))) l (q + z) false) 0 rfl (fun w hs => escaped_any hl hca hqz (hs.nth (k := 0) rfl) (hs.res (k := 1) rfl)) (fun x hx => ?_)
      obtain ⟨n1, p1, bd1⟩ := x
      obtain ⟨j1, j2, j3, hx⟩ := hx
      dsimp only at j1 j2 j3 hx ⊢
      rcases hx with ⟨hx, rfl, rfl⟩ | ⟨hx, hp1, rfl⟩
      · rw [hx] at hspec
        refine co (fun w' hs => sgn_any 0 (by omega) (by omega) w') (fun r2 hr2 => ?_)
        have hel := encP_len 0
        refine ap (xs := Lib.byteCells out) (m := (Lib.byteCells (encP 0)).length) (news := Lib.byteCells (encP 0)) 2 tab_ok rfl info5 rfl rfl hR (fun w' hs => (Rd.own hs 3 rfl hr2).src und22 (one8 _)) (by rw [Lib.byteCells_length]; (try dsimp only); omega) (by rw [Lib.byteCells_length]; unfold maxLen; (try dsimp only); omega) (fun r3 hr3 => ?_)
        rw [← Lib.byteCells_append] at hr3
        have hol : (out ++ encP 0).length = out.length + (Lib.byteCells (encP 0)).length := by rw [List.length_append, Lib.byteCells_length]
        rw [← hol] at hr3
        exact ⟨⟨p1, out ++ encP 0, r3, true, 0⟩, ⟨by dsimp only; omega, by dsimp only; omega, by rw [hol, Lib.byteCells_length]; dsimp only; omega, hr3, .inr ⟨rfl, by rw [hspec]; rfl⟩⟩, by dsimp only [cond]; omega, ⟨⟨rfl, by rw [hol]; rfl, trivial⟩, .cons (.cons (by rw [Lib.byteCells_append]; exact .cons (.drop .nil))), rfl⟩⟩
      · obtain ⟨he1, he2⟩ := escP_sc hx
        rw [hx] at hspec
        have hlp : (l.drop p1).length = l.length - p1 := List.length_drop
        refine co (fun w' hs => sgn_any n1 (by omega) (by omega) w') (fun r2 hr2 => ?_)
        have hel := encP_len n1
        refine ap (xs := Lib.byteCells out) (m := (Lib.byteCells (encP n1)).length) (news := Lib.byteCells (encP n1)) 2 tab_ok rfl info5 rfl rfl hR (fun w' hs => (Rd.own hs 3 rfl hr2).src und22 (one8 _)) (by rw [Lib.byteCells_length]; (try dsimp only); omega) (by rw [Lib.byteCells_length]; unfold maxLen; (try dsimp only); omega) (fun r3 hr3 => ?_)
        rw [← Lib.byteCells_append] at hr3
        have hol : (out ++ encP n1).length = out.length + (Lib.byteCells (encP n1)).length := by rw [List.length_append, Lib.byteCells_length]
        rw [← hol] at hr3
        exact ⟨⟨p1, out ++ encP n1, r3, false, m⟩, ⟨by dsimp only; omega, by dsimp only; omega, by rw [hol, Lib.byteCells_length]; dsimp only; omega, hr3, .inl ⟨rfl, hp1, by rw [hspec]; exact app_app _ _ _, by dsimp only; omega⟩⟩, by dsimp only [cond]; omega, ⟨⟨rfl, by rw [hol]; rfl, trivial⟩, .cons (.cons (by rw [Lib.byteCells_append]; exact .cons (.drop .nil))), rfl⟩⟩
    refine cf (by rw [beq_eq_false_iff_ne]; omega) ?_
    rw [if_neg h92] at hspec
    have hlz : (l.drop (q + z)).length = l.length - (q + z) := List.length_drop
    refine co (fun w' hs => sgn_any c (by omega) (by omega) w') (fun r2 hr2 => ?_)
    have hel := encP_len c
    refine ap (xs := Lib.byteCells out) (m := (Lib.byteCells (encP c)).length) (news := Lib.byteCells (encP c)) 2 tab_ok rfl info5 rfl rfl hR (fun w' hs => (Rd.own hs 3 rfl hr2).src und22 (one8 _)) (by rw [Lib.byteCells_length]; (try dsimp only); omega) (by rw [Lib.byteCells_length]; unfold maxLen; (try dsimp only); omega) (fun r3 hr3 => ?_)
    rw [← Lib.byteCells_append] at hr3
    have hol : (out ++ encP c).length = out.length + (Lib.byteCells (encP c)).length := by rw [List.length_append, Lib.byteCells_length]
    rw [← hol] at hr3
    exact ⟨⟨q + z, out ++ encP c, r3, false, m⟩, ⟨by dsimp only; omega, by dsimp only; omega, by rw [hol, Lib.byteCells_length]; dsimp only; omega, hr3, .inl ⟨rfl, hqz, by rw [hspec]; exact app_app _ _ _, by dsimp only; omega⟩⟩, by dsimp only [cond]; omega, ⟨⟨rfl, by rw [hol]; rfl, trivial⟩, .cons (.cons (by rw [Lib.byteCells_append]; exact .cons (.drop .nil))), rfl⟩⟩
end
end Go.Proofs.YtpegkoklmhccjaaDoor
end
section
namespace Go.Proofs.YtpegkoklmhccjaaDoor
open Go.RowKit Go.Sx
set_option linter.unusedVariables false
/-- the value of a name -/
def JV.got : JV → Bs → Option JV
  | .mk k _ _ _ p, name => if k = 5 then (p.find? fun q => decide (q.1 = name)).map (·.2) else none
def hitJ (S : JV → JV → Bool) (b : JV) (q : Bs × JV) : Bool := match b.got q.1 with
  | none => false
  | some v => S q.2 v
def smG (S : JV → JV → Bool) : JV → JV → Bool
  | .mk k i s l p, .mk k2 i2 s2 l2 p2 => decide (k = k2) && decide (i = i2) && decide (s = s2) && decide (l.length = l2.length) && decide (p.length = p2.length) && (l.zip l2).all (fun x => S x.1 x.2) && p.all (hitJ S (.mk k2 i2 s2 l2 p2))
theorem got_if (k i : Int) (s : Bs) (l : List JV) (p : List (Bs × JV)) (name : Bs) : (JV.mk k i s l p).got name = if k = 5 then (p.find? fun q => decide (q.1 = name)).map (·.2) else none := rfl
theorem hit_some {S : JV → JV → Bool} {b v : JV} {q : Bs × JV} (h : b.got q.1 = some v) : hitJ S b q = S q.2 v := by unfold hitJ; rw [h]
/-- are good values the same? -/
def smD : Nat → JV → JV → Bool
  | 0 => smG fun _ _ => false
  | r + 1 => smG (smD r)
theorem prsK_all {S : JV → Bool} : ∀ (p : List (Bs × JV)) (seen : List Bs), prsK S seen p = true → (∀ q ∈ p, S q.2 = true) ∧ (p.map (·.1)).Nodup ∧ ∀ q ∈ p, q.1 ∉ seen := by
  intro p
  induction p with
  | nil => intro seen _; exact ⟨fun q h => by simp at h, by simp, fun q h => by simp at h⟩
  | cons x t ih =>
    intro seen h
    have h : (!decide (x.1 ∈ seen) && validP x.1 && S x.2 && prsK S (x.1 :: seen) t) = true := h
    simp only [Bool.and_eq_true, Bool.not_eq_true', decide_eq_false_iff_not] at h
    obtain ⟨⟨⟨h1, h2⟩, h3⟩, h4⟩ := h
    obtain ⟨i1, i2, i3⟩ := ih _ h4
    refine ⟨fun q hq => ?_, ?_, fun q hq => ?_⟩
    · rcases List.mem_cons.1 hq with rfl | hq
      · exact h3
      · exact i1 q hq
    · rw [List.map_cons, List.nodup_cons]
      refine ⟨fun hm => ?_, i2⟩
      obtain ⟨q, hq, he⟩ := List.mem_map.1 hm
      exact i3 q hq (by rw [he]; simp)
    · rcases List.mem_cons.1 hq with rfl | hq
      · exact h1
      · exact fun hs => i3 q hq (List.mem_cons_of_mem _ hs)
/-- what a good value's parts are -/
theorem snd_kids {S : JV → Bool} {deep : Bool} {k i : Int} {s : Bs} {l : List JV} {p : List (Bs × JV)} (h : sndG S deep (.mk k i s l p) = true) : (∀ x ∈ l, S x = true ∧ deep = true) ∧ (∀ q ∈ p, S q.2 = true ∧ deep = true ∧ k = 5) ∧ (p.map (·.1)).Nodup := by
  have emp : l.isEmpty = true → p.isEmpty = true → (∀ x ∈ l, S x = true ∧ deep = true) ∧ (∀ q ∈ p, S q.2 = true ∧ deep = true ∧ k = 5) ∧ (p.map (·.1)).Nodup := fun h1 h2 => by
    rw [List.isEmpty_iff] at h1 h2
    rw [h1, h2]
    exact ⟨fun x h => absurd h List.not_mem_nil, fun x h => absurd h List.not_mem_nil, List.nodup_nil⟩
  unfold sndG at h
  dsimp only at h
  split at h
  · simp only [Bool.and_eq_true] at h; exact emp h.2.1 h.2.2
  split at h
  · simp only [Bool.and_eq_true] at h; exact emp h.2.1 h.2.2
  split at h
  · simp only [Bool.and_eq_true] at h; exact emp h.2.1 h.2.2
  split at h
  · simp only [Bool.and_eq_true] at h; exact emp h.2.1 h.2.2
  split at h
  · cases h
  rename_i hn
  have hdp : deep = true := by
    cases hd : deep with
    | true => rfl
    | false => exact absurd (.inr (.inr hd)) hn
  split at h
  · simp only [Bool.and_eq_true] at h
    have hp : p = [] := by simpa using h.2
    subst hp
    exact ⟨fun x hx => ⟨List.all_eq_true.1 h.1 x hx, hdp⟩, fun x h => by simp at h, by simp⟩
  split at h
  · rename_i h5
    simp only [Bool.and_eq_true] at h
    have hl : l = [] := by simpa using h.2
    subst hl
    obtain ⟨i1, i2, _⟩ := prsK_all p [] h.1
    exact ⟨fun x h => by simp at h, fun q hq => ⟨i1 q hq, hdp, h5⟩, i2⟩
  · cases h
theorem find_nodup {p : List (Bs × JV)} (h : (p.map (·.1)).Nodup) {q : Bs × JV} (hq : q ∈ p) : p.find? (fun x => decide (x.1 = q.1)) = some q := by
  induction p with
  | nil => simp at hq
  | cons x t ih =>
    rw [List.map_cons, List.nodup_cons] at h
    by_cases hx : x.1 = q.1
    · rw [List.find?_cons_of_pos (by simpa using hx)]
      rcases List.mem_cons.1 hq with rfl | hq
      · rfl
      · exact absurd (List.mem_map.2 ⟨q, hq, hx.symm⟩) h.1
    · rw [List.find?_cons_of_neg (by simpa using hx)]
      rcases List.mem_cons.1 hq with rfl | hq
      · exact absurd rfl hx
      · exact ih h.2 hq
theorem nodup_back {α : Type} [DecidableEq α] : ∀ (a b : List α), a.Nodup → (∀ x ∈ a, x ∈ b) → b.length ≤ a.length → ∀ y ∈ b, y ∈ a := by
  intro a
  induction a with
  | nil =>
    intro b _ _ h y hy
    have : b = [] := List.length_eq_zero_iff.1 (by simpa using h)
    rw [this] at hy; exact hy
  | cons x t ih =>
    intro b hn hs hl y hy
    rw [List.nodup_cons] at hn
    have hx : x ∈ b := hs x (by simp)
    by_cases hyx : y = x
    · rw [hyx]; simp
    · refine List.mem_cons_of_mem _ (ih (b.erase x) hn.2 (fun z hz => ?_) ?_ y ?_)
      · exact (List.mem_erase_of_ne (fun e : z = x => hn.1 (e ▸ hz))).2 (hs z (List.mem_cons_of_mem _ hz))
      · rw [List.length_erase_of_mem hx]; simp only [List.length_cons] at hl; omega
      · exact (List.mem_erase_of_ne hyx).2 hy
theorem smG_refl {S : JV → JV → Bool} {G : JV → Bool} {deep : Bool} (hS : deep = true → ∀ x, G x = true → S x x = true) {j : JV} (h : sndG G deep j = true) : smG S j j = true := by
  obtain ⟨k, i, s, l, p⟩ := j
  obtain ⟨h1, h2, h3⟩ := snd_kids h
  unfold smG
  simp only [Bool.and_eq_true, decide_true, and_self, true_and, List.all_eq_true]
  refine ⟨fun x hx => ?_, fun q hq => ?_⟩
  · obtain ⟨n, hn, he⟩ := List.mem_iff_getElem.1 hx
    rw [List.getElem_zip] at he
    have hm : l[n]'(by simpa using hn) ∈ l := List.getElem_mem _
    rw [← he]
    exact hS (h1 _ hm).2 _ (h1 _ hm).1
  · obtain ⟨g1, g2, g3⟩ := h2 q hq
    rw [hit_some (v := q.2) (by rw [got_if, if_pos g3, find_nodup h3 hq]; rfl)]
    exact hS g2 _ g1
theorem smG_symm {S : JV → JV → Bool} {G : JV → Bool} {deep : Bool} (hS : deep = true → ∀ x y, G x = true → G y = true → S x y = true → S y x = true) {a b : JV} (ha : sndG G deep a = true) (hb : sndG G deep b = true) (h : smG S a b = true) : smG S b a = true := by
  obtain ⟨k, i, s, l, p⟩ := a
  obtain ⟨k2, i2, s2, l2, p2⟩ := b
  obtain ⟨a1, a2, a3⟩ := snd_kids ha
  obtain ⟨b1, b2, b3⟩ := snd_kids hb
  unfold smG at h ⊢
  simp only [Bool.and_eq_true, decide_eq_true_eq, List.all_eq_true] at h ⊢
  obtain ⟨⟨⟨⟨⟨⟨e1, e2⟩, e3⟩, e4⟩, e5⟩, h6⟩, h7⟩ := h
  refine ⟨⟨⟨⟨⟨⟨e1.symm, e2.symm⟩, e3.symm⟩, e4.symm⟩, e5.symm⟩, fun x hx => ?_⟩, fun q hq => ?_⟩
  · obtain ⟨n, hn, he⟩ := List.mem_iff_getElem.1 hx
    rw [List.getElem_zip] at he
    simp only [List.length_zip] at hn
    have hm : l[n]'(by omega) ∈ l := List.getElem_mem _
    have hm2 : l2[n]'(by omega) ∈ l2 := List.getElem_mem _
    rw [← he]
    exact hS (a1 _ hm).2 _ _ (a1 _ hm).1 (b1 _ hm2).1 (h6 _ (by rw [List.mem_iff_getElem]; exact ⟨n, by simp only [List.length_zip]; omega, List.getElem_zip⟩))
  · -- a's names are b's names
    have hsub : ∀ x ∈ p.map (·.1), x ∈ p2.map (·.1) := fun x hx => by
      obtain ⟨q0, hq0, rfl⟩ := List.mem_map.1 hx
      have := h7 q0 hq0
      unfold hitJ at this
      split at this
      · cases this
      · rename_i v hv
        rw [got_if] at hv
        split at hv
        · rw [Option.map_eq_some_iff] at hv
          obtain ⟨y, hy, _⟩ := hv
          have hy1 := List.find?_some hy
          exact List.mem_map.2 ⟨y, List.mem_of_find?_eq_some hy, by simpa using hy1⟩
        · cases hv
    have hback := nodup_back (p.map (·.1)) (p2.map (·.1)) a3 hsub (by simp only [List.length_map]; omega)
    obtain ⟨q0, hq0, hqn⟩ := List.mem_map.1 (hback q.1 (List.mem_map.2 ⟨q, hq, rfl⟩))
    have hh := h7 q0 hq0
    obtain ⟨g1, g2, g3⟩ := a2 q0 hq0
    obtain ⟨g4, _, g6⟩ := b2 q hq
    rw [hit_some (v := q.2) (by rw [got_if, if_pos g6, hqn, find_nodup b3 hq]; rfl)] at hh
    rw [hit_some (v := q0.2) (by rw [got_if, if_pos g3, ← hqn, find_nodup a3 hq0]; rfl)]
    exact hS g2 _ _ g1 g4 hh
theorem smD_refl : ∀ (r : Nat) (j : JV), sndD r j = true → smD r j j = true := by
  intro r
  induction r with
  | zero => intro j h; exact smG_refl (fun h => by cases h) h
  | succ r ih => intro j h; exact smG_refl (fun _ => ih) h
theorem smD_symm1 : ∀ (r : Nat) (a b : JV), sndD r a = true → sndD r b = true → smD r a b = true → smD r b a = true := by
  intro r
  induction r with
  | zero => intro a b ha hb h; exact smG_symm (fun h => by cases h) ha hb h
  | succ r ih => intro a b ha hb h; exact smG_symm (fun _ => ih) ha hb h
theorem smD_symm (r : Nat) (a b : JV) (ha : sndD r a = true) (hb : sndD r b = true) : smD r a b = smD r b a := by
  rw [Bool.eq_iff_iff]
  exact ⟨smD_symm1 r a b ha hb, smD_symm1 r b a hb ha⟩
/-- the value of a name, and its cells -/
theorem find_both : ∀ (p : List (Bs × CT)) (p' : List (Bs × JV)) (name : Bs), p.length = p'.length → (∀ (n : Nat) (c : Bs × CT) (j : Bs × JV), p[n]? = some c → p'[n]? = some j → c.1 = j.1) →
    (p.find? (fun q => decide (q.1 = name)) = none ∧ p'.find? (fun q => decide (q.1 = name)) = none) ∨ ∃ (m : Nat) (q : Bs × CT) (q' : Bs × JV), p[m]? = some q ∧ p'[m]? = some q' ∧ p.find? (fun q => decide (q.1 = name)) = some q ∧ p'.find? (fun q => decide (q.1 = name)) = some q' := by
  intro p
  induction p with
  | nil =>
    intro p' name hl _
    have : p' = [] := List.length_eq_zero_iff.1 hl.symm
    subst this
    exact .inl ⟨rfl, rfl⟩
  | cons x t ih =>
    intro p' name hl hn
    cases p' with
    | nil => simp at hl
    | cons y u =>
      have hxy : x.1 = y.1 := hn 0 x y rfl rfl
      by_cases hx : x.1 = name
      · exact .inr ⟨0, x, y, rfl, rfl, List.find?_cons_of_pos (by simpa using hx), List.find?_cons_of_pos (by simpa using hxy ▸ hx)⟩
      · have e1 : (x :: t).find? (fun q => decide (q.1 = name)) = t.find? fun q => decide (q.1 = name) := List.find?_cons_of_neg (by simpa using hx)
        have e2 : (y :: u).find? (fun q => decide (q.1 = name)) = u.find? fun q => decide (q.1 = name) := List.find?_cons_of_neg (by simpa using hxy ▸ hx)
        rw [e1, e2]
        rcases ih u name (by simpa using hl) (fun n c j h1 h2 => hn (n + 1) c j (by simpa using h1) (by simpa using h2)) with h | ⟨m, q, q', h1, h2, h3, h4⟩
        · exact .inl h
        · exact .inr ⟨m + 1, q, q', by simpa using h1, by simpa using h2, h3, h4⟩
theorem got_both {d : CT} {j : JV} (h : CS d j) (name : Bs) : (d.got name = none ∧ j.got name = none) ∨ ∃ g gj, d.got name = some g ∧ j.got name = some gj ∧ CS g gj ∧ ∀ (A : Nat → Prop) (w : World), HeldT w A d j → HeldT w A g gj := by
  cases h with
  | @mk k i s vl vp l p l' p' hll hlp hl hp kl kn kp =>
    show ((if k = 5 then (p.find? fun q => decide (q.1 = name)).map (·.2) else none) = none ∧ (if k = 5 then (p'.find? fun q => decide (q.1 = name)).map (·.2) else none) = none) ∨ ∃ g gj, (if k = 5 then (p.find? fun q => decide (q.1 = name)).map (·.2) else none) = some g ∧ (if k = 5 then (p'.find? fun q => decide (q.1 = name)).map (·.2) else none) = some gj ∧ CS g gj ∧ ∀ (A : Nat → Prop) (w : World), HeldT w A _ _ → HeldT w A g gj
    by_cases h5 : k = 5
    · rw [if_pos h5, if_pos h5]
      rcases find_both p p' name hlp kn with ⟨h1, h2⟩ | ⟨m, q, q', h1, h2, h3, h4⟩
      · rw [h1, h2]; exact .inl ⟨rfl, rfl⟩
      · rw [h3, h4]
        exact .inr ⟨q.2, q'.2, rfl, rfl, kp m q q' h1 h2, fun A w hw => ⟨hw.1, hw.2.kidp h1 h2⟩⟩
    · rw [if_neg h5, if_neg h5]; exact .inl ⟨rfl, rfl⟩
end Go.Proofs.YtpegkoklmhccjaaDoor
end
section
namespace Go.Proofs.YtpegkoklmhccjaaDoor
open Go.RowKit Go.Sx
set_option linter.unusedVariables false
set_option maxRecDepth 100000 in
set_option maxHeartbeats 4000000 in
theorem rget_any (A : Nat → Prop) (c : CT) (j : JV) (name : Bs) (w : World) (h : HeldT w A c j) : Calls Tryd.prog 11 ([.agg c.cs.toArray, sj name] : List Value).toArray w fun e w' => e = .returned (getV (c.got name)) ∧ Below w.heap.size w w' := by
  obtain ⟨vl, vp, l, p, k, i, s, rfl⟩ : ∃ vl vp l p k i s, c = .mk k i s vl vp l p := by cases c; exact ⟨_, _, _, _, _, _, _, rfl⟩
  obtain ⟨l', p', rfl⟩ : ∃ l' p', j = .mk k i s l' p' := by cases h.2; exact ⟨_, _, rfl⟩
  obtain ⟨k3, a', cap', rfl, k4⟩ : SlOf vp p.length := by cases h.2.cs; assumption
  have hgot : ∀ m, (CT.mk k i s vl (.slice a' p.length cap') l p).got m = if k = 5 then (p.find? fun q => decide (q.1 = m)).map (·.2) else none := fun _ => rfl
  refine enterV tab_ok Tryd.func11 rfl Tryd.ntmps11 rfl (St.rdT h) ?_
  intro b2 b4
  refine lp tab_ok (fun q : Nat => q ≤ p.length ∧ ∀ m, m < q → ∀ x, p[m]? = some x → x.1 ≠ name) (fun q => ⟨[(1, sj name), (2, pj b2), (4, pj b4), (5, .bool false), (6, .int .i64 (q : Nat))], [rs (rdT A (.mk k i s vl (.slice a' p.length cap') l p) (.mk k i s l' p')), cl b2 (vcl k i s vl (.slice a' p.length cap')).toArray TV, cl b4 (valC 0 0 []) TV], []⟩) (fun q => p.length - q) 0 ⟨Nat.zero_le _, fun m hm => absurd hm (Nat.not_lt_zero _)⟩ ⟨⟨rfl, rfl, rfl, rfl, rfl, trivial⟩, .cons (.cons (.cons .nil)), rfl⟩ ?_
  rintro q ⟨hq, hI⟩
  refine ld1 1 rfl rfl ?_
  by_cases hql : q < p.length
  · have f1 : decide ((q : Int) < (p.length : Int)) = true := decide_eq_true (by omega)
    have f2 : (decide ((q : Int) < (p.length : Int)) == true) = true := by rw [f1]; rfl
    iterate 2 refine ct f2 ?_
    refine ld1 1 rfl rfl ?_
    refine ct f2 ?_
    refine ct f1 ?_
    refine cq (fun h5 => ?_) (fun h5 => ?_)
    · have hc0 : p[q]? = some p[q] := List.getElem?_eq_getElem hql
      generalize p[q] = c0 at hc0
      obtain ⟨b, o, rfl⟩ := k4 (by omega)
      refine ld1 1 rfl rfl ?_
      refine ⟨by omega, by omega, ?_⟩
      refine .mk (sj c0.1) (fun w hs => ?_) ?_
      · have := (hs.res (k := 0) rfl : HeldT w A _ _).2.pair rfl hc0
        rw [nad_eq, nad_eq, nmu_eq, Int.toNat_natCast]; exact this 0 _ rfl
      by_cases hn : c0.1 = name
      · refine ct (by rw [list_beq]; exact decide_eq_true hn) ?_
        refine ld1 1 rfl rfl ?_
        refine ⟨by omega, by omega, ?_⟩
        refine .mk c0.2.cs.toArray (by rw [List.size_toArray, CT.cs5]) (fun w hs => ?_) ?_
        · have := (hs.res (k := 0) rfl : HeldT w A _ _).2.pair rfl hc0
          rw [nad_eq, nad_eq, nmu_eq, Int.toNat_natCast]
          intro y u hu
          rw [Nat.add_assoc (o + q * 6), Nat.add_comm 1 y]
          exact this (y + 1) u (by simpa using hu)
        have hone : c0.2.cs.all (·.oneCell') = true := by
          have hlt := (List.getElem?_eq_some_iff.1 hc0).1
          cases h.2.cs with
          | mk hll hlp _ _ _ _ kp => exact (kp q c0 _ hc0 (List.getElem?_eq_getElem (by omega))).one
        refine sN 2 rfl (by rw [List.size_toArray, CT.cs5]; rfl) (by simpa using hone) ?_ (by rw [List.size_toArray, CT.cs5]; kernel_rfl)
        refine ldN 2 rfl (by rw [List.size_toArray, CT.cs5]) ?_
        refine rt ?_
        rw [hgot, if_pos h5, find_first hc0 hn hI]; rfl
      · refine cf (by rw [list_beq]; exact decide_eq_false hn) ?_
        refine .as ((q + 1 : Nat) : Int) (by simp) (by simp only [mn]; omega) (by simp only [mx]; unfold maxLen at k3; omega) ?_
        refine ⟨q + 1, ⟨by omega, fun m hm x hx => ?_⟩, by omega, ⟨⟨rfl, rfl, rfl, rfl, rfl, trivial⟩, .cons (.cons (.cons .nil)), rfl⟩⟩
        by_cases hmq : m < q
        · exact hI m hmq x hx
        · obtain rfl : m = q := by omega
          rw [hc0] at hx
          obtain rfl : c0 = x := Option.some.inj hx
          exact hn
    · refine bu (c := valC 0 0 []) rfl ?_
      refine sN 2 rfl rfl (by simp [Value.oneCell']) ?_ (by kernel_rfl)
      refine ldN 2 rfl rfl ?_
      refine rt ?_
      rw [hgot, if_neg h5]; rfl
  · have f1 : decide ((q : Int) < (p.length : Int)) = false := decide_eq_false (by omega)
    have f2 : (decide ((q : Int) < (p.length : Int)) == true) = false := by rw [f1]; rfl
    iterate 3 refine cf f2 ?_
    refine cf f1 ?_
    refine cf rfl ?_
    refine bu (c := valC 0 0 []) rfl ?_
    refine sN 2 rfl rfl (by simp [Value.oneCell']) ?_ (by kernel_rfl)
    refine ldN 2 rfl rfl ?_
    refine rt ?_
    rw [hgot]
    split
    · rw [find_none fun m hm => hI m (by omega)]; rfl
    · rfl
end Go.Proofs.YtpegkoklmhccjaaDoor
end
section
namespace Go.Proofs.YtpegkoklmhccjaaDoor
open Go.RowKit Go.Sx
set_option linter.unusedVariables false
theorem list_endG {L : List Ent} {w w' : World} {b : Nat} {c0 : Array Value} {t0 : TypeId} {ks : List (JV × List Value)} {r : Sx.Own} {a : Option Addr} {cc : Nat} {A : Nat → Prop} (hs : St [bl b] w w' (cl b c0 t0 :: L)) (k kr : Nat) (hk : L[k]? = some (rs (heldR A ks))) (hr : L[kr]? = some (se r (ksX ks) TV))
    (hR : Rw 5 ks.length r (ksX ks)) (e : sv r ks.length = .slice a ks.length cc) (hz : ∀ y ∈ ks, y.2.length = 5) (hn : ks.length ≤ maxLen) :
    Upd b c0 t0 w w' ∧ ∃ A : Nat → Prop, (∀ k, A k → w.heap.size ≤ k) ∧ Held w' A [(.mk 4 0 [] (ks.map (·.1)) [], vcl 4 0 [] (.slice a ks.length cc) (.slice none 0 0))] := by
  have hH : Held w' A ks := hs.res (k := k + 1) (by simpa using hk)
  have hW : ∀ i, rowB r i → (se r (ksX ks) TV).W i := fun i hi => by
    cases r with
    | none => exact hi.elim
    | some q => obtain rfl : i = q.1 := hi; simp [se]
  refine ⟨hs.updU, fun i => A i ∨ rowB r i, fun i hi => ?_, fun i hi => ?_, fun x hx => ?_⟩
  · rcases hi with hi | hi
    · exact St.fresh hs hk i ((rsW _ _).2 hi)
    · exact St.fresh hs hr i (hW i hi)
  · rcases hi with hi | hi
    · exact hH.1 i hi
    · exact hs.ltA (List.mem_cons_of_mem _ (List.mem_of_getElem? hr)) (hW i hi).a
  · obtain rfl : x = _ := by simpa using hx
    refine .mk (fun n => ((ks[n]?).map (·.2)).getD []) (fun _ => []) ?_ (.nil ..) (fun n j h => ?_) (fun n q h => by simp at h)
    · rw [List.length_map, ← e]
      refine row_at hs (k := kr + 1) (ks := ks.map (·.2)) (by simpa using hr) hR (by simp) (fun y hy => ?_) (fun i hi => .inr hi) (fun i y hy => ?_) hn
      · obtain ⟨z, h1, rfl⟩ := List.mem_map.1 hy
        exact hz z h1
      · rw [List.getElem?_map] at hy
        rw [hy]; rfl
    · rw [List.getElem?_map] at h
      cases hq : ks[n]? with
      | none => rw [hq] at h; cases h
      | some y =>
        rw [hq] at h
        obtain rfl : y.1 = j := by simpa using h
        exact (hH.2 y (List.mem_of_getElem? hq)).to (fun _ h => .inl h) fun _ _ => rfl
theorem object_endG {L : List Ent} {w w' : World} {b : Nat} {c0 : Array Value} {t0 : TypeId} {ks : List Pr} {r : Sx.Own} {a : Option Addr} {cc : Nat} {A : Nat → Prop} (hs : St [bl b] w w' (cl b c0 t0 :: L)) (k kr : Nat) (hk : L[k]? = some (rs (heldR A (prK ks)))) (hr : L[kr]? = some (se r (prX ks) TP))
    (hR : Rw 6 ks.length r (prX ks)) (e : sv r ks.length = .slice a ks.length cc) (hz : ∀ y ∈ ks, y.cs.length = 5) (hn : ks.length ≤ maxLen) :
    Upd b c0 t0 w w' ∧ ∃ A : Nat → Prop, (∀ k, A k → w.heap.size ≤ k) ∧ Held w' A [(.mk 5 0 [] [] (ks.map fun q => (q.name, q.j)), vcl 5 0 [] (.slice none 0 0) (.slice a ks.length cc))] := by
  have hH : Held w' A (prK ks) := hs.res (k := k + 1) (by simpa using hk)
  have hW : ∀ i, rowB r i → (se r (prX ks) TP).W i := fun i hi => by
    cases r with
    | none => exact hi.elim
    | some q => obtain rfl : i = q.1 := hi; simp [se]
  refine ⟨hs.updU, fun i => A i ∨ rowB r i, fun i hi => ?_, fun i hi => ?_, fun x hx => ?_⟩
  · rcases hi with hi | hi
    · exact St.fresh hs hk i ((rsW _ _).2 hi)
    · exact St.fresh hs hr i (hW i hi)
  · rcases hi with hi | hi
    · exact hH.1 i hi
    · exact hs.ltA (List.mem_cons_of_mem _ (List.mem_of_getElem? hr)) (hW i hi).a
  · obtain rfl : x = _ := by simpa using hx
    refine .mk (fun _ => []) (fun n => ((ks[n]?).map (·.cs)).getD []) (.nil ..) ?_ (fun n j h => by simp at h) (fun n q h => ?_)
    · rw [List.length_map, ← e]
      refine row_at hs (k := kr + 1) (ks := ks.map fun p => sj p.name :: p.cs) (by simpa using hr) hR (by simp) (fun y hy => ?_) (fun i hi => .inr hi) (fun i y hy => ?_) hn
      · obtain ⟨z, h1, rfl⟩ := List.mem_map.1 hy
        simp [hz z h1]
      · rw [List.getElem?_map] at hy
        unfold pcl
        rw [List.getElem?_map]
        cases hq : ks[i]? with
        | none => rw [hq] at hy; cases hy
        | some p => rw [hq] at hy; simpa [hq] using hy
    · rw [List.getElem?_map] at h
      cases hq : ks[n]? with
      | none => rw [hq] at h; cases h
      | some y =>
        rw [hq] at h
        obtain rfl : (y.name, y.j) = q := by simpa using h
        exact (hH.2 (y.j, y.cs) (List.mem_map.2 ⟨y, List.mem_of_getElem? hq, rfl⟩)).to (fun _ h => .inl h) fun _ _ => rfl

structure VX where
  j : JV
  cs : List Value
  p : Nat
  bad : Bool
def VXF (o : Option (JV × Bs)) (l : Bs) (at' K : Nat) (x : VX) : Prop := at' ≤ x.p ∧ x.p ≤ l.length + K ∧ ((o = none ∧ x.bad = true) ∨ (o = some (x.j, l.drop x.p) ∧ x.p ≤ l.length ∧ x.bad = false))
/-- a function that reads a value -/
def VXC (g : FuncId) (vs : List Value) (o : Option (JV × Bs)) (va : Option Addr) (ca : Nat) (l : Bs) (at' K b : Nat) (w : World) : Prop :=
  Calls Tryd.prog g vs.toArray w fun e w' => ∃ x : VX, VXF o l at' K x ∧ e = .returned (.agg x.cs.toArray) ∧ Upd b (tC va ca l x.p x.bad) TT w w' ∧ ∃ A : Nat → Prop, (∀ k, A k → w.heap.size ≤ k) ∧ Held w' A [(x.j, x.cs)]
theorem enterVX {T : Tab} (hT : TabOk Tryd.prog T) {g : FuncId} {fn : Func} {cd : Code} (hf : Tryd.prog.funcs[g]? = some fn) (hb : fn.body = some cd) {N : Nat} (hN : fn.ntmps = N) {vs : List Value} (hle : Nat.ble vs.length N = true) {w : World} {o : Option (JV × Bs)} {va : Option Addr} {ca : Nat} {l : Bs} {at' K b : Nat} {L : List Ent}
    (hw : St [bl b] w w L) (h : cx ⟨Tryd.prog, T, N, [bl b], w, none⟩ cd (retK ⟨Tryd.prog, T, N, [bl b], w, none⟩ fn fun u w' => ∃ x : VX, VXF o l at' K x ∧ u = .agg x.cs.toArray ∧ Upd b (tC va ca l x.p x.bad) TT w w' ∧ ∃ A : Nat → Prop, (∀ k, A k → w.heap.size ≤ k) ∧ Held w' A [(x.j, x.cs)]) ⟨par 0 vs, L, []⟩) : VXC g vs o va ca l at' K b w :=
  (enter hT hf hb hN hle hw h).mono fun e w' ⟨u, he, x, hx, hu, h2⟩ => ⟨x, hx, by rw [he, hu], h2⟩
theorem cUX {C : Cx} {L : List Ent} (k : Nat) {g : FuncId} {vs : List Value} {c0 : Array Value} {o : Option (JV × Bs)} {va : Option Addr} {ca : Nat} {l : Bs} {at' K b : Nat} {next : Value → List Ent → Prop} (hP : C.P = Tryd.prog) (hk : L[k]? = some (cl b c0 TT))
    (h : ∀ w, St C.M C.B w L → VXC g vs o va ca l at' K b w) (go : ∀ x A w, VXF o l at' K x → Held w A [(x.j, x.cs)] → next (.agg x.cs.toArray) (L.set k (cl b (tC va ca l x.p x.bad) TT) ++ [rs (heldR A [(x.j, x.cs)])])) : CallP C g vs L next := by
  refine ⟨fun w hs => ?_⟩
  rw [hP]
  refine (h w hs).mono fun e w' ⟨x, hx, he, hu, A, hA, hH⟩ => ⟨_, _, he, ?_, go x A w' hx hH⟩
  refine St.join (hs.set hk hu.size hu.ok hu.old hu.os hu.tape hu.output) ((rsOk _ _).2 hH) hs.size (fun i hi => ?_) (fun f hf i hi => ?_)
  · rcases (rsA _ _).1 hi with hi | hi
    · exact hA i hi
    · exact hi.elim
  · rcases List.mem_or_eq_of_mem_set hf with hf | rfl
    · exact hs.ltA hf hi
    · have h2 := hs.ltA (List.mem_of_getElem? hk) (k := b) (.inl ⟨rfl, rfl⟩)
      obtain rfl : b = i := by simpa using hi
      exact h2
theorem CallP.from {C : Cx} {g : FuncId} {vs : List Value} {L L' : List Ent} {next : Value → List Ent → Prop} (hL : ∀ w, St C.M C.B w L → St C.M C.B w L') (h : CallP C g vs L' next) : CallP C g vs L next := ⟨fun w hs => h.go w (hL w hs)⟩
theorem St.rdXH {va : Option Addr} {ca : Nat} {l : Bs} {at' b : Nat} {bad : Bool} {w : World} (hb : w.heap[b]? = some (.cells (tC va ca l at' bad) TT (0, 0))) (h : Rd w (.slice va l.length ca) (Lib.byteCells l)) : St [bl b] w w [cl b (tC va ca l at' bad) TT, rs (rdB va ca l), rs (heldR (fun _ => False) [])] :=
  St.join (St.rdX hb h) (e := rs (heldR (fun _ => False) [])) ((rsOk _ _).2 ⟨fun _ h => h.elim, fun x hx => by simp at hx⟩) (Nat.le_refl _) (fun k hk => ((rsA _ _).1 hk).elim (fun h => h.elim) fun h => h.elim) (fun f hf k hk => (St.rdX hb h).ltA hf hk)
/-- a reader of values, in a text that stands at b, at a depth -/
def VIsX (V : Bs → Option (JV × Bs)) (va : Option Addr) (ca : Nat) (l : Bs) (b d K : Nat) : Prop := ∀ (at' : Nat) (w : World), at' ≤ l.length → w.heap[b]? = some (.cells (tC va ca l at' false) TT (0, 0)) → Rd w (.slice va l.length ca) (Lib.byteCells l) → VXC 28 [pj b, .int .i64 (d : Int)] (V (l.drop at')) va ca l at' K b w
/-- the next byte behind blanks -/
theorem eat_at {c : UInt8} {l : Bs} {q p : Nat} (hp : l.drop p = ws (l.drop q)) (hb : blk c = false) : eatP c (l.drop q) = if nx (l.drop p) = (c.toNat : Int) ∧ p < l.length then (true, l.drop (p + 1)) else (false, l.drop p) := by
  cases hs : l.drop p with
  | nil =>
    rw [eat_nil (by rw [← hp, hs])]
    have : ¬ p < l.length := fun h => by have := congrArg List.length hs; rw [List.length_drop] at this; simp only [List.length_nil] at this; omega
    rw [if_neg (fun h => this h.2)]
  | cons x t =>
    have hlt : p < l.length := by
      rcases Nat.lt_or_ge p l.length with h | h
      · exact h
      · rw [List.drop_of_length_le h] at hs; cases hs
    have hdr : l.drop (p + 1) = t := by rw [← List.drop_drop, hs]; rfl
    by_cases hx : x = c
    · rw [eat_yes (by rw [← hp, hs, hx]), if_pos ⟨by show (x.toNat : Int) = _; rw [hx], hlt⟩, hdr]
    · rw [eat_no (by rw [← hp, hs]) hx, if_neg]
      rintro ⟨h, _⟩
      have h : (x.toNat : Int) = c.toNat := h
      exact hx (UInt8.toNat_inj.1 (by omega))
end Go.Proofs.YtpegkoklmhccjaaDoor
end
section
namespace Go.Proofs.YtpegkoklmhccjaaDoor
open Go.RowKit Go.Sx
set_option linter.unusedVariables false
theorem ws_ws (s : Bs) : ws (ws s) = ws s := by
  induction s with
  | nil => rfl
  | cons c s ih =>
    by_cases h : blk c = true
    · rw [show ws (c :: s) = ws s by rw [ws, if_pos h]]; exact ih
    · rw [show ws (c :: s) = c :: s by rw [ws, if_neg h], ws, if_neg h]
theorem bsVx (v0 v1 v2 v3 v4 : Value) (w : World) : (Instr.buildSlice 22 1 #[(0, .agg #[v0, v1, v2, v3, v4])]).run Tryd.prog w = .ok (.slice (some ⟨w.heap.size, 0, none⟩) 1 1) (w.alloc (.cells #[v0, v1, v2, v3, v4] TV)) := by
  obtain ⟨i, hi, hz, hs, hb⟩ := infoOf infoV
  exact run_buildSlice w _ _ 1 _ #[v0, v1, v2, v3, v4] i (.agg (valC 0 0 [])) undL hi hz (by rw [hs]; decide) (by rw [hs]; decide) (by rw [hs]; kernel_rfl)
structure LX where
  ks : List (JV × List Value)
  r : Sx.Own
  a : Option Addr
  cc : Nat
  A : Nat → Prop
  q : Nat
  bad : Bool
  n : Nat
def lxL (va : Option Addr) (ca : Nat) (l : Bs) (b b4 b5 : Nat) (x : LX) : List Ent := [cl b (tC va ca l x.q x.bad) TT, rs (rdB va ca l), rs (heldR x.A x.ks), cl b4 (valC 0 0 []) TV, cl b5 #[.int .i64 4, .int .i64 0, sj [], .slice x.a x.ks.length x.cc, .slice none 0 0] TV, se x.r (ksX x.ks) TV]
section
variable {va : Option Addr} {ca : Nat} {l : Bs} {at' : Nat} {b : Nat} {w : World}
set_option maxRecDepth 100000 in
set_option maxHeartbeats 4000000 in
theorem list_deepX {d : Nat} (hd : 8 < d) (hd2 : d ≤ 100) (hl : l.length ≤ 100000) (ha : at' ≤ l.length) (hb : w.heap[b]? = some (.cells (tC va ca l at' false) TT (0, 0))) (h : Rd w (.slice va l.length ca) (Lib.byteCells l)) : VXC 39 [pj b, .int .i64 (d : Int)] none va ca l at' 1 b w := by
  refine enterVX tab_ok Tryd.func39 rfl Tryd.ntmps39 rfl (St.rdXH hb h) ?_
  intro b4
  refine bu (c := valC 4 0 []) rfl ?_
  intro b5
  refine sN 4 rfl rfl (by simp [Value.oneCell']) ?_ (by kernel_rfl)
  refine ct (decide_eq_true (by omega)) ?_
  refine s1 0 rfl (by show 2 < 3; decide) ?_
  refine ldN 4 rfl rfl ?_
  refine sN 3 rfl rfl (by simp [Value.oneCell']) ?_ (by kernel_rfl)
  refine ldN 3 rfl rfl ?_
  exact ⟨fun w' hs => by
    obtain ⟨hu, hA⟩ := list_endG (hs.deads) 1 4 (r := none) (ks := []) rfl rfl (Rw.nil 5) rfl (fun y hy => by simp at hy) (by decide)
    exact ⟨⟨_, _, at', true⟩, ⟨Nat.le_refl _, by dsimp only; omega, .inl ⟨rfl, rfl⟩⟩, rfl, hu, hA⟩⟩
set_option maxRecDepth 100000 in
set_option maxHeartbeats 4000000 in
theorem list_ref {V : Bs → Option (JV × Bs)} {d K : Nat} (hd : d ≤ 8) (hK : 1 ≤ K) (hK2 : K ≤ 50) (hV : VIsX V va ca l b d K) (hl : l.length ≤ 100000) (ha : at' < l.length) (hb : w.heap[b]? = some (.cells (tC va ca l at' false) TT (0, 0))) (h : Rd w (.slice va l.length ca) (Lib.byteCells l)) : VXC 39 [pj b, .int .i64 (d : Int)] (lstG V (l.drop (at' + 1))) va ca l at' (K + 1) b w := by
  refine enterVX tab_ok Tryd.func39 rfl Tryd.ntmps39 rfl (St.rdXH hb h) ?_
  intro b4
  refine bu (c := valC 4 0 []) rfl ?_
  intro b5
  refine sN 4 rfl rfl (by simp [Value.oneCell']) ?_ (by kernel_rfl)
  refine cf (decide_eq_false (by omega)) ?_
  refine ld1 0 rfl rfl ?_
  refine .as (((at' + 1 : Nat) : Int)) (by (try dsimp only); omega) (by simp only [mn]; omega) (by simp only [mx]; omega) ?_
  refine s1 0 rfl (by show 1 < 3; decide) ?_
  refine cUs (c := fun x : Nat => tC va ca l x false) (v := fun _ => .tuple #[]) (Φ := fun x : Nat => at' + 1 ≤ x ∧ (x ≤ l.length ∨ x = at' + 1) ∧ l.drop x = ws (l.drop (at' + 1))) 0 rfl (fun w hs => rblanks_any hl (by omega) (hs.nth (k := 0) rfl) (hs.res (k := 1) rfl)) (fun p2 hp2 => ?_)
  obtain ⟨g1, g2, g3⟩ := hp2
  dsimp only
  have hp2 : p2 ≤ l.length := by omega
  have he := eat_at (c := 93) g3 (by decide)
  refine cvs (fun w hs => next_any (hs.nth (k := 0) rfl) (hs.res (k := 1) rfl)) ?_
  by_cases h93 : nx (l.drop p2) = 93
  case pos =>
    have hlt : p2 < l.length := by
      rcases Nat.lt_or_ge p2 l.length with h | h
      · exact h
      · rw [List.drop_of_length_le h] at h93; cases h93
    rw [if_pos ⟨by rw [h93]; rfl, hlt⟩] at he
    refine ct (by rw [h93]; rfl) ?_
    refine ld1 0 rfl rfl ?_
    refine .as (((p2 + 1 : Nat) : Int)) (by (try dsimp only); omega) (by simp only [mn]; omega) (by simp only [mx]; omega) ?_
    refine s1 0 rfl (by show 1 < 3; decide) ?_
    refine ldN 4 rfl rfl ?_
    refine sN 3 rfl rfl (by simp [Value.oneCell']) ?_ (by kernel_rfl)
    refine ldN 3 rfl rfl ?_
    exact ⟨fun w' hs => by
      obtain ⟨hu, hA⟩ := list_endG (hs.deads) 1 4 (r := none) (ks := []) rfl rfl (Rw.nil 5) rfl (fun y hy => by simp at hy) (by decide)
      exact ⟨⟨_, _, p2 + 1, false⟩, ⟨by dsimp only; omega, by dsimp only; omega, .inr ⟨by unfold lstG; rw [he]; rfl, hlt, rfl⟩⟩, rfl, hu, hA⟩⟩
  rw [if_neg (fun h => h93 (by rw [h.1]; rfl))] at he
  refine cf (by rw [beq_eq_false_iff_ne]; exact h93) ?_
  have hspec : lstG V (l.drop (at' + 1)) = (itmG V ((l.drop p2).length + 1) (l.drop p2)).map fun p => (.mk 4 0 [] p.1 [], p.2) := by unfold lstG; rw [he]; rfl
  rw [hspec]
  clear hspec he
  refine lp tab_ok (fun x : LX => at' + 1 ≤ x.q ∧ x.q ≤ l.length + (K + 1) ∧ Rw 5 x.ks.length x.r (ksX x.ks) ∧ sv x.r x.ks.length = .slice x.a x.ks.length x.cc ∧ (∀ y ∈ x.ks, y.2.length = 5) ∧ x.ks.length ≤ x.q ∧ ((x.bad = true ∧ itmG V ((l.drop p2).length + 1) (l.drop p2) = none) ∨ (x.bad = false ∧ x.q ≤ l.length ∧ x.ks.length + (l.length - x.q) ≤ l.length ∧ (l.drop x.q).length < x.n ∧ itmG V ((l.drop p2).length + 1) (l.drop p2) = (itmG V x.n (l.drop x.q)).map fun p => (x.ks.map (·.1) ++ p.1, p.2)))) (fun x => ⟨[(0, pj b), (1, .int .i64 (d : Int)), (4, pj b4), (5, pj b5)], lxL va ca l b b4 b5 x, []⟩) (fun x => cond x.bad 0 (x.n + 1)) ⟨[], none, none, 0, fun _ => False, p2, false, (l.drop p2).length + 1⟩
    ⟨by dsimp only; omega, by dsimp only; omega, Rw.nil 5, rfl, fun y hy => by simp at hy, Nat.zero_le _, .inr ⟨rfl, hp2, by simp, Nat.lt_succ_self _, by simp⟩⟩ ⟨⟨rfl, rfl, rfl, rfl, trivial⟩, .cons (.cons (.cons (.cons (.cons (.pad .nil))))), rfl⟩ ?_
  rintro ⟨ks, r, a, cc, A, q, bd, n⟩ ⟨h1, h2, hR, he2, hz, hkq, hJ⟩
  dsimp only at h1 h2 hR he2 hz hkq hJ
  have hkm : ks.length ≤ maxLen := by unfold maxLen; omega
  refine ld1 0 rfl (v := .bool bd) rfl ?_
  rcases hJ with ⟨rfl, hq⟩ | ⟨rfl, hql, hkl, hn, hq⟩
  case inl =>
    refine cf rfl ?_
    refine ldN 4 rfl rfl ?_
    refine sN 3 rfl rfl (by simp [Value.oneCell']) ?_ (by kernel_rfl)
    refine ldN 3 rfl rfl ?_
    exact ⟨fun w' hs => by
      obtain ⟨hu, hA⟩ := list_endG hs 1 4 rfl rfl hR he2 hz hkm
      exact ⟨⟨_, _, q, true⟩, ⟨by dsimp only; omega, h2, .inl ⟨by rw [hq]; rfl, rfl⟩⟩, rfl, hu, hA⟩⟩
  refine ct rfl ?_
  obtain ⟨m, rfl⟩ : ∃ m, n = m + 1 := ⟨n - 1, by omega⟩
  refine drs [dead, dead, dead, dead, cl b5 #[.int .i64 4, .int .i64 0, sj [], .slice a ks.length cc, .slice none 0 0] TV, dead] [8] (.t 0 (.t 1 (.t 2 (.t 3 (.n 4 (.n 5 (.n 6 (.t 7 (.n 8 .nil))))))))) tab_ok mixed_ok (by kernel_rfl) (.dead (.dead (.dead (.dead (.cons (.dead .nil)))))) ?_
  refine ld1 4 rfl rfl ?_
  refine cUX 0 rfl rfl (fun w hs => hV q w hql (hs.nth (k := 0) rfl) (hs.res (k := 1) rfl)) (fun x A' w0 hx hH => ?_)
  obtain ⟨j, cs, p1, bd1⟩ := x
  obtain ⟨k1, k2, hx⟩ := hx
  have hcs := hH.2 _ (List.mem_singleton.2 rfl)
  have hc5 := hcs.len
  have hc1 := hcs.one
  clear hcs hH
  dsimp only at k1 k2 hx hc5 hc1 ⊢
  obtain ⟨v0, v1, v2, v3, v4, rfl⟩ : ∃ v0 v1 v2 v3 v4, cs = [v0, v1, v2, v3, v4] := by
    match cs, hc5 with
    | [v0, v1, v2, v3, v4], _ => exact ⟨v0, v1, v2, v3, v4, rfl⟩
  refine ⟨.dead (.dead (.dead (.dead (.cons (.dead .nil))))), ?_⟩
  refine .mk _ _ (fun w => bsVx v0 v1 v2 v3 v4 w) (fun bn => ?_)
  refine ⟨.dead (.dead (.dead (.dead (.cons (.dead .nil))))), ?_⟩
  refine apV 5 he2 tab_ok (news := [v0, v1, v2, v3, v4]) (m := 1) rfl infoV rfl rfl hR (srcE (C := ⟨Tryd.prog, tab, 67, [bl b], w, none⟩) (e' := TV) (tx := 22) (z := 5) rfl tab_ok (src 7 rfl rfl) rfl (List.all_eq_true.1 hc1)) (by omega) (by unfold maxLen; omega) (by decide) (fun g cap jn hR' => ?_)
  refine ⟨.dead (.dead (.dead (.dead (.cons (.dead .nil))))), ?_⟩
  refine s1 4 rfl (by show 3 < 5; decide) ?_
  have hlen : (ks ++ [(j, [v0, v1, v2, v3, v4])]).length = ks.length + 1 := by simp
  have hap : ksX (ks ++ [(j, [v0, v1, v2, v3, v4])]) = ksX ks ++ [v0, v1, v2, v3, v4] := ksX_app ks j _
  have hRn : Rw 5 (ks ++ [(j, [v0, v1, v2, v3, v4])]).length (some (g, cap, jn)) (ksX (ks ++ [(j, [v0, v1, v2, v3, v4])])) := by rw [hap, hlen]; exact hR'
  have hz' : ∀ y ∈ ks ++ [(j, [v0, v1, v2, v3, v4])], y.2.length = 5 := fun y hy => by
    rcases List.mem_append.1 hy with hy | hy
    · exact hz y hy
    · obtain rfl : y = (j, [v0, v1, v2, v3, v4]) := by simpa using hy
      rfl
  refine CallP.from (L' := lxL va ca l b b4 b5 ⟨ks ++ [(j, [v0, v1, v2, v3, v4])], some (g, cap, jn), some ⟨g, 0, none⟩, cap, fun i => A i ∨ A' i, p1, bd1, m⟩) (fun w hs => (St.kids hs (k := 2) (j := 6) rfl rfl (by decide)).sub (by unfold lxL; dsimp only; rw [hap, hlen]; exact .cons (.cons (.cons (.cons (.cons (.cons .nil))))))) ?_
  have hkm' : (ks ++ [(j, [v0, v1, v2, v3, v4])]).length ≤ maxLen := by rw [hlen]; unfold maxLen; omega
  generalize hks : ks ++ [(j, [v0, v1, v2, v3, v4])] = ks' at hRn hz' hlen hkm' ⊢
  clear hap hR'
  refine cUs (c := fun x : Nat => tC va ca l x bd1) (v := fun _ => .tuple #[]) (Φ := fun x : Nat => p1 ≤ x ∧ (x ≤ l.length ∨ x = p1) ∧ l.drop x = ws (l.drop p1)) 0 rfl (fun w hs => rblanks_any hl (by omega) (hs.nth (k := 0) rfl) (hs.res (k := 1) rfl)) (fun p3 hp3 => ?_)
  obtain ⟨g4, g5, g6⟩ := hp3
  dsimp only
  refine cvs (fun w hs => next_any (hs.nth (k := 0) rfl) (hs.res (k := 1) rfl)) ?_
  refine ld1 0 rfl rfl ?_
  refine .as (((p3 + 1 : Nat) : Int)) (by (try dsimp only); omega) (by simp only [mn]; omega) (by simp only [mx]; omega) ?_
  refine s1 0 rfl (by show 1 < 3; decide) ?_
  rcases hx with ⟨hx, rfl⟩ | ⟨hx, hp1, rfl⟩
  · -- the value was none
    have hno : itmG V (m + 1) (l.drop q) = none := by rw [itmG, hx]
    refine cq (fun h93 => ?_) (fun h93 => ?_)
    · refine ldN 4 rfl rfl ?_
      refine sN 3 rfl rfl (by simp [Value.oneCell']) ?_ (by kernel_rfl)
      refine ldN 3 rfl rfl ?_
      exact ⟨fun w' hs => by
        obtain ⟨hu, hA⟩ := list_endG hs 1 4 rfl rfl hRn (by rw [hlen]; rfl) hz' hkm'
        exact ⟨⟨_, _, p3 + 1, true⟩, ⟨by dsimp only; omega, by dsimp only; omega, .inl ⟨by rw [hq, hno]; rfl, rfl⟩⟩, by rw [hlen]; rfl, hu, hA⟩⟩
    · by_cases h44 : nx (l.drop p3) = 44
      · refine cf (by rw [h44]; rfl) ?_
        exact ⟨⟨ks', some (g, cap, jn), some ⟨g, 0, none⟩, cap, fun i => A i ∨ A' i, p3 + 1, true, m⟩, ⟨by dsimp only; omega, by dsimp only; omega, hRn, by rw [hlen]; rfl, hz', by dsimp only; omega, .inl ⟨rfl, by rw [hq, hno]; rfl⟩⟩, by dsimp only [cond]; omega, ⟨⟨rfl, rfl, rfl, rfl, trivial⟩, .cons (.cons (.cons (.cons (.cons (.cons .nil))))), rfl⟩⟩
      · refine ct (by rw [bne_iff_ne]; exact h44) ?_
        refine s1 0 rfl (by show 2 < 3; decide) ?_
        exact ⟨⟨ks', some (g, cap, jn), some ⟨g, 0, none⟩, cap, fun i => A i ∨ A' i, p3 + 1, true, m⟩, ⟨by dsimp only; omega, by dsimp only; omega, hRn, by rw [hlen]; rfl, hz', by dsimp only; omega, .inl ⟨rfl, by rw [hq, hno]; rfl⟩⟩, by dsimp only [cond]; omega, ⟨⟨rfl, rfl, rfl, rfl, trivial⟩, .cons (.cons (.cons (.cons (.cons (.cons .nil))))), rfl⟩⟩
  · have hI : itmG V (m + 1) (l.drop q) = if (eatP 93 (l.drop p1)).1 then some ([j], (eatP 93 (l.drop p1)).2) else if (eatP 44 (eatP 93 (l.drop p1)).2).1 then (itmG V m (eatP 44 (eatP 93 (l.drop p1)).2).2).map fun p => (j :: p.1, p.2) else none := by rw [itmG, hx]
    have hp3 : p3 ≤ l.length := by omega
    have e93 := eat_at (c := 93) g6 (by decide)
    have e44 := eat_at (c := 44) (l := l) (q := p3) (p := p3) (by rw [g6]; exact (ws_ws _).symm) (by decide)
    have lt_of : ∀ z : Int, z ≠ 0 → nx (l.drop p3) = z → p3 < l.length := fun z hz0 hz => by
      rcases Nat.lt_or_ge p3 l.length with h | h
      · exact h
      · rw [List.drop_of_length_le h] at hz; exact absurd hz.symm hz0
    have hkj : ks'.map (·.1) = ks.map (·.1) ++ [j] := by rw [← hks]; simp
    refine cq (fun h93 => ?_) (fun h93 => ?_)
    · have hlt := lt_of 93 (by decide) h93
      rw [if_pos ⟨by rw [h93]; rfl, hlt⟩] at e93
      refine ldN 4 rfl rfl ?_
      refine sN 3 rfl rfl (by simp [Value.oneCell']) ?_ (by kernel_rfl)
      refine ldN 3 rfl rfl ?_
      exact ⟨fun w' hs => by
        obtain ⟨hu, hA⟩ := list_endG hs 1 4 rfl rfl hRn (by rw [hlen]; rfl) hz' hkm'
        exact ⟨⟨_, _, p3 + 1, false⟩, ⟨by dsimp only; omega, by dsimp only; omega, .inr ⟨by rw [hq, hI, e93, hkj]; rfl, hlt, rfl⟩⟩, by rw [hlen]; rfl, hu, hA⟩⟩
    · rw [if_neg (fun h => h93 (by rw [h.1]; rfl))] at e93
      rw [e93] at hI
      by_cases h44 : nx (l.drop p3) = 44
      · have hlt := lt_of 44 (by decide) h44
        rw [if_pos ⟨by rw [h44]; rfl, hlt⟩] at e44
        refine cf (by rw [h44]; rfl) ?_
        have hl3 : (l.drop (p3 + 1)).length = l.length - (p3 + 1) := List.length_drop
        have hlq2 : (l.drop q).length = l.length - q := List.length_drop
        exact ⟨⟨ks', some (g, cap, jn), some ⟨g, 0, none⟩, cap, fun i => A i ∨ A' i, p3 + 1, false, m⟩, ⟨by dsimp only; omega, by dsimp only; omega, hRn, by rw [hlen]; rfl, hz', by dsimp only; omega, .inr ⟨rfl, by dsimp only; omega, by dsimp only; omega, by dsimp only; omega, by
          rw [hq, hI, e44, hkj]
          cases itmG V m (l.drop (p3 + 1)) <;> simp⟩⟩, by dsimp only [cond]; omega, ⟨⟨rfl, rfl, rfl, rfl, trivial⟩, .cons (.cons (.cons (.cons (.cons (.cons .nil))))), rfl⟩⟩
      · rw [if_neg (fun h => h44 (by rw [h.1]; rfl))] at e44
        refine ct (by rw [bne_iff_ne]; exact h44) ?_
        refine s1 0 rfl (by show 2 < 3; decide) ?_
        exact ⟨⟨ks', some (g, cap, jn), some ⟨g, 0, none⟩, cap, fun i => A i ∨ A' i, p3 + 1, true, m⟩, ⟨by dsimp only; omega, by dsimp only; omega, hRn, by rw [hlen]; rfl, hz', by dsimp only; omega, .inl ⟨rfl, by rw [hq, hI, e44]; rfl⟩⟩, by dsimp only [cond]; omega, ⟨⟨rfl, rfl, rfl, rfl, trivial⟩, .cons (.cons (.cons (.cons (.cons (.cons .nil))))), rfl⟩⟩
end
end Go.Proofs.YtpegkoklmhccjaaDoor
end
section
namespace Go.Proofs.YtpegkoklmhccjaaDoor
open Go.RowKit Go.Sx
set_option linter.unusedVariables false
theorem bsPx (nm v0 v1 v2 v3 v4 : Value) (w : World) : (Instr.buildSlice 23 1 #[(0, .agg #[nm, v0, v1, v2, v3, v4])]).run Tryd.prog w = .ok (.slice (some ⟨w.heap.size, 0, none⟩) 1 1) (w.alloc (.cells #[nm, v0, v1, v2, v3, v4] TP)) := by
  obtain ⟨i, hi, hz, hs, hb⟩ := infoOf infoP
  exact run_buildSlice w _ _ 1 _ #[nm, v0, v1, v2, v3, v4] i (.agg zP) undPs hi hz (by rw [hs]; decide) (by rw [hs]; decide) (by rw [hs]; kernel_rfl)
structure OX where
  ks : List Pr
  r : Sx.Own
  a : Option Addr
  cc : Nat
  A : Nat → Prop
  q : Nat
  bad : Bool
  n : Nat
abbrev nmS (ks : List Pr) : List Bs := (ks.map (·.name)).reverse
abbrev prJ (ks : List Pr) : List (Bs × JV) := ks.map fun q => (q.name, q.j)
def oxL (va : Option Addr) (ca : Nat) (l : Bs) (b b4 b5 : Nat) (x : OX) : List Ent := [cl b (tC va ca l x.q x.bad) TT, rs (rdB va ca l), rs (heldR x.A (prK x.ks)), cl b4 (valC 0 0 []) TV, cl b5 #[.int .i64 5, .int .i64 0, sj [], .slice none 0 0, .slice x.a x.ks.length x.cc] TV, se x.r (prX x.ks) TP]
theorem got_is (ps : List (Bs × JV)) (name : Bs) : ((JV.mk 5 0 [] [] ps).got name).isSome = decide (name ∈ ps.map (·.1)) := by
  rw [got_if, if_pos rfl, Option.isSome_map]
  induction ps with
  | nil => rfl
  | cons x t ih =>
    by_cases hx : x.1 = name
    · rw [List.find?_cons_of_pos (by simpa using hx)]; simp [hx]
    · rw [List.find?_cons_of_neg (by simpa using hx), ih]
      simp [show ¬ name = x.1 from fun e => hx e.symm]
theorem pre58 (s : Bs) : (pre [58] s).isSome = true ↔ nx s = 58 := by
  cases s with
  | nil => simp [pre, nx]
  | cons c t =>
    by_cases hc : c = 58
    · subst hc; simp [pre, nx]
    · have : ¬ (c.toNat : Int) = 58 := fun e => hc (UInt8.toNat_inj.1 (by have : (58 : UInt8).toNat = 58 := rfl; omega))
      have h2 : pre [58] (c :: t) = none := by
        show (if (58 : UInt8) = c then pre [] t else none) = none
        rw [if_neg (fun e => hc e.symm)]
      rw [h2]
      simp only [Option.isSome_none, Bool.false_eq_true, false_iff]
      exact this
section
variable {va : Option Addr} {ca : Nat} {l : Bs} {at' : Nat} {b : Nat} {w : World}
set_option maxRecDepth 100000 in
set_option maxHeartbeats 4000000 in
theorem object_deepX {d : Nat} (hd : 8 < d) (hd2 : d ≤ 100) (hl : l.length ≤ 100000) (ha : at' ≤ l.length) (hb : w.heap[b]? = some (.cells (tC va ca l at' false) TT (0, 0))) (h : Rd w (.slice va l.length ca) (Lib.byteCells l)) : VXC 40 [pj b, .int .i64 (d : Int)] none va ca l at' 1 b w := by
  refine enterVX tab_ok Tryd.func40 rfl Tryd.ntmps40 rfl (St.rdXH hb h) ?_
  intro b4
  refine bu (c := valC 5 0 []) rfl ?_
  intro b5
  refine sN 4 rfl rfl (by simp [Value.oneCell']) ?_ (by kernel_rfl)
  refine ct (decide_eq_true (by omega)) ?_
  refine s1 0 rfl (by show 2 < 3; decide) ?_
  refine ldN 4 rfl rfl ?_
  refine sN 3 rfl rfl (by simp [Value.oneCell']) ?_ (by kernel_rfl)
  refine ldN 3 rfl rfl ?_
  exact ⟨fun w' hs => by
    obtain ⟨hu, hA⟩ := object_endG (hs.deads) 1 4 (r := none) (ks := []) rfl rfl (Rw.nil 6) rfl (fun y hy => by simp at hy) (by decide)
    exact ⟨⟨_, _, at', true⟩, ⟨Nat.le_refl _, by dsimp only; omega, .inl ⟨rfl, rfl⟩⟩, rfl, hu, hA⟩⟩
set_option maxRecDepth 100000 in
set_option maxHeartbeats 8000000 in
theorem object_ref {V : Bs → Option (JV × Bs)} {d K : Nat} (hd : d ≤ 8) (hK : 1 ≤ K) (hK2 : K ≤ 50) (hV : VIsX V va ca l b d K) (hl : l.length ≤ 100000) (hca : l.length ≤ ca) (ha : at' < l.length) (hb : w.heap[b]? = some (.cells (tC va ca l at' false) TT (0, 0))) (h : Rd w (.slice va l.length ca) (Lib.byteCells l)) : VXC 40 [pj b, .int .i64 (d : Int)] (objG V (l.drop (at' + 1))) va ca l at' (K + 1) b w := by
  refine enterVX tab_ok Tryd.func40 rfl Tryd.ntmps40 rfl (St.rdXH hb h) ?_
  intro b4
  refine bu (c := valC 5 0 []) rfl ?_
  intro b5
  refine sN 4 rfl rfl (by simp [Value.oneCell']) ?_ (by kernel_rfl)
  refine cf (decide_eq_false (by omega)) ?_
  refine ld1 0 rfl rfl ?_
  refine .as (((at' + 1 : Nat) : Int)) (by (try dsimp only); omega) (by simp only [mn]; omega) (by simp only [mx]; omega) ?_
  refine s1 0 rfl (by show 1 < 3; decide) ?_
  refine cUs (c := fun x : Nat => tC va ca l x false) (v := fun _ => .tuple #[]) (Φ := fun x : Nat => at' + 1 ≤ x ∧ (x ≤ l.length ∨ x = at' + 1) ∧ l.drop x = ws (l.drop (at' + 1))) 0 rfl (fun w hs => rblanks_any hl (by omega) (hs.nth (k := 0) rfl) (hs.res (k := 1) rfl)) (fun p2 hp2 => ?_)
  obtain ⟨g1, g2, g3⟩ := hp2
  dsimp only
  have hp2 : p2 ≤ l.length := by omega
  have he := eat_at (c := 125) g3 (by decide)
  refine cvs (fun w hs => next_any (hs.nth (k := 0) rfl) (hs.res (k := 1) rfl)) ?_
  by_cases h93 : nx (l.drop p2) = 125
  case pos =>
    have hlt : p2 < l.length := by
      rcases Nat.lt_or_ge p2 l.length with h | h
      · exact h
      · rw [List.drop_of_length_le h] at h93; cases h93
    rw [if_pos ⟨by rw [h93]; rfl, hlt⟩] at he
    refine ct (by rw [h93]; rfl) ?_
    refine ld1 0 rfl rfl ?_
    refine .as (((p2 + 1 : Nat) : Int)) (by (try dsimp only); omega) (by simp only [mn]; omega) (by simp only [mx]; omega) ?_
    refine s1 0 rfl (by show 1 < 3; decide) ?_
    refine ldN 4 rfl rfl ?_
    refine sN 3 rfl rfl (by simp [Value.oneCell']) ?_ (by kernel_rfl)
    refine ldN 3 rfl rfl ?_
    exact ⟨fun w' hs => by
      obtain ⟨hu, hA⟩ := object_endG (hs.deads) 1 4 (r := none) (ks := []) rfl rfl (Rw.nil 6) rfl (fun y hy => by simp at hy) (by decide)
      exact ⟨⟨_, _, p2 + 1, false⟩, ⟨by dsimp only; omega, by dsimp only; omega, .inr ⟨by unfold objG; rw [he]; rfl, hlt, rfl⟩⟩, rfl, hu, hA⟩⟩
  rw [if_neg (fun h => h93 (by rw [h.1]; rfl))] at he
  refine cf (by rw [beq_eq_false_iff_ne]; exact h93) ?_
  have hspec : objG V (l.drop (at' + 1)) = (prsG V [] ((l.drop p2).length + 1) (l.drop p2)).map fun p => (.mk 5 0 [] [] p.1, p.2) := by unfold objG; rw [he]; rfl
  rw [hspec]
  clear hspec he
  refine lp tab_ok (fun x : OX => at' + 1 ≤ x.q ∧ x.q ≤ l.length + (K + 1) ∧ Rw 6 x.ks.length x.r (prX x.ks) ∧ sv x.r x.ks.length = .slice x.a x.ks.length x.cc ∧ (∀ y ∈ x.ks, y.cs.length = 5) ∧ x.ks.length ≤ x.q ∧ ((x.bad = true ∧ prsG V [] ((l.drop p2).length + 1) (l.drop p2) = none) ∨ (x.bad = false ∧ x.q ≤ l.length ∧ (l.drop x.q).length < x.n ∧ prsG V [] ((l.drop p2).length + 1) (l.drop p2) = (prsG V (nmS x.ks) x.n (l.drop x.q)).map fun p => (prJ x.ks ++ p.1, p.2)))) (fun x => ⟨[(0, pj b), (1, .int .i64 (d : Int)), (4, pj b4), (5, pj b5)], oxL va ca l b b4 b5 x, []⟩) (fun x => cond x.bad 0 (x.n + 1)) ⟨[], none, none, 0, fun _ => False, p2, false, (l.drop p2).length + 1⟩
    ⟨by dsimp only; omega, by dsimp only; omega, Rw.nil 6, rfl, fun y hy => by simp at hy, Nat.zero_le _, .inr ⟨rfl, hp2, Nat.lt_succ_self _, by show _ = (prsG V [] _ _).map _; simp⟩⟩ ⟨⟨rfl, rfl, rfl, rfl, trivial⟩, .cons (.cons (.cons (.cons (.cons (.pad .nil))))), rfl⟩ ?_
  rintro ⟨ks, r, a, cc, A, q, bd, n⟩ ⟨h1, h2, hR, he2, hz, hkq, hJ⟩
  dsimp only at h1 h2 hR he2 hz hkq hJ
  have hkm : ks.length ≤ maxLen := by unfold maxLen; omega
  refine ld1 0 rfl (v := .bool bd) rfl ?_
  rcases hJ with ⟨rfl, hq⟩ | ⟨rfl, hql, hn, hq⟩
  case inl =>
    refine cf rfl ?_
    refine ldN 4 rfl rfl ?_
    refine sN 3 rfl rfl (by simp [Value.oneCell']) ?_ (by kernel_rfl)
    refine ldN 3 rfl rfl ?_
    exact ⟨fun w' hs => by
      obtain ⟨hu, hA⟩ := object_endG hs 1 4 rfl rfl hR he2 hz hkm
      exact ⟨⟨_, _, q, true⟩, ⟨by dsimp only; omega, by dsimp only; omega, .inl ⟨by rw [hq]; rfl, rfl⟩⟩, rfl, hu, hA⟩⟩
  refine ct rfl ?_
  obtain ⟨m, rfl⟩ : ∃ m, n = m + 1 := ⟨n - 1, by omega⟩
  have hnone : onePr V (nmS ks) (l.drop q) = none → (prsG V [] ((l.drop p2).length + 1) (l.drop p2)).map (fun p => (JV.mk 5 0 [] [] p.1, p.2)) = none := fun h => by
    rw [hq]
    have : prsG V (nmS ks) (m + 1) (l.drop q) = none := by rw [prsG, h]
    rw [this]; rfl
  refine cUs (c := fun x : Nat => tC va ca l x false) (v := fun _ => .tuple #[]) (Φ := fun x : Nat => q ≤ x ∧ (x ≤ l.length ∨ x = q) ∧ l.drop x = ws (l.drop q)) 0 rfl (fun w hs => rblanks_any hl (by omega) (hs.nth (k := 0) rfl) (hs.res (k := 1) rfl)) (fun q1 hq1 => ?_)
  obtain ⟨f1, f2, f3⟩ := hq1
  have hq1l : q1 ≤ l.length := by omega
  dsimp only
  refine cUs (c := fun x : QX => tC va ca l x.p x.bad) (v := fun x => sj x.t) (Φ := QxF (textP (l.drop q1)) l q1) 0 rfl (fun w hs => quoted_any hl hca hq1l (hs.nth (k := 0) rfl) (hs.res (k := 1) rfl)) (fun x hx => ?_)
  obtain ⟨name, q2, bd2⟩ := x
  obtain ⟨j1, j2, hx⟩ := hx
  dsimp only at j1 j2 hx ⊢
  refine bu (c := #[sj name, .int .i64 0, .int .i64 0, sj [], .slice none 0 0, .slice none 0 0]) rfl ?_
  intro b6
  refine sN 6 rfl rfl (by simp [Value.oneCell']) ?_ (by kernel_rfl)
  refine cUs (c := fun x : Nat => tC va ca l x bd2) (v := fun _ => .tuple #[]) (Φ := fun x : Nat => q2 ≤ x ∧ (x ≤ l.length ∨ x = q2) ∧ l.drop x = ws (l.drop q2)) 0 rfl (fun w hs => rblanks_any hl (by omega) (hs.nth (k := 0) rfl) (hs.res (k := 1) rfl)) (fun q3 hq3 => ?_)
  obtain ⟨f4, f5, f6⟩ := hq3
  dsimp only
  refine cUs (c := fun x : Nat × Bool => tC va ca l x.1 x.2) (v := fun _ => .tuple #[]) (Φ := WdF [58] l q3 bd2) 0 rfl (fun w hs => word_ref (p := [58]) (by decide) (by decide) hl (by omega) hca (hs.nth (k := 0) rfl) (hs.res (k := 1) rfl)) (fun x hx2 => ?_)
  obtain ⟨q4, bd4⟩ := x
  dsimp only
  refine ldN 4 rfl rfl ?_
  refine ld1 6 rfl (v := sj name) rfl ?_
  refine ce (Φ := fun o : Option CT => o.isSome = decide (name ∈ (prJ ks).map (·.1)) ∧ ∀ g, o = some g → g.cs.all (·.oneCell') = true) (v := getV) (fun w' hs => by
    obtain ⟨_, A2, _, hH⟩ := object_endG hs 1 4 rfl rfl hR he2 hz hkm
    obtain ⟨c, hc1, hc2⟩ := (hH.2 _ (List.mem_singleton.2 rfl)).ct
    have hg := rget_any A2 c _ name w' ⟨hH.1, hc2⟩
    rw [hc1] at hg
    refine hg.mono fun e w2 ⟨he, hb⟩ => ⟨c.got name, ⟨?_, ?_⟩, he, hb⟩
    · rw [← got_is]
      rcases got_both hc2.cs name with ⟨u1, u2⟩ | ⟨g, gj, u1, u2, _⟩
      · rw [u1, u2]; rfl
      · rw [u1, u2]; rfl
    · intro g hgg
      rcases got_both hc2.cs name with ⟨u1, u2⟩ | ⟨g', gj, u1, u2, u3, _⟩
      · rw [u1] at hgg; cases hgg
      · rw [u1] at hgg; obtain rfl := Option.some.inj hgg; exact u3.one) (fun og hog => ?_)
  obtain ⟨gc, gb, hgv, hgc, hgs, hgb⟩ : ∃ (gc : List Value) (gb : Bool), getV og = .tuple #[.agg gc.toArray, .bool gb] ∧ gc.length = 5 ∧ gc.all (·.oneCell') = true ∧ gb = decide (name ∈ nmS ks) := by
    have hm : decide (name ∈ (prJ ks).map (·.1)) = decide (name ∈ nmS ks) := decide_eq_decide.2 (by simp [nmS, prJ])
    rw [hm] at hog
    cases og with
    | none => exact ⟨(valC 0 0 []).toList, false, rfl, rfl, by simp [Value.oneCell'], hog.1⟩
    | some g => exact ⟨g.cs, true, rfl, g.cs5, hog.2 g rfl, hog.1⟩
  rw [hgv]
  clear hgv hog
  have key0 : onePr V (nmS ks) (l.drop q) = match textP (l.drop q1) with
      | none => none
      | some (name, t) => if name ∈ nmS ks then none else if (eatP 58 t).1 then (V (eatP 58 t).2).map fun p => (name, p.1, p.2) else none := by rw [onePr, ← f3]; rfl
  have e58 := eat_at (c := 58) f6 (by decide)
  have p58 := pre58 (l.drop q3)
  have hq4b : q4 ≤ l.length + 1 ∧ q3 ≤ q4 := by
    rcases hx2 with ⟨u1, u2⟩ | ⟨u1, u2, u3, u4⟩
    · obtain ⟨rfl, rfl⟩ := Prod.mk.injEq .. ▸ u2; omega
    · obtain ⟨rfl, rfl⟩ := Prod.mk.injEq .. ▸ u4; simp only [List.length_singleton] at u2 ⊢; omega
  have key1 : gb = true → onePr V (nmS ks) (l.drop q) = none := fun h => by
    rw [key0]
    rcases hx with ⟨u1, _, _⟩ | ⟨u1, _, _⟩
    · rw [u1]
    · rw [u1]; dsimp only
      rw [if_pos (of_decide_eq_true (hgb.symm.trans h))]
  have key2 : bd4 = true → onePr V (nmS ks) (l.drop q) = none := fun h => by
    rw [key0]
    rcases hx with ⟨u1, _, _⟩ | ⟨u1, u2, u3⟩
    · rw [u1]
    · rw [u1]; dsimp only
      subst u3
      rcases hx2 with ⟨u4, u5⟩ | ⟨u4, u5, u6, u7⟩
      · by_cases hin : name ∈ nmS ks
        · rw [if_pos hin]
        · rw [if_neg (fun hh => by rw [u4] at p58; exact absurd (p58.2 hh.1) (by simp))] at e58
          rw [if_neg hin, e58]
          rfl
      · exact absurd ((congrArg Prod.snd u7).symm.trans h) (by simp)
  have key3 : gb = false → bd4 = false → q4 ≤ l.length ∧ onePr V (nmS ks) (l.drop q) = (V (l.drop q4)).map fun p => (name, p.1, p.2) := fun h1 h2 => by
    subst h2
    rcases hx2 with ⟨u4, u5⟩ | ⟨u4, u5, u6, u7⟩
    · exact absurd (congrArg Prod.snd u5) (by simp)
    · obtain ⟨rfl, rfl⟩ := Prod.mk.injEq .. ▸ u7
      simp only [List.length_singleton] at u5 ⊢
      refine ⟨u5, ?_⟩
      rw [key0]
      rcases hx with ⟨_, _, u3⟩ | ⟨u1, u2, _⟩
      · cases u3
      · rw [u1]; dsimp only
        rw [if_pos ⟨p58.1 u4, by omega⟩] at e58
        rw [if_neg (of_decide_eq_false (hgb.symm.trans h1)), e58]
        rfl
  clear key0 hx hx2 e58 p58 f3 hgb
  intro b7
  refine sN 7 rfl (by rw [List.size_toArray, hgc]; rfl) hgs ?_ (by rw [List.size_toArray, hgc]; kernel_rfl)
  cases gb
  case true =>
    refine ct rfl ?_
    refine s1 0 rfl (by show 2 < 3; decide) ?_
    refine ld1 0 rfl (v := .bool true) rfl ?_
    refine ct rfl ?_
    refine ldN 4 rfl rfl ?_
    refine sN 3 rfl rfl (by simp [Value.oneCell']) ?_ (by kernel_rfl)
    refine ldN 3 rfl rfl ?_
    exact ⟨fun w' hs => by
      obtain ⟨hu, hA⟩ := object_endG hs 1 4 rfl rfl hR he2 hz hkm
      exact ⟨⟨_, _, q4, true⟩, ⟨by dsimp only; omega, by dsimp only; omega, .inl ⟨hnone (key1 rfl), rfl⟩⟩, rfl, hu, hA⟩⟩
  refine cf rfl ?_
  refine ld1 0 rfl (v := .bool bd4) rfl ?_
  cases bd4
  case true =>
    refine ct rfl ?_
    refine ldN 4 rfl rfl ?_
    refine sN 3 rfl rfl (by simp [Value.oneCell']) ?_ (by kernel_rfl)
    refine ldN 3 rfl rfl ?_
    exact ⟨fun w' hs => by
      obtain ⟨hu, hA⟩ := object_endG hs 1 4 rfl rfl hR he2 hz hkm
      exact ⟨⟨_, _, q4, true⟩, ⟨by dsimp only; omega, by dsimp only; omega, .inl ⟨hnone (key2 rfl), rfl⟩⟩, rfl, hu, hA⟩⟩
  refine cf rfl ?_
  obtain ⟨hq4, key⟩ := key3 rfl rfl
  clear key1 key2 key3 hnone
  refine cUX 0 rfl rfl (fun w hs => hV q4 w hq4 (hs.nth (k := 0) rfl) (hs.res (k := 1) rfl)) (fun x A' w0 hx hH => ?_)
  obtain ⟨j, cs, p1, bd1⟩ := x
  obtain ⟨k1, k2, hx⟩ := hx
  have hcs := hH.2 _ (List.mem_singleton.2 rfl)
  have hc5 := hcs.len
  have hc1 := hcs.one
  clear hcs hH
  dsimp only at k1 k2 hx hc5 hc1 ⊢
  obtain ⟨v0, v1, v2, v3, v4, rfl⟩ : ∃ v0 v1 v2 v3 v4, cs = [v0, v1, v2, v3, v4] := by
    match cs, hc5 with
    | [v0, v1, v2, v3, v4], _ => exact ⟨v0, v1, v2, v3, v4, rfl⟩
  refine sP 6 (o := 1) (c := #[sj name, .int .i64 0, .int .i64 0, sj [], .slice none 0 0, .slice none 0 0]) (e := #[sj name, v0, v1, v2, v3, v4]) rfl (by show 6 ≤ 6; decide) hc1 rfl ?_ (by kernel_rfl)
  refine ld1 4 rfl rfl ?_
  refine ldN 6 rfl rfl ?_
  refine .mk _ _ (fun w => bsPx (sj name) v0 v1 v2 v3 v4 w) (fun bn => ?_)
  refine apV 5 he2 tab_ok (news := [sj name, v0, v1, v2, v3, v4]) (m := 1) rfl infoP rfl rfl hR (srcE (C := ⟨Tryd.prog, tab, 96, [bl b], w, none⟩) (e' := TP) (tx := 23) (z := 6) rfl tab_ok (src 9 rfl rfl) rfl (List.all_eq_true.1 (by rw [List.all_cons, hc1]; rfl))) (by omega) (by unfold maxLen; omega) (by decide) (fun g cap jn hR' => ?_)
  refine s1 4 rfl (by show 4 < 5; decide) ?_
  have hlen : (ks ++ [Pr.mk name j [v0, v1, v2, v3, v4]]).length = ks.length + 1 := by simp
  have hap : prX (ks ++ [Pr.mk name j [v0, v1, v2, v3, v4]]) = prX ks ++ [sj name, v0, v1, v2, v3, v4] := by simp [prX]
  have hpk : prK (ks ++ [Pr.mk name j [v0, v1, v2, v3, v4]]) = prK ks ++ [(j, [v0, v1, v2, v3, v4])] := by simp [prK]
  have hRn : Rw 6 (ks ++ [Pr.mk name j [v0, v1, v2, v3, v4]]).length (some (g, cap, jn)) (prX (ks ++ [Pr.mk name j [v0, v1, v2, v3, v4]])) := by rw [hap, hlen]; exact hR'
  have hz' : ∀ y ∈ ks ++ [Pr.mk name j [v0, v1, v2, v3, v4]], y.cs.length = 5 := fun y hy => by
    rcases List.mem_append.1 hy with hy | hy
    · exact hz y hy
    · obtain rfl : y = Pr.mk name j [v0, v1, v2, v3, v4] := by simpa using hy
      rfl
  refine CallP.from (L' := oxL va ca l b b4 b5 ⟨ks ++ [Pr.mk name j [v0, v1, v2, v3, v4]], some (g, cap, jn), some ⟨g, 0, none⟩, cap, fun i => A i ∨ A' i, p1, bd1, m⟩) (fun w hs => (St.kids hs (k := 2) (j := 8) rfl rfl (by decide)).sub (by unfold oxL; dsimp only; rw [hap, hlen, hpk]; exact .cons (.cons (.cons (.cons (.cons (.cons .nil))))))) ?_
  have hkm' : (ks ++ [Pr.mk name j [v0, v1, v2, v3, v4]]).length ≤ maxLen := by rw [hlen]; unfold maxLen; omega
  have hkj : prJ (ks ++ [Pr.mk name j [v0, v1, v2, v3, v4]]) = prJ ks ++ [(name, j)] := by simp [prJ]
  have hkn : nmS (ks ++ [Pr.mk name j [v0, v1, v2, v3, v4]]) = name :: nmS ks := by simp [nmS]
  generalize hks : ks ++ [Pr.mk name j [v0, v1, v2, v3, v4]] = ks' at hRn hz' hlen hkm' hkj hkn ⊢
  clear hap hR' hks hpk
  refine cUs (c := fun x : Nat => tC va ca l x bd1) (v := fun _ => .tuple #[]) (Φ := fun x : Nat => p1 ≤ x ∧ (x ≤ l.length ∨ x = p1) ∧ l.drop x = ws (l.drop p1)) 0 rfl (fun w hs => rblanks_any hl (by omega) (hs.nth (k := 0) rfl) (hs.res (k := 1) rfl)) (fun p3 hp3 => ?_)
  obtain ⟨g4, g5, g6⟩ := hp3
  dsimp only
  refine cvs (fun w hs => next_any (hs.nth (k := 0) rfl) (hs.res (k := 1) rfl)) ?_
  refine ld1 0 rfl rfl ?_
  refine .as (((p3 + 1 : Nat) : Int)) (by (try dsimp only); omega) (by simp only [mn]; omega) (by simp only [mx]; omega) ?_
  refine s1 0 rfl (by show 1 < 3; decide) ?_
  rcases hx with ⟨hx, rfl⟩ | ⟨hx, hp1, rfl⟩
  · -- the value was none
    have hno : prsG V (nmS ks) (m + 1) (l.drop q) = none := by rw [prsG, key, hx]; rfl
    refine cq (fun h93 => ?_) (fun h93 => ?_)
    · refine ldN 4 rfl rfl ?_
      refine sN 3 rfl rfl (by simp [Value.oneCell']) ?_ (by kernel_rfl)
      refine ldN 3 rfl rfl ?_
      exact ⟨fun w' hs => by
        obtain ⟨hu, hA⟩ := object_endG hs 1 4 rfl rfl hRn (by rw [hlen]; rfl) hz' hkm'
        exact ⟨⟨_, _, p3 + 1, true⟩, ⟨by dsimp only; omega, by dsimp only; omega, .inl ⟨by rw [hq, hno]; rfl, rfl⟩⟩, by rw [hlen]; rfl, hu, hA⟩⟩
    · by_cases h44 : nx (l.drop p3) = 44
      · refine cf (by rw [h44]; rfl) ?_
        exact ⟨⟨ks', some (g, cap, jn), some ⟨g, 0, none⟩, cap, fun i => A i ∨ A' i, p3 + 1, true, m⟩, ⟨by dsimp only; omega, by dsimp only; omega, hRn, by rw [hlen]; rfl, hz', by dsimp only; omega, .inl ⟨rfl, by rw [hq, hno]; rfl⟩⟩, by dsimp only [cond]; omega, ⟨⟨rfl, rfl, rfl, rfl, trivial⟩, .cons (.cons (.cons (.cons (.cons (.cons .nil))))), rfl⟩⟩
      · refine ct (by rw [bne_iff_ne]; exact h44) ?_
        refine s1 0 rfl (by show 2 < 3; decide) ?_
        exact ⟨⟨ks', some (g, cap, jn), some ⟨g, 0, none⟩, cap, fun i => A i ∨ A' i, p3 + 1, true, m⟩, ⟨by dsimp only; omega, by dsimp only; omega, hRn, by rw [hlen]; rfl, hz', by dsimp only; omega, .inl ⟨rfl, by rw [hq, hno]; rfl⟩⟩, by dsimp only [cond]; omega, ⟨⟨rfl, rfl, rfl, rfl, trivial⟩, .cons (.cons (.cons (.cons (.cons (.cons .nil))))), rfl⟩⟩
  · have hI : prsG V (nmS ks) (m + 1) (l.drop q) = if (eatP 125 (l.drop p1)).1 then some ([(name, j)], (eatP 125 (l.drop p1)).2) else if (eatP 44 (eatP 125 (l.drop p1)).2).1 then (prsG V (name :: nmS ks) m (eatP 44 (eatP 125 (l.drop p1)).2).2).map fun p => ((name, j) :: p.1, p.2) else none := by rw [prsG, key, hx]; rfl
    have hp3 : p3 ≤ l.length := by omega
    have e93 := eat_at (c := 125) g6 (by decide)
    have e44 := eat_at (c := 44) (l := l) (q := p3) (p := p3) (by rw [g6]; exact (ws_ws _).symm) (by decide)
    have lt_of : ∀ z : Int, z ≠ 0 → nx (l.drop p3) = z → p3 < l.length := fun z hz0 hz => by
      rcases Nat.lt_or_ge p3 l.length with h | h
      · exact h
      · rw [List.drop_of_length_le h] at hz; exact absurd hz.symm hz0
    refine cq (fun h93 => ?_) (fun h93 => ?_)
    · have hlt := lt_of 125 (by decide) h93
      rw [if_pos ⟨by rw [h93]; rfl, hlt⟩] at e93
      refine ldN 4 rfl rfl ?_
      refine sN 3 rfl rfl (by simp [Value.oneCell']) ?_ (by kernel_rfl)
      refine ldN 3 rfl rfl ?_
      exact ⟨fun w' hs => by
        obtain ⟨hu, hA⟩ := object_endG hs 1 4 rfl rfl hRn (by rw [hlen]; rfl) hz' hkm'
        exact ⟨⟨_, _, p3 + 1, false⟩, ⟨by dsimp only; omega, by dsimp only; omega, .inr ⟨by rw [hq, hI, e93]; show _ = some (JV.mk 5 0 [] [] (prJ ks'), _); rw [hkj]; rfl, hlt, rfl⟩⟩, by rw [hlen]; rfl, hu, hA⟩⟩
    · rw [if_neg (fun h => h93 (by rw [h.1]; rfl))] at e93
      rw [e93] at hI
      by_cases h44 : nx (l.drop p3) = 44
      · have hlt := lt_of 44 (by decide) h44
        rw [if_pos ⟨by rw [h44]; rfl, hlt⟩] at e44
        refine cf (by rw [h44]; rfl) ?_
        have hl3 : (l.drop (p3 + 1)).length = l.length - (p3 + 1) := List.length_drop
        have hlq2 : (l.drop q).length = l.length - q := List.length_drop
        exact ⟨⟨ks', some (g, cap, jn), some ⟨g, 0, none⟩, cap, fun i => A i ∨ A' i, p3 + 1, false, m⟩, ⟨by dsimp only; omega, by dsimp only; omega, hRn, by rw [hlen]; rfl, hz', by dsimp only; omega, .inr ⟨rfl, by dsimp only; omega, by dsimp only; omega, by
          dsimp only
          rw [hq, hI, e44, hkj, hkn]
          cases prsG V (name :: nmS ks) m (l.drop (p3 + 1)) <;> simp⟩⟩, by dsimp only [cond]; omega, ⟨⟨rfl, rfl, rfl, rfl, trivial⟩, .cons (.cons (.cons (.cons (.cons (.cons .nil))))), rfl⟩⟩
      · rw [if_neg (fun h => h44 (by rw [h.1]; rfl))] at e44
        refine ct (by rw [bne_iff_ne]; exact h44) ?_
        refine s1 0 rfl (by show 2 < 3; decide) ?_
        exact ⟨⟨ks', some (g, cap, jn), some ⟨g, 0, none⟩, cap, fun i => A i ∨ A' i, p3 + 1, true, m⟩, ⟨by dsimp only; omega, by dsimp only; omega, hRn, by rw [hlen]; rfl, hz', by dsimp only; omega, .inl ⟨rfl, by rw [hq, hI, e44]; rfl⟩⟩, by dsimp only [cond]; omega, ⟨⟨rfl, rfl, rfl, rfl, trivial⟩, .cons (.cons (.cons (.cons (.cons (.cons .nil))))), rfl⟩⟩
end
end Go.Proofs.YtpegkoklmhccjaaDoor
end
section
namespace Go.Proofs.YtpegkoklmhccjaaDoor
open Go.RowKit Go.Sx
set_option linter.unusedVariables false
theorem leaf_endX {L : List Ent} {w w' : World} {b : Nat} {va : Option Addr} {ca : Nat} {l : Bs} {p at' K : Nat} {bad : Bool} {o : Option (JV × Bs)} {k i : Int} {s : Bs} (hs : St [bl b] w w' (cl b (tC va ca l p bad) TT :: L)) (h1 : at' ≤ p) (h2 : p ≤ l.length + K) (ho : (o = none ∧ bad = true) ∨ (o = some (.mk k i s [] [], l.drop p) ∧ p ≤ l.length ∧ bad = false)) :
    ∃ x : VX, VXF o l at' K x ∧ Value.agg (valC k i s) = .agg x.cs.toArray ∧ Upd b (tC va ca l x.p x.bad) TT w w' ∧ ∃ A : Nat → Prop, (∀ k, A k → w.heap.size ≤ k) ∧ Held w' A [(x.j, x.cs)] :=
  ⟨⟨.mk k i s [] [], vcl k i s (.slice none 0 0) (.slice none 0 0), p, bad⟩, ⟨h1, h2, ho⟩, rfl, hs.updU, fun _ => False, fun k h => h.elim, held_leaf ..⟩
theorem held_endX {L : List Ent} {w w' : World} {b : Nat} {va : Option Addr} {ca : Nat} {l : Bs} {p at' K : Nat} {bad : Bool} {o : Option (JV × Bs)} {j : JV} {cs : List Value} {A : Nat → Prop} (hs : St [bl b] w w' (cl b (tC va ca l p bad) TT :: L)) (k : Nat) (hk : L[k]? = some (rs (heldR A [(j, cs)]))) (hu : VXF o l at' K ⟨j, cs, p, bad⟩) :
    ∃ x : VX, VXF o l at' K x ∧ Value.agg cs.toArray = .agg x.cs.toArray ∧ Upd b (tC va ca l x.p x.bad) TT w w' ∧ ∃ A : Nat → Prop, (∀ k, A k → w.heap.size ≤ k) ∧ Held w' A [(x.j, x.cs)] :=
  ⟨⟨j, cs, p, bad⟩, hu, rfl, hs.updU, A, fun i hi => St.fresh hs hk i ((rsW _ _).2 hi), hs.res (k := k + 1) (by simpa using hk)⟩
section
variable {va : Option Addr} {ca : Nat} {l : Bs} {b : Nat} {d K : Nat}
set_option maxRecDepth 100000 in
set_option maxHeartbeats 4000000 in
theorem value_ref {ls os : Bs → Option (JV × Bs)} (hd : d ≤ 50) (hK : 1 ≤ K) (hK2 : K ≤ 50) (hl : l.length ≤ 100000) (hca : l.length ≤ ca)
    (hL : ∀ p w, p < l.length → w.heap[b]? = some (.cells (tC va ca l p false) TT (0, 0)) → Rd w (.slice va l.length ca) (Lib.byteCells l) → VXC 39 [pj b, .int .i64 ((d + 1 : Nat) : Int)] (ls (l.drop (p + 1))) va ca l p K b w)
    (hO : ∀ p w, p < l.length → w.heap[b]? = some (.cells (tC va ca l p false) TT (0, 0)) → Rd w (.slice va l.length ca) (Lib.byteCells l) → VXC 40 [pj b, .int .i64 ((d + 1 : Nat) : Int)] (os (l.drop (p + 1))) va ca l p K b w) : VIsX (valS ls os) va ca l b d K := by
  intro at' w ha hb h
  refine enterVX tab_ok Tryd.func28 rfl Tryd.ntmps28 rfl (St.rdX hb h) ?_
  intro b4
  refine cUs (c := fun x : Nat => tC va ca l x false) (v := fun _ => .tuple #[]) (Φ := fun x : Nat => at' ≤ x ∧ (x ≤ l.length ∨ x = at') ∧ l.drop x = ws (l.drop at')) 0 rfl (fun w hs => rblanks_any hl (by omega) (hs.nth (k := 0) rfl) (hs.res (k := 1) rfl)) (fun p2 hp2 => ?_)
  obtain ⟨g1, g2, g3⟩ := hp2
  have hp2 : p2 ≤ l.length := by omega
  dsimp only
  refine cvs (fun w hs => next_any (hs.nth (k := 0) rfl) (hs.res (k := 1) rfl)) ?_
  intro b6
  generalize hz : nx (l.drop p2) = z
  cases hs0 : l.drop p2 with
  | nil =>
    obtain rfl : z = 0 := by rw [← hz, hs0]; rfl
    have hsp : valS ls os (l.drop at') = none := by unfold valS; rw [← g3, hs0]
    iterate 6 refine cf rfl ?_
    refine cUs (c := fun x : NX => tC va ca l x.p x.bad) (v := fun x => .int .i64 x.i) (Φ := NxF (numP (l.drop p2)) l p2) 0 rfl (fun w hs => number_ref hl hp2 (hs.nth (k := 0) rfl) (hs.res (k := 1) rfl)) (fun x hx => ?_)
    obtain ⟨i, q, bd⟩ := x
    obtain ⟨j1, j2, j3, hx⟩ := hx
    dsimp only at j1 j2 j3 hx ⊢
    refine bu (c := valC 2 i []) rfl ?_
    refine sN 3 rfl rfl (by simp [Value.oneCell']) ?_ (by kernel_rfl)
    refine ldN 3 rfl rfl ?_
    refine sN 2 rfl rfl (by simp [Value.oneCell']) ?_ (by kernel_rfl)
    refine ldN 2 rfl rfl ?_
    refine ⟨fun w' hs => leaf_endX hs (by omega) (by omega) ?_⟩

    rw [hs0] at hx
    rcases hx with ⟨hx, rfl⟩ | ⟨hx, rfl⟩
    · exact .inl ⟨hsp, rfl⟩
    · cases hx
  | cons c t =>
    have hlt : p2 < l.length := by
      rcases Nat.lt_or_ge p2 l.length with h | h
      · exact h
      · rw [List.drop_of_length_le h] at hs0; cases hs0
    have ht : l.drop (p2 + 1) = t := by rw [← List.tail_drop, hs0]; rfl
    have hc := c.toNat_lt
    obtain rfl : z = (c.toNat : Int) := by rw [← hz, hs0]; rfl
    have hsp : valS ls os (l.drop at') = valT ls os c t := by unfold valS; rw [← g3, hs0]
    unfold valT at hsp
    by_cases c110 : c = 110
    · refine ct (ceT 110 rfl c110) ?_
      refine cUs (c := fun x : Nat × Bool => tC va ca l x.1 x.2) (v := fun _ => .tuple #[]) (Φ := WdF [110, 117, 108, 108] l p2 false) 0 rfl (fun w hs => word_ref (p := [110, 117, 108, 108]) (by decide) (by decide) hl (by omega) hca (hs.nth (k := 0) rfl) (hs.res (k := 1) rfl)) (fun x hx => ?_)
      obtain ⟨q, bd⟩ := x
      dsimp only
      refine ldN 3 rfl rfl ?_
      refine sN 2 rfl rfl (by simp [Value.oneCell']) ?_ (by kernel_rfl)
      refine ldN 2 rfl rfl ?_
      rcases hx with ⟨hx, hx2⟩ | ⟨_, hx1, hx, hx2⟩
      · obtain ⟨rfl, rfl⟩ := Prod.mk.injEq .. ▸ hx2
        exact ⟨fun w' hs => leaf_endX hs g1 (by omega) (.inl ⟨by rw [hsp]; rw [if_pos c110]; rw [← hs0, hx]; rfl, rfl⟩)⟩
      · obtain ⟨rfl, rfl⟩ := Prod.mk.injEq .. ▸ hx2
        simp only [List.length_cons, List.length_nil] at hx1 hx ⊢
        exact ⟨fun w' hs => leaf_endX hs (by omega) (by omega) (.inr ⟨by rw [hsp]; rw [if_pos c110]; rw [← hs0, hx]; rfl, hx1, rfl⟩)⟩
    · refine cf (ceF 110 rfl c110) ?_
      by_cases c116 : c = 116
      · refine ct (ceT 116 rfl c116) ?_
        refine cUs (c := fun x : Nat × Bool => tC va ca l x.1 x.2) (v := fun _ => .tuple #[]) (Φ := WdF [116, 114, 117, 101] l p2 false) 0 rfl (fun w hs => word_ref (p := [116, 114, 117, 101]) (by decide) (by decide) hl (by omega) hca (hs.nth (k := 0) rfl) (hs.res (k := 1) rfl)) (fun x hx => ?_)
        obtain ⟨q, bd⟩ := x
        dsimp only
        refine bu (c := valC 1 1 []) rfl ?_
        refine sN 3 rfl rfl (by simp [Value.oneCell']) ?_ (by kernel_rfl)
        refine ldN 3 rfl rfl ?_
        refine sN 2 rfl rfl (by simp [Value.oneCell']) ?_ (by kernel_rfl)
        refine ldN 2 rfl rfl ?_
        rcases hx with ⟨hx, hx2⟩ | ⟨_, hx1, hx, hx2⟩
        · obtain ⟨rfl, rfl⟩ := Prod.mk.injEq .. ▸ hx2
          exact ⟨fun w' hs => leaf_endX hs g1 (by omega) (.inl ⟨by rw [hsp]; rw [if_neg c110, if_pos c116]; rw [← hs0, hx]; rfl, rfl⟩)⟩
        · obtain ⟨rfl, rfl⟩ := Prod.mk.injEq .. ▸ hx2
          simp only [List.length_cons, List.length_nil] at hx1 hx ⊢
          exact ⟨fun w' hs => leaf_endX hs (by omega) (by omega) (.inr ⟨by rw [hsp]; rw [if_neg c110, if_pos c116]; rw [← hs0, hx]; rfl, hx1, rfl⟩)⟩
      · refine cf (ceF 116 rfl c116) ?_
        by_cases c102 : c = 102
        · refine ct (ceT 102 rfl c102) ?_
          refine cUs (c := fun x : Nat × Bool => tC va ca l x.1 x.2) (v := fun _ => .tuple #[]) (Φ := WdF [102, 97, 108, 115, 101] l p2 false) 0 rfl (fun w hs => word_ref (p := [102, 97, 108, 115, 101]) (by decide) (by decide) hl (by omega) hca (hs.nth (k := 0) rfl) (hs.res (k := 1) rfl)) (fun x hx => ?_)
          obtain ⟨q, bd⟩ := x
          dsimp only
          refine bu (c := valC 1 0 []) rfl ?_
          refine sN 3 rfl rfl (by simp [Value.oneCell']) ?_ (by kernel_rfl)
          refine ldN 3 rfl rfl ?_
          refine sN 2 rfl rfl (by simp [Value.oneCell']) ?_ (by kernel_rfl)
          refine ldN 2 rfl rfl ?_
          rcases hx with ⟨hx, hx2⟩ | ⟨_, hx1, hx, hx2⟩
          · obtain ⟨rfl, rfl⟩ := Prod.mk.injEq .. ▸ hx2
            exact ⟨fun w' hs => leaf_endX hs g1 (by omega) (.inl ⟨by rw [hsp]; rw [if_neg c110, if_neg c116, if_pos c102]; rw [← hs0, hx]; rfl, rfl⟩)⟩
          · obtain ⟨rfl, rfl⟩ := Prod.mk.injEq .. ▸ hx2
            simp only [List.length_cons, List.length_nil] at hx1 hx ⊢
            exact ⟨fun w' hs => leaf_endX hs (by omega) (by omega) (.inr ⟨by rw [hsp]; rw [if_neg c110, if_neg c116, if_pos c102]; rw [← hs0, hx]; rfl, hx1, rfl⟩)⟩
        · refine cf (ceF 102 rfl c102) ?_
          by_cases c34 : c = 34
          · refine ct (ceT 34 rfl c34) ?_
            refine cUs (c := fun x : QX => tC va ca l x.p x.bad) (v := fun x => sj x.t) (Φ := QxF (textP (l.drop p2)) l p2) 0 rfl (fun w hs => quoted_any hl hca hp2 (hs.nth (k := 0) rfl) (hs.res (k := 1) rfl)) (fun x hx => ?_)
            obtain ⟨s, q, bd⟩ := x
            obtain ⟨j1, j2, hx⟩ := hx
            dsimp only at j1 j2 hx ⊢
            refine bu (c := valC 3 0 s) rfl ?_
            refine sN 3 rfl rfl (by simp [Value.oneCell']) ?_ (by kernel_rfl)
            refine ldN 3 rfl rfl ?_
            refine sN 2 rfl rfl (by simp [Value.oneCell']) ?_ (by kernel_rfl)
            refine ldN 2 rfl rfl ?_
            refine ⟨fun w' hs => leaf_endX hs (by omega) (by omega) ?_⟩
            rcases hx with ⟨hx, rfl, rfl⟩ | ⟨hx, hx1, rfl⟩
            · exact .inl ⟨by rw [hsp]; rw [if_neg c110, if_neg c116, if_neg c102, if_pos c34]; rw [← hs0, hx]; rfl, rfl⟩
            · exact .inr ⟨by rw [hsp]; rw [if_neg c110, if_neg c116, if_neg c102, if_pos c34]; rw [← hs0, hx]; rfl, hx1, rfl⟩
          · refine cf (ceF 34 rfl c34) ?_
            by_cases c91 : c = 91
            · refine ct (ceT 91 rfl c91) ?_
              subst c91
              refine .as (((d + 1 : Nat) : Int)) (by omega) (by simp only [mn]; omega) (by simp only [mx]; omega) ?_
              refine cUX 0 rfl rfl (fun w hs => hL p2 w hlt (hs.nth (k := 0) rfl) (hs.res (k := 1) rfl)) (fun x A w0 hx hH => ?_)
              obtain ⟨j, cs, q, bd⟩ := x
              have hcs := hH.2 _ (List.mem_singleton.2 rfl)
              have hc5 := hcs.len
              have hc1 := hcs.one
              obtain ⟨k1, k2, hx⟩ := hx
              dsimp only at hc5 hc1 k1 k2 hx ⊢
              refine sN 3 rfl (by rw [List.size_toArray, hc5]; rfl) (by simpa using hc1) ?_ (by rw [List.size_toArray, hc5]; kernel_rfl)
              refine ldN 3 rfl (by rw [List.size_toArray, hc5]) ?_
              refine sN 2 rfl (by rw [List.size_toArray, hc5]; rfl) (by simpa using hc1) ?_ (by rw [List.size_toArray, hc5]; kernel_rfl)
              refine ldN 2 rfl (by rw [List.size_toArray, hc5]) ?_
              exact ⟨fun w' hs => held_endX hs 3 rfl ⟨by dsimp only; omega, k2, by rw [hsp]; rw [if_neg (by decide), if_neg (by decide), if_neg (by decide), if_neg (by decide), if_pos rfl]; rw [← ht]; exact hx⟩⟩
            · refine cf (ceF 91 rfl c91) ?_
              by_cases c123 : c = 123
              · refine ct (ceT 123 rfl c123) ?_
                subst c123
                refine .as (((d + 1 : Nat) : Int)) (by omega) (by simp only [mn]; omega) (by simp only [mx]; omega) ?_
                refine cUX 0 rfl rfl (fun w hs => hO p2 w hlt (hs.nth (k := 0) rfl) (hs.res (k := 1) rfl)) (fun x A w0 hx hH => ?_)
                obtain ⟨j, cs, q, bd⟩ := x
                have hcs := hH.2 _ (List.mem_singleton.2 rfl)
                have hc5 := hcs.len
                have hc1 := hcs.one
                obtain ⟨k1, k2, hx⟩ := hx
                dsimp only at hc5 hc1 k1 k2 hx ⊢
                refine sN 3 rfl (by rw [List.size_toArray, hc5]; rfl) (by simpa using hc1) ?_ (by rw [List.size_toArray, hc5]; kernel_rfl)
                refine ldN 3 rfl (by rw [List.size_toArray, hc5]) ?_
                refine sN 2 rfl (by rw [List.size_toArray, hc5]; rfl) (by simpa using hc1) ?_ (by rw [List.size_toArray, hc5]; kernel_rfl)
                refine ldN 2 rfl (by rw [List.size_toArray, hc5]) ?_
                exact ⟨fun w' hs => held_endX hs 3 rfl ⟨by dsimp only; omega, k2, by rw [hsp]; rw [if_neg (by decide), if_neg (by decide), if_neg (by decide), if_neg (by decide), if_neg (by decide), if_pos rfl]; rw [← ht]; exact hx⟩⟩
              · refine cf (ceF 123 rfl c123) ?_
                refine cUs (c := fun x : NX => tC va ca l x.p x.bad) (v := fun x => .int .i64 x.i) (Φ := NxF (numP (l.drop p2)) l p2) 0 rfl (fun w hs => number_ref hl hp2 (hs.nth (k := 0) rfl) (hs.res (k := 1) rfl)) (fun x hx => ?_)
                obtain ⟨i, q, bd⟩ := x
                obtain ⟨j1, j2, j3, hx⟩ := hx
                dsimp only at j1 j2 j3 hx ⊢
                refine bu (c := valC 2 i []) rfl ?_
                refine sN 3 rfl rfl (by simp [Value.oneCell']) ?_ (by kernel_rfl)
                refine ldN 3 rfl rfl ?_
                refine sN 2 rfl rfl (by simp [Value.oneCell']) ?_ (by kernel_rfl)
                refine ldN 2 rfl rfl ?_
                refine ⟨fun w' hs => leaf_endX hs (by omega) (by omega) ?_⟩
                rcases hx with ⟨hx, rfl⟩ | ⟨hx, rfl⟩
                · exact .inl ⟨by rw [hsp]; rw [if_neg c110, if_neg c116, if_neg c102, if_neg c34, if_neg c91, if_neg c123]; rw [← hs0, hx]; rfl, rfl⟩
                · exact .inr ⟨by rw [hsp]; rw [if_neg c110, if_neg c116, if_neg c102, if_neg c34, if_neg c91, if_neg c123]; rw [← hs0, hx]; rfl, j2, rfl⟩
theorem value_any_ref (hl : l.length ≤ 100000) (hca : l.length ≤ ca) : ∀ r d : Nat, d + r = 8 → VIsX (jvD r) va ca l b d (r + 1)
  | 0, d, hr => value_ref (by omega) (by omega) (by omega) hl hca (fun p w hp hb h => list_deepX (by omega) (by omega) hl (by omega) hb h) (fun p w hp hb h => object_deepX (by omega) (by omega) hl (by omega) hb h)
  | r + 1, d, hr => value_ref (by omega) (by omega) (by omega) hl hca (fun p w hp hb h => list_ref (by omega) (by omega) (by omega) (value_any_ref hl hca r (d + 1) (by omega)) hl hp hb h) (fun p w hp hb h => object_ref (by omega) (by omega) (by omega) (value_any_ref hl hca r (d + 1) (by omega)) hl hca hp hb h)
end
end Go.Proofs.YtpegkoklmhccjaaDoor
end
section
namespace Go.Proofs.YtpegkoklmhccjaaDoor
open Go.RowKit Go.Sx
set_option linter.unusedVariables false
theorem o8 {n : Nat} (h : n < 256) : (UInt8.ofNat n).toNat = n := by rw [UInt8.toNat_ofNat']; omega
/-- a sign's bytes read «as» it -/
theorem dec_enc {c : Nat} (h1 : c ≤ 1114111) (h2 : ¬ (55296 ≤ c ∧ c ≤ 57343)) (r : Bs) : decP (encP c ++ r) = some (c, (encP c).length) := by
  unfold encP
  by_cases c1 : c ≤ 127
  · rw [if_pos c1]
    show (if (UInt8.ofNat c).toNat < 128 then some ((UInt8.ofNat c).toNat, 1) else _) = some (c, 1)
    rw [o8 (by omega), if_pos (by omega)]
  rw [if_neg c1]
  by_cases c2 : c ≤ 2047
  · rw [if_pos c2]
    show (if (UInt8.ofNat (192 + c / 64)).toNat < 128 then _ else decQ (UInt8.ofNat (192 + c / 64)).toNat (UInt8.ofNat (128 + c % 64) :: r)) = some (c, 2)
    rw [o8 (by omega), if_neg (by omega)]
    have hc : clsP (192 + c / 64) = some (2, 128, 191) := by unfold clsP; rw [if_neg (by omega), if_pos (by omega)]
    unfold decQ
    rw [hc]
    dsimp only
    rw [o8 (by omega), if_neg (by omega), if_pos rfl]
    congr 2; omega
  rw [if_neg c2]
  by_cases c3 : c < 55296 ∨ (57343 < c ∧ c ≤ 65535)
  · rw [if_pos c3]
    show (if (UInt8.ofNat (224 + c / 4096)).toNat < 128 then _ else decQ (UInt8.ofNat (224 + c / 4096)).toNat (UInt8.ofNat (128 + c / 64 % 64) :: UInt8.ofNat (128 + c % 64) :: r)) = some (c, 3)
    rw [o8 (by omega), if_neg (by omega)]
    obtain ⟨lo, hi, hc, hlo, hhi⟩ : ∃ lo hi, clsP (224 + c / 4096) = some (3, lo, hi) ∧ lo ≤ 128 + c / 64 % 64 ∧ 128 + c / 64 % 64 ≤ hi := by
      unfold clsP
      rw [if_neg (by omega), if_neg (by omega)]
      by_cases e1 : 224 + c / 4096 = 224
      · rw [if_pos e1]; exact ⟨_, _, rfl, by omega, by omega⟩
      rw [if_neg e1]
      by_cases e2 : 224 + c / 4096 = 237
      · rw [if_pos e2]; exact ⟨_, _, rfl, by omega, by omega⟩
      rw [if_neg e2, if_pos (by omega)]
      exact ⟨_, _, rfl, by omega, by omega⟩
    unfold decQ
    rw [hc]
    dsimp only
    rw [o8 (by omega), if_neg (by omega), if_neg (by omega), o8 (by omega), if_neg (by omega), if_pos rfl]
    congr 2; omega
  rw [if_neg c3, if_pos (by omega)]
  show (if (UInt8.ofNat (240 + c / 262144)).toNat < 128 then _ else decQ (UInt8.ofNat (240 + c / 262144)).toNat (UInt8.ofNat (128 + c / 4096 % 64) :: UInt8.ofNat (128 + c / 64 % 64) :: UInt8.ofNat (128 + c % 64) :: r)) = some (c, 4)
  rw [o8 (by omega), if_neg (by omega)]
  obtain ⟨lo, hi, hc, hlo, hhi⟩ : ∃ lo hi, clsP (240 + c / 262144) = some (4, lo, hi) ∧ lo ≤ 128 + c / 4096 % 64 ∧ 128 + c / 4096 % 64 ≤ hi := by
    unfold clsP
    rw [if_neg (by omega), if_neg (by omega), if_neg (by omega), if_neg (by omega), if_neg (by omega)]
    by_cases e1 : 240 + c / 262144 = 240
    · rw [if_pos e1]; exact ⟨_, _, rfl, by omega, by omega⟩
    rw [if_neg e1]
    by_cases e2 : 240 + c / 262144 < 244
    · rw [if_pos e2]; exact ⟨_, _, rfl, by omega, by omega⟩
    rw [if_neg e2, if_pos (by omega)]
    exact ⟨_, _, rfl, by omega, by omega⟩
  unfold decQ
  rw [hc]
  dsimp only
  rw [o8 (by omega), if_neg (by omega), if_neg (by omega), o8 (by omega), if_neg (by omega), if_neg (by omega), o8 (by omega), if_neg (by omega)]
  congr 2; omega
theorem valid_enc {c : Nat} (h1 : c ≤ 1114111) (h2 : ¬ (55296 ≤ c ∧ c ≤ 57343)) (r : Bs) : validP (encP c ++ r) = validP r := by
  rw [valid_yes (dec_enc h1 h2 r), List.drop_left]
theorem txtF_valid : ∀ (n : Nat) (s l t : Bs), txtF n s = some (l, t) → validP l = true := by
  intro n
  induction n with
  | zero => intro s l t h; cases h
  | succ n ih =>
    intro s l t h
    have ap : ∀ (c : Nat) (o : Option (Bs × Bs)), c ≤ 1114111 ∧ ¬ (55296 ≤ c ∧ c ≤ 57343) → (∀ l t, o = some (l, t) → validP l = true) → app (encP c) o = some (l, t) → validP l = true := fun c o hc ho h => by
      cases o with
      | none => cases h
      | some p =>
        obtain ⟨l2, t2⟩ := p
        injection h with h; injection h with h1 h2
        rw [← h1, valid_enc hc.1 hc.2]; exact ho l2 t2 rfl
    unfold txtF at h
    split at h
    · cases h
    · rename_i c z hd
      split at h
      · cases h
      · split at h
        · injection h with h; injection h with h1 h2; rw [← h1]; rfl
        · split at h
          · split at h
            · cases h
            · rename_i e u he
              exact ap e _ (escP_sc he) (fun l t => ih u l t) h
          · exact ap c _ (decP_sc hd) (fun l t => ih (s.drop z) l t) h
theorem textP_valid {s l t : Bs} (h : textP s = some (l, t)) : validP l = true := by
  unfold textP at h
  split at h
  · cases h
  · exact txtF_valid _ _ _ _ h
theorem numQ_le {m : Bool} {s : Bs} {i : Int} {t : Bs} (h : numQ m s = some (i, t)) : -9007199254740991 ≤ i ∧ i ≤ 9007199254740991 := by
  unfold numQ at h
  by_cases hn : s.takeWhile isDig = [] ∨ MAXI < (s.takeWhile isDig).foldl valD 0 ∨ ((s.takeWhile isDig).head? = some 48 ∧ (1 < (s.takeWhile isDig).length ∨ m = true))
  · rw [if_pos hn] at h; cases h
  · rw [if_neg hn] at h
    injection h with h; injection h with h1 h2
    have h3 : ¬ MAXI < (s.takeWhile isDig).foldl valD 0 := fun h => hn (.inr (.inl h))
    unfold MAXI at h3
    split at h1 <;> omega
section
variable {V : Bs → Option (JV × Bs)} {S : JV → Bool} (hV : ∀ s j u, V s = some (j, u) → S j = true)
include hV
theorem itm_good : ∀ (n : Nat) (s : Bs) (l : List JV) (t : Bs), itmG V n s = some (l, t) → l.all S = true := by
  intro n
  induction n with
  | zero => intro s l t h; cases h
  | succ n ih =>
    intro s l t h
    rw [itmG] at h
    split at h
    · cases h
    · rename_i j u hj
      have h1 := hV _ _ _ hj
      split at h
      · injection h with h; injection h with h2 h3
        rw [← h2]; simp [h1]
      · split at h
        · cases hi : itmG V n (eatP 44 (eatP 93 u).2).2 with
          | none => rw [hi] at h; cases h
          | some p =>
            obtain ⟨l2, t2⟩ := p
            rw [hi] at h
            injection h with h; injection h with h2 h3
            rw [← h2, List.all_cons, h1, ih _ _ _ hi]; rfl
        · cases h
theorem prs_good : ∀ (n : Nat) (seen : List Bs) (s : Bs) (p : List (Bs × JV)) (t : Bs), prsG V seen n s = some (p, t) → prsK S seen p = true := by
  intro n
  induction n with
  | zero => intro seen s p t h; cases h
  | succ n ih =>
    intro seen s p t h
    rw [prsG] at h
    split at h
    · cases h
    · rename_i name j u hj
      obtain ⟨h0, hv, h1⟩ : name ∉ seen ∧ validP name = true ∧ S j = true := by
        unfold onePr at hj
        split at hj
        · cases hj
        · rename_i nm t2 ht
          split at hj
          · cases hj
          · rename_i hin
            split at hj
            · cases hv : V (eatP 58 t2).2 with
              | none => rw [hv] at hj; cases hj
              | some q =>
                obtain ⟨j2, u2⟩ := q
                rw [hv] at hj
                injection hj with hj; injection hj with e1 e2; injection e2 with e2 e3
                dsimp only at e1 e2
                subst e1; subst e2
                exact ⟨hin, textP_valid ht, hV _ _ _ hv⟩
            · cases hj
      have one : ∀ q, prsK S (name :: seen) q = true → prsK S seen ((name, j) :: q) = true := fun q hq => by
        show (!decide (name ∈ seen) && validP name && S j && prsK S (name :: seen) q) = true
        rw [hv, h1, hq]; simp [h0]
      split at h
      · injection h with h; injection h with h2 h3
        rw [← h2]; exact one [] rfl
      · split at h
        · cases hi : prsG V (name :: seen) n (eatP 44 (eatP 125 u).2).2 with
          | none => rw [hi] at h; cases h
          | some p =>
            obtain ⟨l2, t2⟩ := p
            rw [hi] at h
            injection h with h; injection h with h2 h3
            rw [← h2]; exact one _ (ih _ _ _ _ hi)
        · cases h
theorem lst_good {s : Bs} {j : JV} {u : Bs} (h : lstG V s = some (j, u)) : sndG S true j = true := by
  unfold lstG at h
  split at h
  · injection h with h; injection h with h2 h3
    rw [← h2]; rfl
  · cases hi : itmG V ((eatP 93 s).2.length + 1) (eatP 93 s).2 with
    | none => rw [hi] at h; cases h
    | some p =>
      obtain ⟨l, t⟩ := p
      rw [hi] at h
      injection h with h; injection h with h2 h3
      have := itm_good hV _ _ _ _ hi
      rw [← h2]; simp [sndG]; simpa using this
theorem obj_good {s : Bs} {j : JV} {u : Bs} (h : objG V s = some (j, u)) : sndG S true j = true := by
  unfold objG at h
  split at h
  · injection h with h; injection h with h2 h3
    rw [← h2]; rfl
  · cases hi : prsG V [] ((eatP 125 s).2.length + 1) (eatP 125 s).2 with
    | none => rw [hi] at h; cases h
    | some p =>
      obtain ⟨l, t⟩ := p
      rw [hi] at h
      injection h with h; injection h with h2 h3
      have := prs_good hV _ _ _ _ _ hi
      rw [← h2]; simp [sndG]; simpa using this
end
theorem val_good {ls os : Bs → Option (JV × Bs)} {S : JV → Bool} {deep : Bool} (hL : ∀ s j u, ls s = some (j, u) → sndG S deep j = true) (hO : ∀ s j u, os s = some (j, u) → sndG S deep j = true) (s : Bs) (j : JV) (u : Bs) (h : valS ls os s = some (j, u)) : sndG S deep j = true := by
  have leaf : ∀ {α : Type} (f : α → JV × Bs) (o : Option α), (∀ a, o = some a → sndG S deep (f a).1 = true) → o.map f = some (j, u) → sndG S deep j = true := fun f o hf h => by
    cases o with
    | none => cases h
    | some a =>
      have := hf a rfl
      injection h with h
      rw [h] at this; exact this
  unfold valS at h
  split at h
  · cases h
  · unfold valT at h
    split at h
    · exact leaf _ _ (fun a _ => rfl) h
    split at h
    · exact leaf _ _ (fun a _ => rfl) h
    split at h
    · exact leaf _ _ (fun a _ => rfl) h
    split at h
    · exact leaf _ _ (fun a ha => by simp [sndG, textP_valid (l := a.1) (t := a.2) ha]) h
    split at h
    · exact hL _ _ _ h
    split at h
    · exact hO _ _ _ h
    · exact leaf _ _ (fun a ha => by have := numQ_le (i := a.1) (t := a.2) ha; simp [sndG, this.1, this.2]) h
theorem jvD_good : ∀ (r : Nat) (s : Bs) (j : JV) (u : Bs), jvD r s = some (j, u) → sndD r j = true := by
  intro r
  induction r with
  | zero => exact fun s j u h => val_good (fun _ _ _ h => by cases h) (fun _ _ _ h => by cases h) s j u h
  | succ r ih => exact fun s j u h => val_good (fun s j u h => lst_good ih h) (fun s j u h => obj_good ih h) s j u h
theorem parse_good {l : Bs} {j : JV} (h : parseP l = some j) : sndD 8 j = true := by
  unfold parseP at h
  split at h
  · cases h
  · rename_i j2 u hj
    split at h
    · obtain rfl := Option.some.inj h; exact jvD_good _ _ _ _ hj
    · cases h
end Go.Proofs.YtpegkoklmhccjaaDoor
end
section
namespace Go.Proofs.YtpegkoklmhccjaaDoor
open Go.RowKit Go.Sx
set_option linter.unusedVariables false
theorem madeBig (w : World) {P : Program} {t e : TypeId} (ht : P.underlying t = some (.slice e)) (hi : (P.info? e).map (fun i => (i.zero, i.size, i.bytes)) = some (some (.int .u8 0), 1, 1)) (l c : Nat) (hlc : l ≤ c) (hc : c ≤ 140737488355330) :
    (Instr.makeSlice t (.int .i64 (l : Int)) (.int .i64 (c : Int))).run P w = .ok (.slice (some ⟨w.heap.size, 0, none⟩) l c) (w.alloc (.cells (List.replicate c (.int .u8 0)).toArray e)) := by
  obtain ⟨i, hi, hz, hs, hb⟩ := infoOf hi
  have h := run_make (P := P) w t e i _ ht hi hz .i64 .i64 (l : Int) (c : Int) (by omega) (by omega) (by rw [hb]; omega) (by omega)
  rw [hs] at h
  simp only [Int.toNat_natCast, Nat.mul_one] at h
  rw [h]
  congr 2
  simp only [madeCells]
  congr 1
  apply Array.ext
  · simp
  · intro i h1 h2
    simp [Value.cells, Nat.mod_one]
set_option maxRecDepth 100000 in
/-- a copy of bytes, with marks behind it -/
theorem copy_big (v : Value) (x : List UInt8) (hx : x.length ≤ 140737488355328) (w : World) (hv : Rd w v (Lib.byteCells x)) : Calls Tryd.prog 17 ([v] : List Value).toArray w fun e w' =>
    ∃ b c j, e = .returned (sv (some (b, c, marks ++ j)) x.length) ∧ Rw 1 x.length (some (b, c, marks ++ j)) (Lib.byteCells x) ∧ w.heap.size ≤ b ∧ w'.heap[b]? = some (.cells (Lib.byteCells x ++ (marks ++ j)).toArray 5 (0, 0)) ∧ Below w.heap.size w w' := by
  have hv0 := hv
  obtain ⟨va, vc, rfl, _⟩ := hv
  rw [Lib.byteCells_length] at hv0 ⊢
  refine (enter tab_ok Tryd.func17 rfl Tryd.ntmps17 rfl (St.start w) (R := fun v w' => ∃ b c j, v = sv (some (b, c, marks ++ j)) x.length ∧ Rw 1 x.length (some (b, c, marks ++ j)) (Lib.byteCells x) ∧ w.heap.size ≤ b ∧ w'.heap[b]? = some (.cells (Lib.byteCells x ++ (marks ++ j)).toArray 5 (0, 0)) ∧ Below w.heap.size w w') ?_).mono (fun e w' ⟨v, he, b, c, j, h1, h2⟩ => ⟨b, c, j, by rw [he, h1], h2⟩)
  refine .as ((x.length + 2 : Nat) : Int) (by simp) (by simp only [mn]; omega) (by simp only [mx]; omega) ?_
  refine .mk 0 (x.length + 2) _ _ (fun w => madeBig w und22 info5 0 (x.length + 2) (Nat.zero_le _) (by omega)) (fun b1 => ?_)
  refine ap (r := some (b1, x.length + 2, List.replicate (x.length + 2) (.int .u8 0))) (xs := []) (n := 0) (m := (Lib.byteCells x).length) (news := Lib.byteCells x) 0 tab_ok rfl info5 rfl rfl ⟨rfl, Nat.zero_le _, by unfold maxLen; omega, by simp⟩ (fun w' hs => (hv0.below hs.below).src und22 (one8 x)) (by rw [Lib.byteCells_length]; omega) (by rw [Lib.byteCells_length]; unfold maxLen; omega) (fun r1 hR1 => ?_)
  refine .mk _ _ (bs2 165 90) (fun b2 => ?_)
  refine ap 0 (news := marks) (m := 2) tab_ok rfl info5 rfl rfl hR1 (srcE (C := ⟨Tryd.prog, tab, 14, [], w, none⟩) (e' := 5) (tx := 38) (z := 1) rfl tab_ok (src 1 rfl rfl) rfl (by simp [marks, Value.oneCell'])) (by rw [Lib.byteCells_length]; omega) (by rw [Lib.byteCells_length]; unfold maxLen; omega) (fun r2 hR2 => ?_)
  rw [Lib.byteCells_length] at hR2
  rw [Lib.byteCells_length]
  cases r2 with
  | none => have := hR2.2; simp only at this; omega
  | some p =>
    obtain ⟨b, c, j⟩ := p
    obtain ⟨h1, h2, h3, h4⟩ := hR2
    refine slTo (by rintro a h; obtain rfl := Option.some.inj h; rfl) (by omega) h2 ?_
    refine ⟨fun w1 hs => ⟨b, c, j, rfl, ⟨by rw [Lib.byteCells_length]; omega, by omega, h3, by simpa using h4⟩, ?_, ?_, hs.below⟩⟩
    · rcases hs.own _ (List.mem_of_getElem? (i := 0) rfl) rfl rfl with h | h
      · exact h
      · simp at h
    · have := hs.nth (k := 0) rfl
      simpa using this
set_option maxRecDepth 100000 in
/-- a copy says what the bytes say, and its marks stand -/
theorem kept_big {va vb : Value} {b c : Nat} {j : List Value} {x : List UInt8} (hx : x.length ≤ 140737488355328) (hva : va = sv (some (b, c, marks ++ j)) x.length) (hR : Rw 1 x.length (some (b, c, marks ++ j)) (Lib.byteCells x)) (w : World) (ha : w.heap[b]? = some (.cells (Lib.byteCells x ++ (marks ++ j)).toArray 5 (0, 0))) (hb : Rd w vb (Lib.byteCells x)) :
    Calls Tryd.prog 19 ([va, vb] : List Value).toArray w fun e w' => e = .returned (.bool true) ∧ Below w.heap.size w w' := by
  subst hva
  have hb0 := hb
  obtain ⟨a2, c2, rfl, _⟩ := hb
  rw [Lib.byteCells_length] at hb0 ⊢
  obtain ⟨h1, h2, h3, h4⟩ := hR
  have hc : x.length + 2 ≤ c := by
    have : (Lib.byteCells x ++ (marks ++ j)).length = c * 1 := h4
    simp [marks, Lib.byteCells_length] at this; omega
  have e1 : ((ByteArray.mk x.toArray).toList == (ByteArray.mk x.toArray).toList) = true := by simp
  refine enterV tab_ok Tryd.func19 rfl Tryd.ntmps19 rfl (St.reads1 ha) ?_
  refine semV (fun w' hs => rd_str (l := x) (Rd.ent hs 0 (n := x.length) rfl (by rw [Lib.byteCells_length]) (by simp [Lib.byteCells_length]))) ?_
  refine semV (fun w' hs => rd_str (hb0.below hs.below)) ?_
  have e2 : ((!((ByteArray.mk x.toArray).toList == (ByteArray.mk x.toArray).toList)) == false) = true := by rw [e1]; rfl
  refine ct e2 ?_
  refine ct e2 ?_
  refine ct e2 ?_
  refine ct e2 ?_
  refine ct e2 ?_
  refine .as ((x.length + 2 : Nat) : Int) (by simp) (by simp only [mn]; omega) (by simp only [mx]; omega) ?_
  refine ct e2 ?_
  refine cf (by rw [e1]; rfl) ?_
  refine cf (decide_eq_false (by omega)) ?_
  refine .as ((x.length + 2 : Nat) : Int) (by simp) (by simp only [mn]; omega) (by simp only [mx]; omega) ?_
  refine ⟨.mk 0 (x.length + 2) c rfl rfl rfl (Nat.zero_le _) hc (Nat.le_refl _) (by simp) ?_⟩
  refine .on (by omega) ?_
  refine ⟨by omega, by omega, ?_⟩
  refine ld1 0 rfl (v := .int .u8 165) (by rw [nad_eq, nmu_eq]; simp [nad_eq, nmu_eq, marks, Lib.byteCells_length]) ?_
  refine ct rfl ?_
  refine ct rfl ?_
  refine ct rfl ?_
  refine ct rfl ?_
  refine .as ((x.length + 1 : Nat) : Int) (by simp) (by simp only [mn]; omega) (by simp only [mx]; omega) ?_
  refine ct rfl ?_
  refine ⟨by omega, by omega, ?_⟩
  refine ct rfl ?_
  refine ld1 0 rfl (v := .int .u8 90) (by rw [nad_eq, nmu_eq]; simp [nad_eq, nmu_eq, marks, Lib.byteCells_length]) ?_
  refine ct rfl ?_
  refine ct rfl ?_
  exact rt rfl


section
variable {N : Nat} {M : Bks} {B : World} {F : Option Nat} {L : List Ent} {next : Value → List Ent → Prop}
set_option maxRecDepth 100000 in
/-- bytes of one's own are written over -/
theorem over_big (k : Nat) {r : Sx.Own} {x : List UInt8} (hk : L[k]? = some (se r (Lib.byteCells x) 5)) (hR : Rw 1 x.length r (Lib.byteCells x)) (hx : x.length ≤ 140737488355328) (go : next (.tuple #[]) (L.set k dead)) :
    CallP ⟨Tryd.prog, tab, N, M, B, F⟩ 20 [sv r x.length] L next := by
  have hkl : k < L.length := (List.getElem?_eq_some_iff.1 hk).1
  cases r with
  | none =>
    have h0 : x.length = 0 := hR.2
    rw [h0]
    refine inl (C := ⟨Tryd.prog, tab, N, M, B, F⟩) tab_ok Tryd.func20 rfl Tryd.ntmps20 rfl ?_
    refine lp tab_ok (fun x : Unit => True) (fun _ => ⟨[(0, .slice none 0 0), (3, .slice none 0 0), (4, .int .i64 0), (5, .int .i64 0)], L, []⟩) (fun _ => 0) () trivial ⟨⟨rfl, rfl, rfl, rfl, trivial⟩, Sub.refl L, rfl⟩ ?_
    intro _ _
    refine cf rfl ?_
    rw [show L.set k dead = L from set_same hk] at go
    exact bk go
  | some p =>
    obtain ⟨b, c, j⟩ := p
    refine inl (C := ⟨Tryd.prog, tab, N, M, B, F⟩) tab_ok Tryd.func20 rfl Tryd.ntmps20 rfl ?_
    refine lp tab_ok (fun i : Nat => i ≤ x.length) (fun i => ⟨[(0, .slice (some ⟨b, 0, none⟩) x.length c), (4, .int .i64 x.length), (5, .int .i64 i)], L.set k (cl b (overL x i ++ j).toArray 5), []⟩) (fun i => x.length - i) 0 (Nat.zero_le _)
      ⟨⟨rfl, rfl, rfl, trivial⟩, ?_, rfl⟩ ?_
    · have e1 : overL x 0 = Lib.byteCells x := by simp [overL, Lib.byteCells]
      rw [e1]
      have := set_same hk
      rw [show cl b (Lib.byteCells x ++ j).toArray 5 = se (some (b, c, j)) (Lib.byteCells x) 5 from rfl, this]
      exact Sub.refl L
    intro i hi
    have hat : (L.set k (cl b (overL x i ++ j).toArray 5))[k]? = some (cl b (overL x i ++ j).toArray 5) := by simp [hkl]
    refine cd (fun h => ?_) (fun h => ?_)
    · have hlt : i < x.length := by omega
      refine ⟨by omega, by omega, ?_⟩
      have eo : nad 0 (nmu ((i : Nat) : Int).toNat 1) = i := by rw [nad_eq, nmu_eq]; simp
      refine ld1 k hat (v := .int .u8 (x[i].toNat : Nat)) (by rw [eo]; exact over_get x i hlt j) ?_
      refine ⟨by omega, by omega, ?_⟩
      refine s1 k hat (by rw [eo]; simp [overL_len]; omega) ?_
      refine .as ((i + 1 : Nat) : Int) (by simp) (by simp only [mn]; omega) (by simp only [mx]; omega) ?_
      refine ⟨i + 1, by omega, by omega, ⟨⟨rfl, rfl, rfl, trivial⟩, ?_, rfl⟩⟩
      rw [eo, xor255, List.set_set, over_set x i hlt j]
      exact Sub.refl _
    · refine bkS ?_ go
      have : L.set k dead = (L.set k (cl b (overL x i ++ j).toArray 5)).set k dead := by rw [List.set_set]
      rw [this]
      exact sub_dead k
end
/-- a copy of bytes, with the marks -/
theorem cvC {C : Cx} {L : List Ent} {g : FuncId} {vs : List Value} {x : List UInt8} {next : Value → List Ent → Prop}
    (h : ∀ w, St C.M C.B w L → Calls C.P g vs.toArray w fun e w' => ∃ b c j, e = .returned (sv (some (b, c, marks ++ j)) x.length) ∧ Rw 1 x.length (some (b, c, marks ++ j)) (Lib.byteCells x) ∧ w.heap.size ≤ b ∧ w'.heap[b]? = some (.cells (Lib.byteCells x ++ (marks ++ j)).toArray 5 (0, 0)) ∧ Below w.heap.size w w')
    (go : ∀ b c j, Rw 1 x.length (some (b, c, marks ++ j)) (Lib.byteCells x) → next (sv (some (b, c, marks ++ j)) x.length) (L ++ [se (some (b, c, marks ++ j)) (Lib.byteCells x) 5])) : CallP C g vs L next :=
  ⟨fun w hs => (h w hs).mono fun e w' ⟨b, c, j, he, hR, hb, ho, hB⟩ => ⟨_, _, he, hs.add hB hb ho, go b c j hR⟩⟩
end Go.Proofs.YtpegkoklmhccjaaDoor
end
section
namespace Go.Proofs.YtpegkoklmhccjaaDoor
open Go.RowKit Go.Sx
set_option linter.unusedVariables false
theorem St.rdB {va : Option Addr} {ca : Nat} {l : Bs} {w : World} (h : Rd w (.slice va l.length ca) (Lib.byteCells l)) : St [] w w [rs (Go.Proofs.YtpegkoklmhccjaaDoor.rdB va ca l)] := St.reads fun e he => by
  obtain rfl : e = rs (Go.Proofs.YtpegkoklmhccjaaDoor.rdB va ca l) := by simpa using he
  exact ⟨(rsOk _ w).2 h, fun k hk => (rsW _ k).1 hk⟩
set_option maxRecDepth 100000 in
set_option maxHeartbeats 4000000 in
theorem rparse_any (va : Option Addr) (ca : Nat) (l : Bs) (hca : l.length ≤ ca) (hm : l.length ≤ maxLen) (w : World) (h : Rd w (.slice va l.length ca) (Lib.byteCells l)) : Calls Tryd.prog 18 ([.slice va l.length ca] : List Value).toArray w fun e w' => ∃ x : PO, PF l x ∧ e = .returned (.tuple #[.agg x.cs.toArray, .int .i64 x.code]) ∧ Below w.heap.size w w' ∧ ∃ A : Nat → Prop, (∀ k, A k → w.heap.size ≤ k) ∧ Held w' A [(x.j, x.cs)] := by
  refine (enter (R := fun u w' => ∃ x : PO, PF l x ∧ u = .tuple #[.agg x.cs.toArray, .int .i64 x.code] ∧ Below w.heap.size w w' ∧ ∃ A : Nat → Prop, (∀ k, A k → w.heap.size ≤ k) ∧ Held w' A [(x.j, x.cs)]) tab_ok (g := 18) Tryd.func18 rfl Tryd.ntmps18 (vs := [.slice va l.length ca]) rfl (St.rdB h) ?_).mono fun e w' ⟨u, he, x, hx, hu, h2⟩ => ⟨x, hx, by rw [he, hu], h2⟩
  intro b2
  refine cd (fun hl => ?_) (fun hl => ?_)
  · refine bu (c := valC 0 0 []) rfl ?_
    refine sN 1 rfl rfl (by simp [Value.oneCell']) ?_ (by kernel_rfl)
    refine ldN 1 rfl rfl ?_
    exact ⟨fun w' hs => ⟨⟨.mk 0 0 [] [] [], vcl 0 0 [] (.slice none 0 0) (.slice none 0 0), 10⟩, .inl ⟨by omega, rfl, rfl⟩, rfl, hs.below, fun _ => False, fun k h => h.elim, held_leaf ..⟩⟩
  · have hl4 : l.length ≤ 4096 := by omega
    refine bu (c := tC va ca l 0 false) rfl ?_
    intro b4
    refine cUX 2 rfl rfl (fun w hs => value_any_ref (by omega) hca 8 0 rfl 0 w (Nat.zero_le _) (hs.nth (k := 2) rfl) (hs.res (k := 0) rfl)) (fun x A w0 hx hH => ?_)
    obtain ⟨j, cs, q, bd⟩ := x
    have hcs := hH.2 _ (List.mem_singleton.2 rfl)
    have hc5 := hcs.len
    have hc1 := hcs.one
    obtain ⟨k1, k2, hx⟩ := hx
    rw [List.drop_zero] at hx
    dsimp only at hc5 hc1 k1 k2 hx ⊢
    intro b5
    refine sN 4 rfl (by rw [List.size_toArray, hc5]; rfl) (by simpa using hc1) ?_ (by rw [List.size_toArray, hc5]; kernel_rfl)
    refine cUs (c := fun x : Nat => tC va ca l x bd) (v := fun _ => .tuple #[]) (Φ := fun x : Nat => q ≤ x ∧ (x ≤ l.length ∨ x = q) ∧ l.drop x = ws (l.drop q)) 2 rfl (fun w hs => rblanks_any (by omega) (by omega) (hs.nth (k := 2) rfl) (hs.res (k := 0) rfl)) (fun p hp => ?_)
    obtain ⟨g1, g2, g3⟩ := hp
    dsimp only
    refine ld1 2 rfl (v := .bool bd) rfl ?_
    rcases hx with ⟨hx, rfl⟩ | ⟨hx, hq1, rfl⟩
    · have hq : parseP l = none := by unfold parseP; rw [hx]
      iterate 7 refine cf rfl ?_
      iterate 2 refine ct rfl ?_
      refine bu (c := valC 0 0 []) rfl ?_
      refine sN 1 rfl rfl (by simp [Value.oneCell']) ?_ (by kernel_rfl)
      refine ldN 1 rfl rfl ?_
      exact ⟨fun w' hs => ⟨⟨.mk 0 0 [] [] [], vcl 0 0 [] (.slice none 0 0) (.slice none 0 0), 1⟩, .inr (.inl ⟨hl4, hq, rfl, rfl⟩), rfl, hs.below, fun _ => False, fun k h => h.elim, held_leaf ..⟩⟩
    · iterate 4 refine ct rfl ?_
      refine ld1 2 rfl (v := .int .i64 p) rfl ?_
      iterate 3 refine ct rfl ?_
      refine cf rfl ?_
      have hpl : p ≤ l.length := by omega
      by_cases hpe : p = l.length
      · have hws : ws (l.drop q) = [] := by rw [← g3, hpe, List.drop_length]
        have hq : parseP l = some j := by unfold parseP; rw [hx]; exact if_pos hws
        refine cf (by rw [hpe, bne_self_eq_false]) ?_
        refine ldN 4 rfl (by rw [List.size_toArray, hc5]) ?_
        refine sN 1 rfl (by rw [List.size_toArray, hc5]; rfl) (by simpa using hc1) ?_ (by rw [List.size_toArray, hc5]; kernel_rfl)
        refine ldN 1 rfl (by rw [List.size_toArray, hc5]) ?_
        exact ⟨fun w' hs => ⟨⟨j, cs, 0⟩, .inr (.inr ⟨hl4, hq, rfl⟩), rfl, hs.below, A, fun i hi => (hs.ownW _ (List.mem_of_getElem? (i := 3) rfl) i ((rsW (heldR A [(j, cs)]) i).2 hi)).elim id (fun h => by simp at h), hs.res (k := 3) rfl⟩⟩
      · have hws : ws (l.drop q) ≠ [] := fun e => by
          rw [← g3] at e
          have := congrArg List.length e
          rw [List.length_drop] at this
          simp only [List.length_nil] at this
          omega
        have hq : parseP l = none := by unfold parseP; rw [hx]; exact if_neg hws
        refine ct (by rw [bne_iff_ne]; omega) ?_
        refine bu (c := valC 0 0 []) rfl ?_
        refine sN 1 rfl rfl (by simp [Value.oneCell']) ?_ (by kernel_rfl)
        refine ldN 1 rfl rfl ?_
        exact ⟨fun w' hs => ⟨⟨.mk 0 0 [] [] [], vcl 0 0 [] (.slice none 0 0) (.slice none 0 0), 1⟩, .inr (.inl ⟨hl4, hq, rfl, rfl⟩), rfl, hs.below, fun _ => False, fun k h => h.elim, held_leaf ..⟩⟩
/-- the reference's Parse, «as» a call in a walk -/
theorem cRParse {N : Nat} {M : Bks} {B : World} {F : Option Nat} {L : List Ent} {va : Option Addr} {ca : Nat} {l : Bs} {next : Value → List Ent → Prop} (hca : l.length ≤ ca) (hm : l.length ≤ maxLen) (hv : ∀ w, St M B w L → Rd w (.slice va l.length ca) (Lib.byteCells l))
    (go : ∀ x : PT, PTF l x → CS x.c x.j → next (.tuple #[.agg x.c.cs.toArray, .int .i64 x.code]) (L ++ [rs (ownT x.A x.c x.j)])) : CallP ⟨Tryd.prog, tab, N, M, B, F⟩ 18 [.slice va l.length ca] L next :=
  cM (C := ⟨Tryd.prog, tab, N, M, B, F⟩) (α := PT) (Φ := fun x => PTF l x ∧ CS x.c x.j) (v := fun x => .tuple #[.agg x.c.cs.toArray, .int .i64 x.code]) (r' := fun x => ownT x.A x.c x.j)
    (fun w hs => (rparse_any va ca l hca hm w (hv w hs)).mono fun e w' ⟨x, hx, he, hb, A, hA, hH⟩ => by
      obtain ⟨c, h1, h2⟩ := (hH.2 _ (List.mem_singleton.2 rfl)).ct
      exact ⟨⟨c, x.j, x.code, A⟩, ⟨hx, h2.cs⟩, by rw [he, h1], hb, ⟨hH.1, h2⟩, hA, fun k hk => hk.elim⟩) fun x hx => go x hx.1 hx.2
set_option maxRecDepth 100000 in
set_option maxHeartbeats 4000000 in
theorem law_parses (va : Option Addr) (l : Bs) (ca : Nat) (hca : l.length ≤ ca) (hm : l.length ≤ 140737488355328) (w : World) (ha : Rd w (.slice va l.length ca) (Lib.byteCells l)) (hw : Laid w) :
    Calls Tryd.prog 5 ([.slice va l.length ca] : List Value).toArray w fun e w' => e = .returned (.bool true) ∧ Below w.heap.size w w' := by
  have hm2 : l.length ≤ maxLen := by unfold maxLen; omega
  refine enterV tab_ok Tryd.func5 rfl Tryd.ntmps5 rfl (St.laid hw) ?_
  refine cvs (fun w hs => alive_any w (hs.res (k := 0) rfl)) ?_
  refine cf rfl ?_
  refine cvC (x := l) (fun w1 hs => copy_big _ l hm w1 (ha.below hs.below)) (fun b0 c0 j0 hR0 => ?_)
  refine cParse (l := l) 0 rfl hm2 (fun w hs => Rd.own hs 1 rfl hR0) (fun x hx hcs => ?_)
  obtain ⟨c, j, code, A⟩ := x
  dsimp only at hx hcs ⊢
  have hc5 := c.cs5
  intro b4
  refine sN 3 rfl (by rw [List.size_toArray, hc5]; rfl) (by simpa using hcs.one) ?_ (by rw [List.size_toArray, hc5]; kernel_rfl)
  refine cRParse (l := l) hca hm2 (fun w hs => ha.below hs.below) (fun y hy hcs2 => ?_)
  obtain ⟨c2, j2, code2, A2⟩ := y
  dsimp only at hy hcs2 ⊢
  have hd5 := c2.cs5
  obtain ⟨rfl, rfl, hres⟩ : code2 = code ∧ j2 = j ∧ ((code = 0 ∧ parseP l = some j) ∨ code ≠ 0) := by
    rcases hx with ⟨h, h5, h6⟩ | ⟨h, h4, h5, h6⟩ | ⟨h, h4, h5⟩ <;> rcases hy with ⟨k, k5, k6⟩ | ⟨k, k4, k5, k6⟩ | ⟨k, k4, k5⟩
    all_goals first
      | (exfalso; omega)
      | exact ⟨k5.trans h5.symm, k6.trans h6.symm, .inr (by dsimp only at h5; omega)⟩
      | (rw [h4] at k4; cases k4; done)
      | (rw [h4] at k4; exact ⟨k5.trans h5.symm, (Option.some.inj k4).symm, .inl ⟨h5, h4⟩⟩)
  clear hx hy
  intro b6
  refine sN 5 rfl (by rw [List.size_toArray, hd5]; rfl) (by simpa using hcs2.one) ?_ (by rw [List.size_toArray, hd5]; kernel_rfl)
  refine cvs (fun w hs => kept_big hm rfl hR0 w (hs.nth (k := 1) rfl) (ha.below hs.below)) ?_
  have z1 : ((code2 : Int) != (code2 : Int)) = false := by simp
  iterate 2 refine ct rfl ?_
  refine cv (fun w => num_any code2 w) ?_
  iterate 2 refine ct rfl ?_
  refine cf rfl ?_
  refine cf z1 ?_
  refine over_big 1 rfl hR0 hm ?_
  refine ldN 3 rfl (by rw [List.size_toArray, hc5]) ?_
  refine ldN 5 rfl (by rw [List.size_toArray, hd5]) ?_
  refine cvs (fun w hs => exact_two hcs c2 A A2 w (hs.res (k := 2) rfl) (hs.res (k := 4) rfl)) ?_
  iterate 3 refine ct rfl ?_
  rcases hres with ⟨rfl, hp⟩ | hne
  · iterate 1 refine ct rfl ?_
    refine ldN 3 rfl (by rw [List.size_toArray, hc5]) ?_
    refine ct rfl ?_
    have hck := check_any c j2 A
    rw [parse_good hp] at hck
    refine cvs (fun w hs => hck w (hs.res (k := 2) rfl) (hs.res (k := 0) rfl)) ?_
    iterate 2 refine ct rfl ?_
    refine cf rfl ?_
    refine ct rfl ?_
    exact rt rfl
  · have z2 : ((code2 : Int) != 0) = true := by rw [bne_iff_ne]; omega
    have z3 : (((code2 : Int) != 0) == false) = false := by rw [z2]; rfl
    iterate 3 refine cf z3 ?_
    refine ct rfl ?_
    refine ct z2 ?_
    refine ct rfl ?_
    exact rt rfl
end Go.Proofs.YtpegkoklmhccjaaDoor
end
section
namespace Go.Proofs.YtpegkoklmhccjaaDoor
open Go.ChangeShapes Go.WideShapes Go.ChangeAt Go.RowKit Go.Sx

theorem own : ownKnob Tryd.prog.godebug = none := by kernel_rfl
theorem laidOut : laidOutB Tryd.prog = true := by kernel_rfl
theorem cellsU8 : Tryd.prog.cellsOf 5 = 1 := by kernel_rfl
/-- some bytes by the numbers of their cells -/
theorem bytes_of (f : Nat → Int) (n : Nat) (h : ∀ i, i < n → 0 ≤ f i ∧ f i < 256) : ∃ bs : List UInt8, bs.length = n ∧ ∀ i, i < n → (Lib.byteCells bs)[i]? = some (.int .u8 (f i)) := by
  refine ⟨(List.range n).map fun i => UInt8.ofNat (f i).toNat, by simp, fun i hi => ?_⟩
  have := h i hi
  simp [Lib.byteCells, hi]
  omega
set_option maxRecDepth 100000 in
theorem open_rd {H : Type} {enc : TypeId × Value → H} {w : World} {base : Nat} {spare : Nat → Bool} {held : Bool} {r : Reach} {b0 : Nat} {v : Value} {d : DataW H} {p : List MemPlace}
    (hv : Value.okWide Tryd.prog w r b0 38 v) (h : DataW.Trod enc Tryd.prog w base spare held 38 v d p) : ∃ a bs c, v = .slice a bs.length c ∧ bs.length ≤ c ∧ c ≤ maxLen ∧ (∀ x, a = some x → x.spot = none) ∧ Rd w v (Lib.byteCells bs) := by
  obtain ⟨a0, len, cap, rfl⟩ := okWide_slice Tryd.underlying38 hv
  obtain ⟨fuel, hf⟩ := h
  rcases open_ints Tryd.underlying38 Tryd.underlying5 cellsU8 hf with ⟨hcs, hx⟩ | ⟨a, len', cap', zs, hcs, _, hl, hm, hz, hx, hcell, hwz⟩
  · have e : Value.slice a0 len cap = .slice none 0 0 := by simpa [Value.cells] using hcs
    injection e with e1 e2 e3
    subst e1 e2 e3
    exact ⟨none, [], 0, rfl, Nat.le_refl _, Nat.zero_le _, by simp, none, 0, rfl, fun h => absurd rfl h⟩
  · have e : Value.slice a0 len cap = .slice (some a) len' cap' := by simpa [Value.cells] using hcs
    injection e with e1 e2 e3
    subst e1 e2 e3
    have hlz : len ≤ zs.length := by rw [hz]; split <;> omega
    obtain ⟨bs, hbs, hd⟩ := bytes_of (fun i => zs.getD i 0) len (fun i hi => by
      have hmem : zs.getD i 0 ∈ zs := by
        have : zs.getD i 0 = zs[i]'(by omega) := by simp [List.getD, show i < zs.length by omega]
        rw [this]; exact List.getElem_mem _
      have := bounds_u8 (hwz _ hmem)
      omega)
    have hsp : a.spot = none := by
      have h := hv
      simp only [Value.okWide, Tryd.underlying38, Cell.okWide, Cell.ok, World.has] at h
      exact h.2.2.2.1
    refine ⟨some a, bs, cap, by rw [hbs], by omega, hm, by rintro x hx; obtain rfl := Option.some.inj hx; exact hsp, some a, cap, by rw [Lib.byteCells_length, hbs], fun hne => ?_⟩
    obtain ⟨b, o, sp⟩ := a
    obtain rfl : sp = none := hsp
    have hpos : 0 < len := by
      rcases Nat.eq_zero_or_pos len with h0 | h0
      · rw [h0] at hbs; rw [List.eq_nil_of_length_eq_zero hbs] at hne; exact absurd rfl hne
      · exact h0
    refine ⟨b, o, rfl, ?_, fun j u hu => ?_⟩
    · have := hcell 0 (by omega); exact World.block_lt_of_cell? w _ this
    · have hj : j < len := by have := (List.getElem?_eq_some_iff.1 hu).1; rw [Lib.byteCells_length] at this; omega
      rw [hd j hj] at hu
      rw [← addr_add, hcell j (by omega)]; exact hu
end Go.Proofs.YtpegkoklmhccjaaDoor
end
section
namespace Go.Proofs.YtpegkoklmhccjaaDoor
open Go.ChangeShapes Go.WideShapes Go.ChangeAt Go.RowKit Go.Sx

set_option maxRecDepth 100000 in
theorem open_str {w : World} {r : Reach} {b0 : Nat} {v : Value} (hv : Value.okWide Tryd.prog w r b0 9 v) : ∃ s : List UInt8, v = .string ⟨s.toArray⟩ ∧ s.length ≤ maxLen := by
  obtain ⟨s, rfl⟩ := okWide_string Tryd.underlying9 hv
  refine ⟨s.data.toList, by simp, ?_⟩
  simp only [Value.okWide, Tryd.underlying9, Cell.okWide, Cell.ok] at hv
  have : s.size ≤ maxLen := by simp at hv; unfold maxLen; omega
  exact this
end Go.Proofs.YtpegkoklmhccjaaDoor
end
section
namespace Go.Proofs.YtpegkoklmhccjaaDoor
open Go.ChangeShapes Go.WideShapes Go.ChangeAt Go.RowKit Go.Sx
set_option linter.unusedVariables false

abbrev TVal : Nat := 25
abbrev TVals : Nat := 22
abbrev TPair : Nat := 36
abbrev TPairs : Nat := 23
theorem cellsVal : Tryd.prog.cellsOf TVal = 5 := by kernel_rfl
theorem cellsPair : Tryd.prog.cellsOf TPair = 6 := by kernel_rfl
theorem cellsI : Tryd.prog.cellsOf 3 = 1 := by kernel_rfl
theorem cellsS : Tryd.prog.cellsOf 9 = 1 := by kernel_rfl
theorem cellsVs : Tryd.prog.cellsOf TVals = 1 := by kernel_rfl
theorem cellsPs : Tryd.prog.cellsOf TPairs = 1 := by kernel_rfl
theorem cellsAR : Tryd.prog.cellsOf 87 = 2 := by kernel_rfl
theorem fst_tab : (List.range 256).all (fun i => Go.Pinned.utf8FirstZ.getD i 0 == fstN i) = true := by kernel_rfl
theorem fst_len : Go.Pinned.utf8FirstZ.length = 256 := by kernel_rfl
def arL : List (DataW Unit) := [.agg [.lit (.int .u8 128), .lit (.int .u8 191)], .agg [.lit (.int .u8 160), .lit (.int .u8 191)], .agg [.lit (.int .u8 128), .lit (.int .u8 159)], .agg [.lit (.int .u8 144), .lit (.int .u8 191)], .agg [.lit (.int .u8 128), .lit (.int .u8 143)]] ++ List.replicate 11 (.agg [.lit (.int .u8 0), .lit (.int .u8 0)])
set_option maxRecDepth 100000 in
/-- the tables lie where the program looks -/
theorem laid_of {W : World} (h : laidMetH Tryd.prog [("unicode/utf8.acceptRanges", Rows.laid_unicode_utf8_acceptRanges), ("unicode/utf8.first", Rows.laid_unicode_utf8_first)] W) : Laid W := by
  rw [MakeChecks.laidMetH_plain _ _ _ (by kernel_rfl)] at h
  obtain ⟨ps, ⟨g1, t1, cs1, f1, p1, q1, hg1, ht1, hv1, hd1, ⟨g2, t2, cs2, f2, p2, q2, hg2, ht2, hv2, hd2, _, _⟩, _⟩, _, _⟩ := h
  obtain rfl := Option.some.inj ((show Tryd.prog.globalNamed "unicode/utf8.acceptRanges" = some 1 by kernel_rfl).symm.trans hg1)
  obtain rfl := Option.some.inj ((show Tryd.prog.globalNamed "unicode/utf8.first" = some 0 by kernel_rfl).symm.trans hg2)
  obtain rfl := Option.some.inj ((show (Tryd.prog.globals[1]?).map (·.type) = some 88 by kernel_rfl).symm.trans ht1)
  obtain rfl := Option.some.inj ((show (Tryd.prog.globals[0]?).map (·.type) = some 85 by kernel_rfl).symm.trans ht2)
  have hf : ∀ i, i < 256 → W.cell? ⟨0, i, none⟩ = some (.int .u8 (fstN i : Nat)) := by
    intro r hr
    obtain ⟨xs, m, _, ex, _, hl, hel⟩ := DataW.trod_array Tryd.underlying85 hd2
    have hE := hel r hr
    rw [cellsU8, Nat.mul_one, List.getElem?_eq_getElem (by omega)] at hE
    obtain ⟨z, e1, e2, _⟩ := DataW.trod_int Tryd.underlying5 hE
    have hlen := fst_len
    have e3 : (xs.map (·.1)) = Go.Pinned.utf8FirstZ.map fun (n : Nat) => .lit (.int .u8 (n : Int)) := (DataW.agg.inj (Prod.mk.inj ex).1).symm
    have e4 : (xs.map (·.1))[r]? = (Go.Pinned.utf8FirstZ.map fun (n : Nat) => (DataW.lit (.int .u8 (n : Int)) : DataW Unit))[r]? := by rw [e3]
    rw [List.getElem?_map, List.getElem?_map, List.getElem?_eq_getElem (by omega : r < xs.length), List.getElem?_eq_getElem (by omega : r < Go.Pinned.utf8FirstZ.length), e2] at e4
    have hz : z = ((fstN r : Nat) : Int) := by
      simp only [Option.map_some, Option.some.injEq, DataW.lit.injEq, Lit.int.injEq, true_and] at e4
      have h2 := List.all_eq_true.1 fst_tab r (List.mem_range.2 hr)
      rw [List.getD, List.getElem?_eq_getElem (by omega : r < Go.Pinned.utf8FirstZ.length)] at h2
      rw [e4]
      exact congrArg Int.ofNat (by simpa using h2)
    rw [World.var?_cell hg2 hv2 r, ← hz]
    have : cs2.toList[r]? = some (.int .u8 z) := by
      have h0 : ((cs2.toList.drop r).take 1)[0]? = some (.int .u8 z) := by rw [e1]; rfl
      simpa using h0
    simpa using this
  have ha : ∀ i, i < 32 → W.cell? ⟨1, i, none⟩ = some (.int .u8 (accN i : Nat)) := by
    intro r hr
    obtain ⟨xs, m, _, ex, _, hl, hel⟩ := DataW.trod_array Tryd.underlying88 hd1
    have hE := hel (r / 2) (by omega)
    rw [cellsAR, List.getElem?_eq_getElem (by omega)] at hE
    obtain ⟨ys, k, _, ey, _, hyl, hfs⟩ := DataW.trod_struct Tryd.underlying87 hE
    have hyl : ys.length = 2 := hyl
    have e3 : (xs.map (·.1)) = arL := (DataW.agg.inj (Prod.mk.inj ex).1).symm
    have e4 : (xs.map (·.1))[r / 2]? = arL[r / 2]? := by rw [e3]
    rw [List.getElem?_map, List.getElem?_eq_getElem (by omega : r / 2 < xs.length), ey] at e4
    have g0 : DataW.trod (fun _ => ()) Tryd.prog W 0 (fun _ => true) false k 5 ((((cs1.toList.drop (r / 2 * 2)).take 2).drop 0).take (Tryd.prog.cellsOf 5)) = ys[0]? := hfs 0 _ rfl
    have g1 : DataW.trod (fun _ => ()) Tryd.prog W 0 (fun _ => true) false k 5 ((((cs1.toList.drop (r / 2 * 2)).take 2).drop 1).take (Tryd.prog.cellsOf 5)) = ys[1]? := hfs 1 _ rfl
    rw [cellsU8, List.getElem?_eq_getElem (by omega)] at g0 g1
    obtain ⟨z0, a1, a2, _⟩ := DataW.trod_int Tryd.underlying5 g0
    obtain ⟨z1, b1, b2, _⟩ := DataW.trod_int Tryd.underlying5 g1
    have hys : ys.map (·.1) = [.lit (.int .u8 z0), .lit (.int .u8 z1)] := by
      match ys, hyl with
      | [y0, y1], _ =>
        simp only [List.getElem_cons_zero, List.getElem_cons_succ] at a2 b2
        rw [a2, b2]; rfl
    rw [hys] at e4
    have c0 : cs1.toList[r / 2 * 2]? = some (.int .u8 z0) := by
      have h0 : ((((cs1.toList.drop (r / 2 * 2)).take 2).drop 0).take 1)[0]? = some (.int .u8 z0) := by rw [a1]; rfl
      simpa using h0
    have c1 : cs1.toList[r / 2 * 2 + 1]? = some (.int .u8 z1) := by
      have h0 : ((((cs1.toList.drop (r / 2 * 2)).take 2).drop 1).take 1)[0]? = some (.int .u8 z1) := by rw [b1]; rfl
      simpa using h0
    have tab : (List.range 32).all (fun i => match (arL[i / 2]? : Option (DataW Unit)) with | some (.agg [.lit (.int .u8 x), .lit (.int .u8 y)]) => (if i % 2 = 0 then x else y) == (accN i : Int) | _ => false) = true := by kernel_rfl
    have t1 := List.all_eq_true.1 tab r (List.mem_range.2 hr)
    rw [← e4] at t1
    simp only [Option.map_some, beq_iff_eq] at t1
    rw [World.var?_cell hg1 hv1 r, ← t1]
    rcases Nat.mod_two_eq_zero_or_one r with h0 | h0
    · rw [if_pos h0]
      have : r = r / 2 * 2 := by omega
      rw [this]; simpa using c0
    · rw [if_neg (by omega)]
      have : r = r / 2 * 2 + 1 := by omega
      rw [this]
      simpa using c1
  exact ⟨World.block_lt_of_cell? W _ (hf 0 (by omega)), World.block_lt_of_cell? W _ (ha 0 (by omega)), hf, ha⟩
theorem CT.cs5' (c : CT) : c.cs.length = 5 := by cases c; rfl
open Classical in
theorem chooseL {α : Type} (a0 : α) {n : Nat} {p : Nat → α → Prop} (h : ∀ i, i < n → ∃ a, p i a) : ∃ f : Nat → α, ∀ i, i < n → p i (f i) :=
  ⟨fun i => if hi : i < n then Classical.choose (h i hi) else a0, fun i hi => by
    show p i (if hi : i < n then Classical.choose (h i hi) else a0)
    rw [dif_pos hi]; exact Classical.choose_spec (h i hi)⟩
/-- its numbers and texts are such «as» the program's can be -/
inductive Fit : CT → Prop
  | mk {k i : Int} {s : Bs} {vl vp : Value} {l : List CT} {p : List (Bs × CT)} (hk : -9223372036854775808 ≤ k ∧ k ≤ 9223372036854775807) (hi : -9223372036854775808 ≤ i ∧ i ≤ 9223372036854775807) (hs : s.length ≤ maxLen) (hl : ∀ c, c ∈ l → Fit c) (hn : ∀ q : Bs × CT, q ∈ p → q.1.length ≤ maxLen) (hp : ∀ q : Bs × CT, q ∈ p → Fit q.2) : Fit (.mk k i s vl vp l p)
section
variable {H : Type} {enc : TypeId × Value → H} {w : World} {base : Nat} {spare : Nat → Bool} {held : Bool}
set_option maxRecDepth 100000 in
/-- a row that came in -/
theorem open_rowat {T TS : TypeId} {z fuel : Nat} {α : Type} (a0 : α) (R : α → List Value → Prop) (ht : Tryd.prog.underlying TS = some (.slice T)) (hc : Tryd.prog.cellsOf T = z) (hz : 0 < z) (hR : ∀ a c, R a c → c.length = z)
    (ih : ∀ n, n < fuel → ∀ cs x, DataW.trod enc Tryd.prog w base spare held n T cs = some x → ∃ a, R a cs) {cs : List Value} {x : DataW H × List MemPlace} (h : DataW.trod enc Tryd.prog w base spare held fuel TS cs = some x) :
    ∃ (v : Value) (l : List α) (C : Nat → List Value), cs = [v] ∧ RowAt w (fun k => k < w.heap.size) z l.length C v ∧ ∀ i a, l[i]? = some a → R a (C i) := by
  rcases DataW.trod_slice ht h with ⟨rfl, _⟩ | ⟨a, len, cap, elems, rest, n, rfl, rfl, _, _, hl, hm, hlen, hel, _, _⟩
  · exact ⟨_, [], fun _ => [], rfl, ⟨Nat.zero_le _, none, 0, rfl, fun h => absurd rfl h⟩, fun i a h => by simp at h⟩
  · have each : ∀ i, i < len → ∃ q : List Value × α, w.cells? base (a.add (i * z)) z = some q.1 ∧ R q.2 q.1 := fun i hi => by
      have hE := hel i hi
      rw [List.getElem?_eq_getElem (by omega), Option.bind_eq_some_iff] at hE
      obtain ⟨c, h1, h2⟩ := hE
      obtain ⟨q, hq⟩ := ih n (by omega) c _ h2
      rw [hc] at h1
      exact ⟨(c, q), h1, hq⟩
    obtain ⟨O, hO⟩ := chooseL ([], a0) each
    refine ⟨_, (List.range len).map fun i => (O i).2, fun i => (O i).1, rfl, ⟨by simp; omega, some a, cap, by simp, fun h0 => ?_⟩, fun i q hq => ?_⟩
    · have h0 : 0 < len := by simp at h0; omega
      have hsp : a.spot = none ∧ a.block < w.heap.size := by
        obtain ⟨_, h2, h3⟩ := World.cells?_some (hO 0 h0).1
        have hcell := (h3 0 hz).trans (List.getElem?_eq_getElem (by rw [h2]; omega))
        exact ⟨by have := World.cell?_spot hcell; simpa [Addr.add] using this, by obtain ⟨b, o, sp⟩ := a; have := World.block_lt_of_cell? w _ hcell; simpa [Addr.add] using this⟩
      obtain ⟨b, o, sp⟩ := a
      obtain ⟨rfl, hb⟩ := hsp
      refine ⟨b, o, rfl, hb, fun i hi => ?_⟩
      have hi : i < len := by simpa using hi
      obtain ⟨h1, h2⟩ := hO i hi
      refine ⟨hR _ _ h2, fun y u hu => ?_⟩
      obtain ⟨_, h4, h5⟩ := World.cells?_some h1
      have hy : y < z := by have hz1 : y < (O i).1.length := (List.getElem?_eq_some_iff.1 hu).1; have := hR _ _ h2; omega
      have := (h5 y hy).trans hu
      rw [addr_add, addr_add] at this
      exact this
    · have hi : i < len := by have := (List.getElem?_eq_some_iff.1 hq).1; simpa using this
      have : q = (O i).2 := by simpa [hi] using hq.symm
      rw [this]; exact (hO i hi).2
set_option maxRecDepth 100000 in
theorem open_vf : ∀ (fuel : Nat) (cs : List Value) (x : DataW H × List MemPlace), DataW.trod enc Tryd.prog w base spare held fuel TVal cs = some x → ∃ q : CT × JV, q.1.cs = cs ∧ Rt w (fun k => k < w.heap.size) q.1 q.2 ∧ Fit q.1 := by
  intro fuel
  induction fuel using Nat.strongRecOn with
  | ind fuel ih =>
    intro cs x h
    have hlen0 : cs.length = 5 := by
      obtain ⟨_, _, _, _, hcl, _⟩ := DataW.trod_struct Tryd.underlying25 h
      rw [hcl]; exact cellsVal
    obtain ⟨xs, k, rfl, _, _, hxl, hfs⟩ := DataW.trod_struct Tryd.underlying25 h
    match xs, hxl, cs, hlen0 with
    | [y0, y1, y2, y3, y4], _, [v0, v1, v2, v3, v4], _ =>
      have g0 : DataW.trod enc Tryd.prog w base spare held k 3 (([v0, v1, v2, v3, v4].drop 0).take (Tryd.prog.cellsOf 3)) = some y0 := hfs 0 _ rfl
      have g1 : DataW.trod enc Tryd.prog w base spare held k 3 (([v0, v1, v2, v3, v4].drop 1).take (Tryd.prog.cellsOf 3)) = some y1 := hfs 1 _ rfl
      have g2 : DataW.trod enc Tryd.prog w base spare held k 9 (([v0, v1, v2, v3, v4].drop 2).take (Tryd.prog.cellsOf 9)) = some y2 := hfs 2 _ rfl
      have g3 : DataW.trod enc Tryd.prog w base spare held k TVals (([v0, v1, v2, v3, v4].drop 3).take (Tryd.prog.cellsOf TVals)) = some y3 := hfs 3 _ rfl
      have g4 : DataW.trod enc Tryd.prog w base spare held k TPairs (([v0, v1, v2, v3, v4].drop 4).take (Tryd.prog.cellsOf TPairs)) = some y4 := hfs 4 _ rfl
      rw [cellsI] at g0 g1
      rw [cellsS] at g2
      rw [cellsVs] at g3
      rw [cellsPs] at g4
      obtain ⟨n0, e0, _, w0⟩ := DataW.trod_int Tryd.underlying3 g0
      obtain ⟨n1, e1, _, w1⟩ := DataW.trod_int Tryd.underlying3 g1
      obtain ⟨s2, e2, _, w2⟩ := DataW.trod_string Tryd.underlying9 g2
      obtain ⟨v3', L, C, e3, hr3, hk3⟩ := open_rowat (z := 5) ((.mk 0 0 [] (.bool false) (.bool false) [] [], .mk 0 0 [] [] []) : CT × JV) (fun (q : CT × JV) cs => q.1.cs = cs ∧ Rt w (fun k => k < w.heap.size) q.1 q.2 ∧ Fit q.1) Tryd.underlying22 cellsVal (by decide) (fun q c h => by rw [← h.1]; exact CT.cs5' _) (fun n hn cs x h => ih n (by omega) cs x h) g3
      obtain ⟨v4', M, D, e4, hr4, hk4⟩ := open_rowat (z := 6) (([], .mk 0 0 [] (.bool false) (.bool false) [] [], .mk 0 0 [] [] []) : Bs × CT × JV) (fun (q : Bs × CT × JV) cs => sj q.1 :: q.2.1.cs = cs ∧ Rt w (fun k => k < w.heap.size) q.2.1 q.2.2 ∧ Fit q.2.1 ∧ q.1.length ≤ maxLen) Tryd.underlying23 cellsPair (by decide) (fun q c h => by rw [← h.1, List.length_cons, CT.cs5']) (fun n hn cs x h => by
        have hlen1 : cs.length = 6 := by
          obtain ⟨_, _, _, _, hcl, _⟩ := DataW.trod_struct Tryd.underlying36 h
          rw [hcl]; exact cellsPair
        obtain ⟨xs, k', rfl, _, _, hxl, hfs⟩ := DataW.trod_struct Tryd.underlying36 h
        match xs, hxl with
        | [y0, y1], _ =>
          have g0 : DataW.trod enc Tryd.prog w base spare held k' 9 ((cs.drop 0).take (Tryd.prog.cellsOf 9)) = some y0 := hfs 0 _ rfl
          have g1 : DataW.trod enc Tryd.prog w base spare held k' TVal ((cs.drop 1).take (Tryd.prog.cellsOf TVal)) = some y1 := hfs 1 _ rfl
          rw [cellsS] at g0
          rw [cellsVal] at g1
          obtain ⟨s, e, _, ws⟩ := DataW.trod_string Tryd.underlying9 g0
          obtain ⟨q, hq1, hq2, hq3⟩ := ih k' (by omega) _ _ g1
          refine ⟨(s.data.toList, q.1, q.2), ?_, hq2, hq3, by simpa using ws⟩
          match cs, hlen1 with
          | [c0, c1, c2, c3, c4, c5], _ =>
            rw [hq1]
            simp at e ⊢
            rw [e]) g4
      simp at e0 e1 e2 e3 e4
      subst e0 e1 e2 e3 e4
      refine ⟨(.mk n0 n1 s2.data.toList v3 v4 (L.map (·.1)) (M.map fun q => (q.1, q.2.1)), .mk n0 n1 s2.data.toList (L.map (·.2)) (M.map fun q => (q.1, q.2.2))), by simp [CT.cs, vcl], .mk (by simp) (by simp) (by
          rw [List.length_map]
          exact hr3.ext fun i hi => by
            have h1 : L[i]? = some L[i] := List.getElem?_eq_getElem hi
            unfold CT.nth
            rw [List.getElem?_map, h1]
            exact (hk3 i _ h1).1) (by
          rw [List.length_map]
          exact hr4.ext fun i hi => by
            have h1 : M[i]? = some M[i] := List.getElem?_eq_getElem hi
            unfold CT.pth
            rw [List.getElem?_map, h1]
            exact (hk4 i _ h1).1) (fun n c j h1 h2 => ?_) (fun n c j h1 h2 => ?_) (fun n c j h1 h2 => ?_), .mk (bounds_i64 w0) (bounds_i64 w1) (by simpa using w2) (fun c hc => ?_) (fun q hq => ?_) (fun q hq => ?_)⟩
      · rw [List.getElem?_map, Option.map_eq_some_iff] at h1 h2
        obtain ⟨q, hq, rfl⟩ := h1
        obtain ⟨q', hq', rfl⟩ := h2
        obtain rfl := Option.some.inj (hq.symm.trans hq')
        exact (hk3 n q hq).2.1
      · rw [List.getElem?_map, Option.map_eq_some_iff] at h1 h2
        obtain ⟨q, hq, rfl⟩ := h1
        obtain ⟨q', hq', rfl⟩ := h2
        obtain rfl := Option.some.inj (hq.symm.trans hq')
        rfl
      · rw [List.getElem?_map, Option.map_eq_some_iff] at h1 h2
        obtain ⟨q, hq, rfl⟩ := h1
        obtain ⟨q', hq', rfl⟩ := h2
        obtain rfl := Option.some.inj (hq.symm.trans hq')
        exact (hk4 n q hq).2.1
      · obtain ⟨q, hq, rfl⟩ := List.mem_map.1 hc
        obtain ⟨n, hn, he⟩ := List.mem_iff_getElem.1 hq
        exact (hk3 n q (by rw [List.getElem?_eq_getElem hn, he])).2.2
      · obtain ⟨q', hq', rfl⟩ := List.mem_map.1 hq
        obtain ⟨n, hn, he⟩ := List.mem_iff_getElem.1 hq'
        exact (hk4 n q' (by rw [List.getElem?_eq_getElem hn, he])).2.2.2
      · obtain ⟨q', hq', rfl⟩ := List.mem_map.1 hq
        obtain ⟨n, hn, he⟩ := List.mem_iff_getElem.1 hq'
        exact (hk4 n q' (by rw [List.getElem?_eq_getElem hn, he])).2.2.1
set_option maxRecDepth 100000 in
theorem open_val {r : Reach} {b0 : Nat} {v : Value} {d : DataW H} {p : List MemPlace} (hv : Value.okWide Tryd.prog w r b0 TVal v) (h : DataW.Trod enc Tryd.prog w base spare held TVal v d p) : ∃ c j, v = .agg c.cs.toArray ∧ HeldT w (fun k => k < w.heap.size) c j ∧ Fit c := by
  have hv2 : ∃ cs, v = .agg cs := by
    simp only [Value.okWide, Tryd.underlying25] at hv
    obtain ⟨cs, h1, _⟩ := hv
    exact ⟨cs, h1⟩
  obtain ⟨cs, rfl⟩ := hv2
  obtain ⟨fuel, hf⟩ := h
  obtain ⟨q, h1, h2, h3⟩ := open_vf fuel _ _ hf
  exact ⟨q.1, q.2, by rw [h1]; simp [Value.cells], ⟨fun k hk => hk, h2⟩, h3⟩
end
end Go.Proofs.YtpegkoklmhccjaaDoor
end
