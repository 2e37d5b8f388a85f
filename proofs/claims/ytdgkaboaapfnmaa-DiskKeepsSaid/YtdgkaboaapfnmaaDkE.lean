/- The disk: Read; Append. -/
import Derived.Test.YtdgkaboaapfnmaaDkD
import Derived.Test.YtdgkaboaapfnmaaCon
namespace Go.Proofs.Ytdgkaboaapfnmaa
open Go.RowKit Go.Sx
set_option linter.unusedVariables false

/-- a call that hands back a row of its own, and more -/
theorem coV {C : Cx} {L : List Ent} {g : FuncId} {vs : List Value} {n z : Nat} {xs : List Value} {e : TypeId} {next : Value → List Ent → Prop} (F : Value → Value)
    (h : ∀ w, St C.M C.B w L → Calls C.P g vs.toArray w fun en w' => ∃ r, en = .returned (F (sv r n)) ∧ Rw z n r xs ∧ Made w w' r xs e ∧ Below w.heap.size w w')
    (go : ∀ r, Rw z n r xs → next (F (sv r n)) (L ++ [se r xs e])) : CallP C g vs L next := by
  refine ⟨fun w hs => (h w hs).mono fun en w' ⟨r, he, hR, ho, hb⟩ => ⟨_, _, he, ?_, go r hR⟩⟩
  cases r with
  | none => exact (hs.call hb).deads
  | some p =>
    obtain ⟨b, c, j⟩ := p
    obtain ⟨h1, h2⟩ := ho b c j rfl
    exact hs.add hb h1 h2
/-- the blocks of a row of one's own -/
def rowB (r : Sx.Own) (k : Nat) : Prop := ∃ b c j, r = some (b, c, j) ∧ k = b
theorem RdR.own {M : Bks} {B w : World} {L : List Ent} (hs : St M B w L) (k : Nat) {r : Sx.Own} {xs : List Value} {e : TypeId} {n : Nat} (hk : L[k]? = some (se r xs e)) (hR : Rw 1 n r xs) : RdR (rowB r) w (sv r n) xs := by
  obtain ⟨h1, h2⟩ := hR
  have hn : xs.length = n := by omega
  cases r with
  | none =>
    simp only at h2; subst h2
    have hx : xs = [] := List.eq_nil_of_length_eq_zero hn
    subst hx
    exact ⟨none, 0, rfl, Nat.le_refl _, Nat.zero_le _, by simp, fun _ => rfl, fun h => absurd rfl h⟩
  | some p =>
    obtain ⟨b, c, j⟩ := p
    refine ⟨some ⟨b, 0, none⟩, c, by rw [hn]; rfl, by rw [hn]; exact h2.1, h2.2.1, by rintro x hx; obtain rfl := Option.some.inj hx; rfl, fun h => (by cases h), fun hx => ⟨b, 0, rfl, ⟨b, c, j, rfl, rfl⟩, hs.lt (List.mem_of_getElem? hk) rfl, fun i u hu => ?_⟩⟩
    have := hs.cell (k := k) (b := b) hk (0 + i)
    rw [this, Nat.zero_add]
    have hi := (List.getElem?_eq_some_iff.1 hu).1
    simp [List.getElem?_append_left hi, hu]
set_option maxRecDepth 100000 in
theorem clone_any (v : Value) (x : List UInt8) (hx : x.length ≤ 16777216) (w : World) (hv : Rd w v (Lib.byteCells x)) : Calls Try.prog 53 ([v] : List Value).toArray w fun e w' => ∃ r, e = .returned (sv r x.length) ∧ Rw 1 x.length r (Lib.byteCells x) ∧ Made w w' r (Lib.byteCells x) 5 ∧ Below w.heap.size w w' := by
  have hv0 := hv
  obtain ⟨a, c, rfl, hn⟩ := hv
  rw [Lib.byteCells_length] at hv0 ⊢
  refine (enter tab_ok Try.func53 rfl Try.ntmps53 rfl (St.start w) (R := fun v w' => ∃ r, v = sv r x.length ∧ Rw 1 x.length r (Lib.byteCells x) ∧ Made w w' r (Lib.byteCells x) 5 ∧ Below w.heap.size w w') ?_).mono (fun e w' ⟨v, he, r, hv, h⟩ => ⟨r, by rw [he, hv], h⟩)
  cases a with
  | none =>
    have h0 : x = [] := by
      by_cases h : x = []
      · exact h
      · obtain ⟨b, o, h1, _⟩ := hn (by intro h'; have := congrArg List.length h'; rw [Lib.byteCells_length] at this; exact h (List.eq_nil_of_length_eq_zero this))
        cases h1
    subst h0
    refine ct rfl ?_
    exact ⟨fun w1 hs => ⟨none, rfl, Rw.nil 1, (fun _ _ _ h => by cases h), hs.below⟩⟩
  | some a =>
    refine cf rfl ?_
    refine .mk _ _ (fun w => bsl0 w) (fun b1 => ?_)
    refine ap (r := some (b1, 0, [])) (xs := []) (n := 0) (m := (Lib.byteCells x).length) (news := Lib.byteCells x) 0 tab_ok rfl info5 rfl rfl ⟨rfl, Nat.le_refl _, Nat.zero_le _, rfl⟩ (fun w' hs => (hv0.below hs.below).src und22 (one8 x)) (by rw [Lib.byteCells_length]; omega) (by rw [Lib.byteCells_length]; unfold maxLen; omega) (fun r1 hR1 => ?_)
    rw [List.nil_append] at hR1
    rw [Nat.zero_add, Lib.byteCells_length] at hR1
    refine ⟨fun w1 hs => ⟨r1, ?_, hR1, made_of hs rfl 0 rfl, hs.below⟩⟩
    show sv r1 (0 + _) = _
    rw [Nat.zero_add, Lib.byteCells_length]
def readD (D : Dk) (n : List UInt8) : List UInt8 × Nat := if D.gone then ([], 4) else match findF n D.files with
  | none => ([], 5)
  | some f => (f.bs, 0)
theorem dk_below {S : DkS} {w w' : World} (h : DkP S w) (hs : Below w.heap.size w w') : DkP S w' := (dkR S).st w w' (fun k hk => hs.block k ((dkR S).bd w h k hk)) h
set_option maxRecDepth 100000 in
theorem read_any (S : DkS) (n : List UInt8) (w : World) (h : DkP S w) : Calls Try.prog 24 ([ptr S.bd, VS n] : List Value).toArray w fun e w' =>
    ∃ r, e = .returned (.tuple #[sv r (readD S.D n).1.length, errV (readD S.D n).2]) ∧ Rw 1 (readD S.D n).1.length r (Lib.byteCells (readD S.D n).1) ∧ Made w w' r (Lib.byteCells (readD S.D n).1) 5 ∧ Below w.heap.size w w' := by
  refine (enter tab_ok Try.func24 rfl Try.ntmps24 rfl (St.start w) (R := fun v w' => ∃ r, v = .tuple #[sv r (readD S.D n).1.length, errV (readD S.D n).2] ∧ Rw 1 (readD S.D n).1.length r (Lib.byteCells (readD S.D n).1) ∧ Made w w' r (Lib.byteCells (readD S.D n).1) 5 ∧ Below w.heap.size w w') ?_).mono (fun e w' ⟨v, he, r, hv, h⟩ => ⟨r, by rw [he, hv], h⟩)
  refine cvs (fun w' hs => down_any S w' (dk_below h hs.below)) ?_
  cases hg : S.D.gone with
  | true =>
    have e1 : readD S.D n = ([], 4) := if_pos hg
    rw [e1]
    refine ct rfl ?_
    exact ⟨fun w1 hs => ⟨none, rfl, Rw.nil 1, (fun _ _ _ h => by cases h), hs.below⟩⟩
  | false =>
    have e1 : readD S.D n = match findF n S.D.files with | none => ([], 5) | some f => (f.bs, 0) := if_neg (by rw [hg]; decide)
    refine cf rfl ?_
    refine cvs (fun w' hs => has_any S n w' (dk_below h hs.below)) ?_
    rcases getF h.f.all n with ⟨h1, h2⟩ | ⟨f, v, h1, h2, h3⟩
    · rw [h1] at e1
      rw [e1, h2]
      intro b
      refine sN 0 rfl rfl rfl ?_ (by kernel_rfl)
      refine ld1 0 rfl (v := .slice none 0 0) rfl ?_
      refine coV id (fun w' hs => clone_any _ [] (Nat.zero_le _) w' (rd_nil _ _ _)) (fun r hR => ?_)
      exact ⟨fun w1 hs => ⟨r, rfl, hR, made_of hs rfl 1 rfl, hs.below⟩⟩
    · obtain ⟨a, c, hvv, _⟩ := id h3
      subst hvv
      rw [h1] at e1
      rw [e1, h2]
      have hz := (h.f.sz f (findF_mem h1).1).2.1
      rw [Lib.byteCells_length] at h3 ⊢
      intro b
      refine sN 0 rfl rfl rfl ?_ (by kernel_rfl)
      refine ld1 0 rfl (v := .slice a f.bs.length c) rfl ?_
      refine coV id (fun w' hs => clone_any _ f.bs hz w' (h3.rd.below hs.below)) (fun r hR => ?_)
      exact ⟨fun w1 hs => ⟨r, rfl, hR, made_of hs rfl 1 rfl, hs.below⟩⟩
end Go.Proofs.Ytdgkaboaapfnmaa
