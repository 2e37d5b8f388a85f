/- coder.Sum, coder.Wide and the reference's: the walks. -/
import Derived.Test.YtcojgckfcgbodaaDoorCdY
import Derived.Test.YtcojgckfcgbodaaDoorSxJ
namespace Go.Proofs.YtcojgckfcgbodaaDoor
open Go.RowKit Go.Sx
set_option linter.unusedVariables false

def exO (n : Nat) : Option (List UInt8) → Option (List UInt8)
  | none => none
  | some x => if x.length = n then some x else none
theorem exO_len {n : Nat} {o : Option (List UInt8)} {x : List UInt8} (h : exO n o = some x) : x.length = n := by
  unfold exO at h
  split at h
  · cases h
  · split at h
    · obtain rfl := Option.some.inj h; assumption
    · cases h
/-- what exact hands back -/
def ExR (w : World) (o : Option (List UInt8)) (e : Ending) (w' : World) : Prop := Below w.heap.size w w' ∧ match o with
  | none => e = .returned (.tuple #[.slice none 0 0, ErrV])
  | some x => ∃ b j, e = .returned (.tuple #[.slice (some ⟨b, 0, none⟩) x.length x.length, .nilIface]) ∧ w.heap.size ≤ b ∧ w'.heap[b]? = some (.cells (Lib.byteCells x ++ j).toArray 5 (0, 0))
theorem cE {C : Cx} {L : List Ent} {g : FuncId} {vs : List Value} {o : Option (List UInt8)} {next : Value → List Ent → Prop} (h : ∀ w, St C.M C.B w L → Calls C.P g vs.toArray w (ExR w o))
    (g0 : o = none → next (.tuple #[.slice none 0 0, ErrV]) L) (g1 : ∀ x b j, o = some x → next (.tuple #[.slice (some ⟨b, 0, none⟩) x.length x.length, .nilIface]) (L ++ [cl b (Lib.byteCells x ++ j).toArray 5])) : CallP C g vs L next := by
  refine ⟨fun w hs => (h w hs).mono fun e w' hr => ?_⟩
  obtain ⟨hb, hr⟩ := hr
  cases o with
  | none => exact ⟨_, L, hr, hs.call hb, g0 rfl⟩
  | some x =>
    obtain ⟨b, j, he, h1, h2⟩ := hr
    exact ⟨_, _, he, hs.add hb h1 h2, g1 x b j rfl⟩
set_option maxRecDepth 100000 in
theorem exact_hex (n : Nat) (hn0 : 0 < n) (l : List UInt8) (hl : l.length ≤ 1000000) (w : World) : Calls Tryd.prog 33 ([.func (.func 10) #[] #[], .string ⟨l.toArray⟩, .int .i64 n] : List Value).toArray w (ExR w (exO n (decL hexS 4 l))) := by
  refine (enter tab_ok Tryd.func33 rfl Tryd.ntmps33 rfl (St.start w) (R := fun v w' => ExR w (exO n (decL hexS 4 l)) (.returned v) w') ?_).mono (fun e w' ⟨v, he, h⟩ => by rw [he]; exact h)
  refine cD (fun w' _ => unhex_any l hl w') (fun h1 => ?_) (fun x r h1 hR => ?_)
  · rw [h1]
    iterate 4 refine cf rfl ?_
    refine ct rfl ?_
    refine ct rfl ?_
    exact ⟨fun w1 hs1 => ⟨hs1.below, rfl⟩⟩
  · rw [h1]
    cases r with
    | none => 
      have h0 : x.length = 0 := hR.2
      have e1 : exO n (some x) = none := if_neg (by omega)
      rw [e1]
      iterate 4 refine ct rfl ?_
      refine cf rfl ?_
      refine ct (bne_iff_ne.2 (by show ((0 : Nat) : Int) ≠ (n : Int); omega)) ?_
      exact ⟨fun w1 hs1 => ⟨hs1.below, rfl⟩⟩
    | some p =>
      obtain ⟨b, c, j⟩ := p
      iterate 4 refine ct rfl ?_
      refine cf rfl ?_
      refine cne (fun h => ?_) (fun h => ?_)
      · have e1 : exO n (some x) = none := if_neg (by omega)
        rw [e1]
        exact ⟨fun w1 hs1 => ⟨hs1.below, rfl⟩⟩
      · have hx : x.length = n := by omega
        have e1 : exO n (some x) = some x := if_pos hx
        rw [e1]
        refine inl (C := ⟨Tryd.prog, tab, 27, [], w, none⟩) tab_ok Tryd.func42 rfl Tryd.ntmps42 rfl ?_
        refine ⟨.mk 0 x.length x.length rfl rfl rfl (Nat.zero_le _) (Nat.le_refl _) hR.2.1 (by simp) ?_⟩
        refine .on (by omega) ?_
        refine bk ?_
        exact ⟨fun w1 hs1 => ⟨hs1.below, b, j, rfl, made_of hs1 rfl 0 (r := some (b, c, j)) rfl b c j rfl⟩⟩

set_option maxRecDepth 100000 in
theorem exact_b64 (n : Nat) (hn0 : 0 < n) (l : List UInt8) (hl : l.length ≤ 1000000) (w : World) : Calls Tryd.prog 33 ([.func (.func 11) #[] #[], .string ⟨l.toArray⟩, .int .i64 n] : List Value).toArray w (ExR w (exO n (dec64 l))) := by
  refine (enter tab_ok Tryd.func33 rfl Tryd.ntmps33 rfl (St.start w) (R := fun v w' => ExR w (exO n (dec64 l)) (.returned v) w') ?_).mono (fun e w' ⟨v, he, h⟩ => by rw [he]; exact h)
  refine cD (fun w' _ => unbase64_any l hl w') (fun h1 => ?_) (fun x r h1 hR => ?_)
  · rw [h1]
    iterate 4 refine cf rfl ?_
    refine ct rfl ?_
    refine ct rfl ?_
    exact ⟨fun w1 hs1 => ⟨hs1.below, rfl⟩⟩
  · rw [h1]
    cases r with
    | none => 
      have h0 : x.length = 0 := hR.2
      have e1 : exO n (some x) = none := if_neg (by omega)
      rw [e1]
      iterate 4 refine ct rfl ?_
      refine cf rfl ?_
      refine ct (bne_iff_ne.2 (by show ((0 : Nat) : Int) ≠ (n : Int); omega)) ?_
      exact ⟨fun w1 hs1 => ⟨hs1.below, rfl⟩⟩
    | some p =>
      obtain ⟨b, c, j⟩ := p
      iterate 4 refine ct rfl ?_
      refine cf rfl ?_
      refine cne (fun h => ?_) (fun h => ?_)
      · have e1 : exO n (some x) = none := if_neg (by omega)
        rw [e1]
        exact ⟨fun w1 hs1 => ⟨hs1.below, rfl⟩⟩
      · have hx : x.length = n := by omega
        have e1 : exO n (some x) = some x := if_pos hx
        rw [e1]
        refine inl (C := ⟨Tryd.prog, tab, 27, [], w, none⟩) tab_ok Tryd.func42 rfl Tryd.ntmps42 rfl ?_
        refine ⟨.mk 0 x.length x.length rfl rfl rfl (Nat.zero_le _) (Nat.le_refl _) hR.2.1 (by simp) ?_⟩
        refine .on (by omega) ?_
        refine bk ?_
        exact ⟨fun w1 hs1 => ⟨hs1.below, b, j, rfl, made_of hs1 rfl 0 (r := some (b, c, j)) rfl b c j rfl⟩⟩

end Go.Proofs.YtcojgckfcgbodaaDoor
