/- strings.TrimRight at "="; coder.Unhex, Unbase64: the walks. -/
import Derived.Test.YtcojgckfcgbodaaDoorCdD
namespace Go.Proofs.YtcojgckfcgbodaaDoor
open Go.RowKit Go.Sx
set_option linter.unusedVariables false

/-- without the last signs "=" -/
def trimL (l : List UInt8) : List UInt8 := (l.reverse.dropWhile (· == 61)).reverse
theorem trimL_snoc (l : List UInt8) (c : UInt8) : trimL (l ++ [c]) = if c == 61 then trimL l else l ++ [c] := by
  unfold trimL
  rw [List.reverse_append]
  simp only [List.reverse_singleton, List.singleton_append, List.dropWhile_cons]
  split <;> simp
theorem take_snoc (l : List UInt8) (m : Nat) (h : m < l.length) : l.take (m + 1) = l.take m ++ [l[m]] := List.take_succ_eq_append_getElem h
theorem ext_take (l : List UInt8) (m j : Nat) (h : j ≤ m) : (⟨(l.take m).toArray⟩ : ByteArray).extract 0 j = ⟨(l.take j).toArray⟩ := by
  apply ByteArray.ext
  simp [ByteArray.data_extract, List.take_take, Nat.min_eq_left h]
theorem size_mk (l : List UInt8) : (ByteArray.mk l.toArray).size = l.length := by simp [ByteArray.size]
theorem sgn_mk (l : List UInt8) (i : Nat) (h : i < l.length) : sgn ⟨l.toArray⟩ i = l[i] := by simp [sgn, h]
theorem u8_eq (a b : UInt8) : ((a.toNat : Int) == (b.toNat : Int)) = (a == b) := by
  by_cases h : a = b
  · subst h; simp
  · have : a.toNat ≠ b.toNat := fun e => h (UInt8.toNat_inj.1 e)
    rw [show (a == b) = false from beq_eq_false_iff_ne.2 h]
    exact beq_eq_false_iff_ne.2 (by omega)
set_option maxRecDepth 100000 in
theorem trb_any (l : List UInt8) (hl : l.length ≤ 1000000) (w : World) : Calls Tryd.prog 38 ([.string ⟨l.toArray⟩, .int .u8 61] : List Value).toArray w fun e w' => e = .returned (.string ⟨(trimL l).toArray⟩) ∧ Below w.heap.size w w' := by
  refine enterV tab_ok Tryd.func38 rfl Tryd.ntmps38 rfl (St.start w) ?_
  refine lp tab_ok (fun m : Nat => m ≤ l.length ∧ trimL l = trimL (l.take m)) (fun m => ⟨[(0, .string ⟨(l.take m).toArray⟩), (1, .int .u8 61)], [], []⟩) (fun m => m) l.length ⟨Nat.le_refl _, by rw [List.take_length]⟩ ⟨⟨congrArg (fun x : List UInt8 => some (Value.string ⟨x.toArray⟩)) (List.take_length (l := l)).symm, rfl, trivial⟩, .nil, rfl⟩ ?_
  rintro m ⟨hm, ht⟩
  have hsz : (ByteArray.mk (l.take m).toArray).size = m := by rw [size_mk, List.length_take]; omega
  by_cases h0 : m = 0
  · subst h0
    have e1 : decide (((ByteArray.mk (l.take 0).toArray).size : Int) > 0) = false := by rw [hsz]; rfl
    have e2 : (decide (((ByteArray.mk (l.take 0).toArray).size : Int) > 0) == true) = false := by rw [e1]; rfl
    iterate 7 refine cf e2 ?_
    refine cf e1 ?_
    refine cf rfl ?_
    exact rt (by rw [ht]; rfl)
  · obtain ⟨n, rfl⟩ : ∃ n, m = n + 1 := ⟨m - 1, by omega⟩
    have hn : n < l.length := by omega
    have e1 : decide (((ByteArray.mk (l.take (n + 1)).toArray).size : Int) > 0) = true := by rw [hsz]; exact decide_eq_true (by omega)
    have e2 : (decide (((ByteArray.mk (l.take (n + 1)).toArray).size : Int) > 0) == true) = true := by rw [e1]; rfl
    iterate 4 refine ct e2 ?_
    refine .as (n : Int) (by rw [hsz]; omega) (by simp only [mn]; omega) (by simp only [mx]; omega) ?_
    refine ct e2 ?_
    refine chP n rfl (by rw [hsz]; omega) ?_
    refine ct e2 ?_
    refine ct e2 ?_
    refine ct e1 ?_
    have hsg : sgn ⟨(l.take (n + 1)).toArray⟩ n = l[n] := by rw [sgn_mk _ _ (by rw [List.length_take]; omega)]; simp
    have hs := trimL_snoc (l.take n) l[n]
    rw [← take_snoc l n hn] at hs
    have hu := u8_eq (sgn ⟨(l.take (n + 1)).toArray⟩ n) 61
    rw [hsg] at hu
    by_cases hc : (l[n] == 61) = true
    · refine ct (by rw [hsg]; rw [hc] at hu; exact hu) ?_
      refine .as (n : Int) (by rw [hsz]; omega) (by simp only [mn]; omega) (by simp only [mx]; omega) ?_
      refine ⟨.mk 0 n _ rfl rfl rfl (Nat.zero_le _) (by rw [hsz]; omega) (Nat.le_refl _) (by simp) ?_⟩
      rw [if_pos hc] at hs
      exact ⟨n, ⟨by omega, by rw [ht, hs]⟩, by omega, ⟨⟨congrArg (fun x => some (Value.string x)) (ext_take l (n + 1) n (by omega)), rfl, trivial⟩, .nil, rfl⟩⟩
    · refine cf (by rw [hsg]; rw [Bool.eq_false_iff.2 hc] at hu; exact hu) ?_
      rw [if_neg hc] at hs
      exact rt (by rw [ht, hs]; rfl)
set_option maxRecDepth 100000 in
theorem trim_any (l : List UInt8) (hl : l.length ≤ 1000000) (w : World) : Calls Tryd.prog 29 ([.string ⟨l.toArray⟩, .string ⟨#[61]⟩] : List Value).toArray w fun e w' => e = .returned (.string ⟨(trimL l).toArray⟩) ∧ Below w.heap.size w w' := by
  refine enterV tab_ok Tryd.func29 rfl Tryd.ntmps29 rfl (St.start w) ?_
  have hnil : ((ByteArray.mk l.toArray).toList == (ByteArray.mk #[]).toList) = decide (l = []) := by rw [Bool.eq_iff_iff]; simp
  by_cases h0 : l = []
  · have e1 : ((ByteArray.mk l.toArray).toList == (ByteArray.mk #[]).toList) = true := by rw [hnil, decide_eq_true h0]
    have e2 : (((ByteArray.mk l.toArray).toList == (ByteArray.mk #[]).toList) == false) = false := by rw [e1]; rfl
    refine cf e2 ?_
    refine cf e2 ?_
    refine ct e1 ?_
    refine ct rfl ?_
    exact rt (by rw [h0]; rfl)
  · have e1 : ((ByteArray.mk l.toArray).toList == (ByteArray.mk #[]).toList) = false := by rw [hnil, decide_eq_false h0]
    have e2 : (((ByteArray.mk l.toArray).toList == (ByteArray.mk #[]).toList) == false) = true := by rw [e1]; rfl
    refine ct e2 ?_
    refine ct e2 ?_
    refine cf e1 ?_
    refine cf (by kernel_rfl) ?_
    refine ct rfl ?_
    refine ct rfl ?_
    refine ⟨by decide, by decide, ?_⟩
    refine ct rfl ?_
    refine ct rfl ?_
    refine ct rfl ?_
    refine ⟨by decide, by decide, ?_⟩
    refine cv (trb_any l hl) ?_
    exact rt rfl
/-- a call by decode's contract -/
theorem cD {C : Cx} {L : List Ent} {g : FuncId} {vs : List Value} {o : Option (List UInt8)} {next : Value → List Ent → Prop} (h : ∀ w, St C.M C.B w L → Calls C.P g vs.toArray w (DecR w o))
    (g0 : o = none → next (.tuple #[.slice none 0 0, ErrV]) L) (g1 : ∀ x r, o = some x → Rw 1 x.length r (Lib.byteCells x) → next (.tuple #[sv r x.length, .nilIface]) (L ++ [se r (Lib.byteCells x) 5])) : CallP C g vs L next := by
  refine ⟨fun w hs => (h w hs).mono fun e w' hr => ?_⟩
  obtain ⟨hb, hr⟩ := hr
  cases o with
  | none => exact ⟨_, L, hr, hs.call hb, g0 rfl⟩
  | some x =>
    obtain ⟨r, he, hR, hM⟩ := hr
    refine ⟨_, _, he, ?_, g1 x r rfl hR⟩
    cases r with
    | none => exact (hs.call hb).deads
    | some p => obtain ⟨b, c, j⟩ := p; obtain ⟨h1, h2⟩ := hM b c j rfl; exact hs.add hb h1 h2
set_option maxRecDepth 100000 in
theorem unhex_any (l : List UInt8) (hl : l.length ≤ 1000000) (w : World) : Calls Tryd.prog 10 ([.string ⟨l.toArray⟩] : List Value).toArray w (DecR w (decL hexS 4 l)) := by
  refine (enter tab_ok Tryd.func10 rfl Tryd.ntmps10 rfl (St.start w) (R := fun v w' => DecR w (decL hexS 4 l) (.returned v) w') ?_).mono (fun e w' ⟨v, he, h⟩ => by rw [he]; exact h)
  refine cv hexes_any ?_
  refine cD (fun w' _ => decode_any hexS 4 (by decide) (by decide) l hl w') (fun h => ?_) (fun x r h hR => ?_)
  · refine ⟨fun w1 hs1 => ?_⟩
    rw [h]; exact ⟨hs1.below, rfl⟩
  · refine ⟨fun w1 hs1 => ?_⟩
    rw [h]; exact ⟨hs1.below, r, rfl, hR, made_of hs1 rfl 0 rfl⟩
/-- the bytes of filled signs -/
def dec64 (l : List UInt8) : Option (List UInt8) := if filledL (trimL l) = l then decL sixS 6 (trimL l) else none
theorem trimL_len (l : List UInt8) : (trimL l).length ≤ l.length := by
  unfold trimL
  rw [List.length_reverse]
  have := (List.dropWhile_sublist (l := l.reverse) (· == 61)).length_le
  rwa [List.length_reverse] at this
set_option maxRecDepth 100000 in
theorem unbase64_any (l : List UInt8) (hl : l.length ≤ 1000000) (w : World) : Calls Tryd.prog 11 ([.string ⟨l.toArray⟩] : List Value).toArray w (DecR w (dec64 l)) := by
  refine (enter tab_ok Tryd.func11 rfl Tryd.ntmps11 rfl (St.start w) (R := fun v w' => DecR w (dec64 l) (.returned v) w') ?_).mono (fun e w' ⟨v, he, h⟩ => by rw [he]; exact h)
  have hlen := trimL_len l
  refine cv (trim_any l hl) ?_
  refine cv (filled_any (trimL l) (by omega)) ?_
  have hne : ((ByteArray.mk (filledL (trimL l)).toArray).toList == (ByteArray.mk l.toArray).toList) = decide (filledL (trimL l) = l) := by rw [Bool.eq_iff_iff]; simp
  by_cases h : filledL (trimL l) = l
  · refine cf (by show (!_) = false; rw [hne, decide_eq_true h]; rfl) ?_
    refine cv sixes_any ?_
    refine cD (fun w' _ => decode_any sixS 6 (by decide) (by decide) (trimL l) (by omega) w') (fun h2 => ?_) (fun x r h2 hR => ?_)
    · refine ⟨fun w1 hs1 => ?_⟩
      show DecR w (dec64 l) _ w1
      unfold dec64; rw [if_pos h, h2]; exact ⟨hs1.below, rfl⟩
    · refine ⟨fun w1 hs1 => ?_⟩
      show DecR w (dec64 l) _ w1
      unfold dec64; rw [if_pos h, h2]; exact ⟨hs1.below, r, rfl, hR, made_of hs1 rfl 0 rfl⟩
  · refine ct (by show (!_) = true; rw [hne, decide_eq_false h]; rfl) ?_
    refine ⟨fun w1 hs1 => ?_⟩
    show DecR w (dec64 l) _ w1
    unfold dec64; rw [if_neg h]; exact ⟨hs1.below, rfl⟩
end Go.Proofs.YtcojgckfcgbodaaDoor
