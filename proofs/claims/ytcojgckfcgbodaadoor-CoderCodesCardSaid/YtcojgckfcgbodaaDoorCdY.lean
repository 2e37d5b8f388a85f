/- The law CoderDecodes: the walk. -/
import Derived.Test.YtcojgckfcgbodaaDoorCdZ
import Derived.Test.YtcojgckfcgbodaaDoorCdA
namespace Go.Proofs.YtcojgckfcgbodaaDoor
open Go.RowKit Go.Sx
set_option linter.unusedVariables false

set_option maxRecDepth 100000 in
theorem assertE (w : World) : (Instr.typeAssert ErrV 27 37 true).run Tryd.prog w = .ok (.tuple #[.int .i64 1, .bool true]) w := by
  kernel_rfl
set_option maxRecDepth 100000 in
theorem num_err (w : World) : Calls Tryd.prog 32 ([ErrV] : List Value).toArray w fun e w' => e = .returned (.int .i64 1) ∧ Below w.heap.size w w' := by
  refine enterV tab_ok Tryd.func32 rfl Tryd.ntmps32 rfl (St.start w) ?_
  refine cf rfl ?_
  refine semV (fun w _ => assertE w) ?_
  refine ct rfl ?_
  refine ct rfl ?_
  refine ct rfl ?_
  refine ct rfl ?_
  exact rt rfl
set_option maxRecDepth 100000 in
theorem is_err (w : World) : Calls Tryd.prog 19 ([ErrV, .int .i64 1] : List Value).toArray w fun e w' => e = .returned (.bool true) ∧ Below w.heap.size w w' := by
  refine enterV tab_ok Tryd.func19 rfl Tryd.ntmps19 rfl (St.start w) ?_
  refine cv num_err ?_
  exact rt rfl
theorem rd_nil (w : World) (a : Option Addr) (c : Nat) : Rd w (.slice a 0 c) (Lib.byteCells []) := ⟨a, c, rfl, fun h => absurd rfl h⟩
theorem same_yes (va vb : Value) (a : List UInt8) (w : World) (ha : Rd w va (Lib.byteCells a)) (hb : Rd w vb (Lib.byteCells a)) : Calls Tryd.prog 14 ([va, vb] : List Value).toArray w fun e w' => e = .returned (.bool true) ∧ Below w.heap.size w w' := by
  have := same_any va vb a a w ha hb
  rwa [decide_eq_true rfl] at this
/-- a call by the reference's contract -/
theorem cR {C : Cx} {L : List Ent} {g : FuncId} {vs : List Value} {o : Option (List UInt8)} {next : Value → List Ent → Prop} (h : ∀ w, St C.M C.B w L → Calls C.P g vs.toArray w (RefR w o))
    (g0 : o = none → next (.tuple #[.slice none 0 0, .bool false]) L) (g1 : ∀ x r, o = some x → Rw 1 x.length r (Lib.byteCells x) → next (.tuple #[sv r x.length, .bool true]) (L ++ [se r (Lib.byteCells x) 5])) : CallP C g vs L next := by
  refine ⟨fun w hs => (h w hs).mono fun e w' hr => ?_⟩
  obtain ⟨hb, hr⟩ := hr
  cases o with
  | none => exact ⟨_, L, hr, hs.call hb, g0 rfl⟩
  | some x =>
    obtain ⟨r, he, hR, hM⟩ := hr
    refine ⟨_, _, he, ?_, g1 x r rfl hR⟩
    cases r with
    | none => exact (hs.call hb).deads
    | some p => obtain ⟨b, c, j⟩ := p; obtain ⟨h1, h2⟩ := hM b c j rfl; exact hs.add hb h1 h2
theorem decL_len (sg : ByteArray) (k : Nat) (hk : k ≤ 8) (hsg : sg.size = 2 ^ k) (l x : List UInt8) (h : decL sg k l = some x) : x.length ≤ l.length := by
  have key : ∀ (l : List UInt8) (s : Cs) (n : Nat), DsI k n s → ∀ s', dsAll sg k l s = some s' → DsI k (n + l.length) s' := by
    intro l
    induction l with
    | nil => intro s n hI s' h; obtain rfl := Option.some.inj h; exact hI
    | cons c l ih =>
      intro s n hI s' h
      unfold dsAll at h
      cases hi : idxO sg c with
      | none => rw [hi] at h; cases h
      | some j =>
        rw [hi] at h
        have := ih _ (n + 1) (hI.step (by have := (idxO_lt hi).1; omega) hk) s' h
        rwa [show n + (c :: l).length = n + 1 + l.length by simp only [List.length_cons]; omega]
  unfold decL at h
  cases hd : dsAll sg k l ([], 0, 0) with
  | none => rw [hd] at h; cases h
  | some s =>
    rw [hd] at h
    have hI := key l _ 0 ⟨Nat.one_pos, rfl, Nat.zero_lt_succ 7⟩ s hd
    have hs := hI.sum
    unfold decE at h
    simp only at h
    split at h
    · cases h
    · obtain rfl := Option.some.inj h
      have : k * (0 + l.length) ≤ 8 * l.length := by rw [Nat.zero_add]; exact Nat.mul_le_mul_right _ hk
      omega
theorem dec64_len (l x : List UInt8) (h : dec64 l = some x) : x.length ≤ l.length := by
  unfold dec64 at h
  split at h
  · exact Nat.le_trans (decL_len sixS 6 (by decide) rfl _ _ h) (trimL_len l)
  · cases h
set_option maxRecDepth 100000 in
set_option maxHeartbeats 2000000 in
theorem law_decodes (l : List UInt8) (w : World) (hl0 : l.length ≤ maxLen) : Calls Tryd.prog 4 ([.string ⟨l.toArray⟩] : List Value).toArray w fun e w' => e = .returned (.bool true) ∧ Below w.heap.size w w' := by
  refine enterV tab_ok Tryd.func4 rfl Tryd.ntmps4 rfl (St.start w) ?_
  refine cv alive_any ?_
  refine cf rfl ?_
  refine cd (fun hbig => ?_) (fun hbig => ?_)
  · exact rt rfl
  rw [size_mk] at hbig
  have hl : l.length ≤ 1000000 := by omega
  have e1 : ((ByteArray.mk l.toArray).toList == (ByteArray.mk l.toArray).toList) = true := by simp
  have e2 : (((ByteArray.mk l.toArray).toList == (ByteArray.mk l.toArray).toList) == true) = true := by rw [e1]; rfl
  have rh := fun w => runhex_any l hl w
  have rb := fun w => rub_any l hl w
  rw [hex_ref] at rh
  rw [b64_ref] at rb
  refine cD (fun w' _ => unhex_any l hl w') (fun h1 => ?_) (fun x r1 h1 hR1 => ?_)
  · refine cD (fun w' _ => unbase64_any l hl w') (fun h2 => ?_) (fun y r2 h2 hR2 => ?_)
    · rw [h1] at rh; rw [h2] at rb
      refine cR (fun w' _ => rh w') (fun _ => ?_) (fun _ _ h => by cases h)
      refine cR (fun w' _ => rb w') (fun _ => ?_) (fun _ _ h => by cases h)
      refine ct rfl ?_
      refine ct rfl ?_
      refine ct rfl ?_
      refine ct rfl ?_
      refine cf rfl ?_
      refine ct rfl ?_
      refine ct rfl ?_
      refine ct rfl ?_
      refine ct rfl ?_
      refine ct rfl ?_
      refine cv is_err ?_
      refine ct rfl ?_
      refine ct rfl ?_
      refine ct rfl ?_
      refine cf rfl ?_
      refine ct rfl ?_
      refine ct rfl ?_
      refine ct rfl ?_
      refine ct rfl ?_
      refine ct rfl ?_
      refine cv is_err ?_
      refine ct rfl ?_
      refine ct rfl ?_
      refine ct rfl ?_
      refine cf rfl ?_
      refine cf rfl ?_
      refine cvs (fun w' hs => same_yes _ _ [] w' (rd_nil _ _ _) (rd_nil _ _ _)) ?_
      refine ct rfl ?_
      refine ct rfl ?_
      refine ct rfl ?_
      refine cvs (fun w' hs => same_yes _ _ [] w' (rd_nil _ _ _) (rd_nil _ _ _)) ?_
      refine ct rfl ?_
      refine ct rfl ?_
      refine ct rfl ?_
      refine ct rfl ?_
      refine cf rfl ?_
      refine cf rfl ?_
      refine cf rfl ?_
      refine cf rfl ?_
      refine ct rfl ?_
      refine ct rfl ?_
      refine ct rfl ?_
      refine ct rfl ?_
      refine ct rfl ?_
      refine ct rfl ?_
      refine cf rfl ?_
      refine cf rfl ?_
      refine cf rfl ?_
      refine cf rfl ?_
      refine ct rfl ?_
      refine ct rfl ?_
      refine ct rfl ?_
      exact rt rfl
    · have hy := dec64_len l y h2
      rw [h1] at rh; rw [h2] at rb
      refine cR (fun w' _ => rh w') (fun _ => ?_) (fun _ _ h => by cases h)
      refine cR (fun w' _ => rb w') (fun h => by cases h) (fun y' r4 h hR4 => ?_)
      obtain rfl := Option.some.inj h
      refine ct rfl ?_
      refine ct rfl ?_
      refine ct rfl ?_
      refine ct rfl ?_
      refine cf rfl ?_
      refine ct rfl ?_
      refine ct rfl ?_
      refine ct rfl ?_
      refine ct rfl ?_
      refine ct rfl ?_
      refine cv is_err ?_
      refine ct rfl ?_
      refine ct rfl ?_
      refine ct rfl ?_
      refine cf rfl ?_
      refine ct rfl ?_
      refine ct rfl ?_
      refine ct rfl ?_
      refine cf rfl ?_
      refine cf rfl ?_
      refine cf rfl ?_
      refine ct rfl ?_
      refine cf rfl ?_
      refine cf rfl ?_
      refine cf rfl ?_
      refine cvs (fun w' hs => same_yes _ _ [] w' (rd_nil _ _ _) (rd_nil _ _ _)) ?_
      refine ct rfl ?_
      refine ct rfl ?_
      refine ct rfl ?_
      refine cvs (fun w' hs => same_yes _ _ y w' (Rd.own hs 0 rfl hR2) (Rd.own hs 1 rfl hR4)) ?_
      refine ct rfl ?_
      refine ct rfl ?_
      refine ct rfl ?_
      refine ct rfl ?_
      refine cf rfl ?_
      refine cf rfl ?_
      refine cf rfl ?_
      refine cf rfl ?_
      refine ct rfl ?_
      refine ct rfl ?_
      refine ct rfl ?_
      refine ct rfl ?_
      refine ct rfl ?_
      refine ct rfl ?_
      refine ct rfl ?_
      refine ct rfl ?_
      refine cvs (fun w' hs => base64_any _ y (by omega) w' (Rd.own hs 0 rfl hR2)) ?_
      rw [← b64_B, b64_DD l y h2]
      refine ct rfl ?_
      refine ct rfl ?_
      refine ct rfl ?_
      refine cf rfl ?_
      refine ct rfl ?_
      exact rt (congrArg Value.bool e1)
  · have hx := decL_len hexS 4 (by decide) rfl l x h1
    refine cD (fun w' _ => unbase64_any l hl w') (fun h2 => ?_) (fun y r2 h2 hR2 => ?_)
    · rw [h1] at rh; rw [h2] at rb
      refine cR (fun w' _ => rh w') (fun h => by cases h) (fun x' r3 h hR3 => ?_)
      obtain rfl := Option.some.inj h
      refine cR (fun w' _ => rb w') (fun _ => ?_) (fun _ _ h => by cases h)
      refine ct rfl ?_
      refine ct rfl ?_
      refine ct rfl ?_
      refine ct rfl ?_
      refine cf rfl ?_
      refine ct rfl ?_
      refine ct rfl ?_
      refine ct rfl ?_
      refine cf rfl ?_
      refine cf rfl ?_
      refine cf rfl ?_
      refine ct rfl ?_
      refine cf rfl ?_
      refine cf rfl ?_
      refine ct rfl ?_
      refine ct rfl ?_
      refine ct rfl ?_
      refine ct rfl ?_
      refine ct rfl ?_
      refine cv is_err ?_
      refine ct rfl ?_
      refine ct rfl ?_
      refine ct rfl ?_
      refine cf rfl ?_
      refine cf rfl ?_
      refine cvs (fun w' hs => same_yes _ _ x w' (Rd.own hs 0 rfl hR1) (Rd.own hs 1 rfl hR3)) ?_
      refine ct rfl ?_
      refine ct rfl ?_
      refine ct rfl ?_
      refine cvs (fun w' hs => same_yes _ _ [] w' (rd_nil _ _ _) (rd_nil _ _ _)) ?_
      refine ct rfl ?_
      refine ct rfl ?_
      refine ct rfl ?_
      refine ct rfl ?_
      refine ct rfl ?_
      refine ct rfl ?_
      refine cvs (fun w' hs => hex_any _ x (by omega) w' (Rd.own hs 0 rfl hR1)) ?_
      rw [hex_A, hex_D l x h1]
      refine ct rfl ?_
      refine ct rfl ?_
      refine ct rfl ?_
      refine cf rfl ?_
      refine ct rfl ?_
      refine ct e2 ?_
      refine ct e2 ?_
      refine ct e2 ?_
      refine cf rfl ?_
      refine cf rfl ?_
      refine cf rfl ?_
      refine cf rfl ?_
      refine ct e2 ?_
      refine ct rfl ?_
      refine ct e1 ?_
      exact rt rfl
    · have hy := dec64_len l y h2
      rw [h1] at rh; rw [h2] at rb
      refine cR (fun w' _ => rh w') (fun h => by cases h) (fun x' r3 h hR3 => ?_)
      obtain rfl := Option.some.inj h
      refine cR (fun w' _ => rb w') (fun h => by cases h) (fun y' r4 h hR4 => ?_)
      obtain rfl := Option.some.inj h
      refine ct rfl ?_
      refine ct rfl ?_
      refine ct rfl ?_
      refine ct rfl ?_
      refine cf rfl ?_
      refine ct rfl ?_
      refine ct rfl ?_
      refine ct rfl ?_
      refine cf rfl ?_
      refine cf rfl ?_
      refine cf rfl ?_
      refine ct rfl ?_
      refine cf rfl ?_
      refine cf rfl ?_
      refine ct rfl ?_
      refine ct rfl ?_
      refine ct rfl ?_
      refine cf rfl ?_
      refine cf rfl ?_
      refine cf rfl ?_
      refine ct rfl ?_
      refine cf rfl ?_
      refine cf rfl ?_
      refine cf rfl ?_
      refine cvs (fun w' hs => same_yes _ _ x w' (Rd.own hs 0 rfl hR1) (Rd.own hs 2 rfl hR3)) ?_
      refine ct rfl ?_
      refine ct rfl ?_
      refine ct rfl ?_
      refine cvs (fun w' hs => same_yes _ _ y w' (Rd.own hs 1 rfl hR2) (Rd.own hs 3 rfl hR4)) ?_
      refine ct rfl ?_
      refine ct rfl ?_
      refine ct rfl ?_
      refine ct rfl ?_
      refine ct rfl ?_
      refine ct rfl ?_
      refine cvs (fun w' hs => hex_any _ x (by omega) w' (Rd.own hs 0 rfl hR1)) ?_
      rw [hex_A, hex_D l x h1]
      refine ct rfl ?_
      refine ct rfl ?_
      refine ct rfl ?_
      refine cf rfl ?_
      refine ct rfl ?_
      refine ct e2 ?_
      refine ct e2 ?_
      refine ct e2 ?_
      refine ct rfl ?_
      refine ct rfl ?_
      refine cvs (fun w' hs => base64_any _ y (by omega) w' (Rd.own hs 1 rfl hR2)) ?_
      rw [← b64_B, b64_DD l y h2]
      refine ct rfl ?_
      refine ct rfl ?_
      refine ct e2 ?_
      refine cf rfl ?_
      refine ct e1 ?_
      exact rt (congrArg Value.bool e1)
end Go.Proofs.YtcojgckfcgbodaaDoor
