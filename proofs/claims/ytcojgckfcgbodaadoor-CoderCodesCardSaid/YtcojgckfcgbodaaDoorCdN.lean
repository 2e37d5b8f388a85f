/- The law CoderCodes: the walk. -/
import Derived.Test.YtcojgckfcgbodaaDoorCdL
namespace Go.Proofs.YtcojgckfcgbodaaDoor
open Go.RowKit Go.Sx
set_option linter.unusedVariables false

/-- the marks -/
def marks : List Value := [.int .u8 165, .int .u8 90]
set_option maxRecDepth 100000 in
/-- a copy of bytes, with marks behind it -/
theorem copy_any (v : Value) (x : List UInt8) (hx : x.length ≤ 1000000) (w : World) (hv : Rd w v (Lib.byteCells x)) : Calls Tryd.prog 7 ([v] : List Value).toArray w fun e w' =>
    ∃ b c j, e = .returned (sv (some (b, c, marks ++ j)) x.length) ∧ Rw 1 x.length (some (b, c, marks ++ j)) (Lib.byteCells x) ∧ w.heap.size ≤ b ∧ w'.heap[b]? = some (.cells (Lib.byteCells x ++ (marks ++ j)).toArray 5 (0, 0)) ∧ Below w.heap.size w w' := by
  have hv0 := hv
  obtain ⟨va, vc, rfl, _⟩ := hv
  rw [Lib.byteCells_length] at hv0 ⊢
  refine (enter tab_ok Tryd.func7 rfl Tryd.ntmps7 rfl (St.start w) (R := fun v w' => ∃ b c j, v = sv (some (b, c, marks ++ j)) x.length ∧ Rw 1 x.length (some (b, c, marks ++ j)) (Lib.byteCells x) ∧ w.heap.size ≤ b ∧ w'.heap[b]? = some (.cells (Lib.byteCells x ++ (marks ++ j)).toArray 5 (0, 0)) ∧ Below w.heap.size w w') ?_).mono (fun e w' ⟨v, he, b, c, j, h1, h2⟩ => ⟨b, c, j, by rw [he, h1], h2⟩)
  refine .as ((x.length + 2 : Nat) : Int) (by simp) (by simp only [mn]; omega) (by simp only [mx]; omega) ?_
  refine .mk 0 (x.length + 2) _ _ (fun w => madeU8 w und22 info5 0 (x.length + 2) (Nat.zero_le _) (by omega)) (fun b1 => ?_)
  refine ap (r := some (b1, x.length + 2, List.replicate (x.length + 2) (.int .u8 0))) (xs := []) (n := 0) (m := (Lib.byteCells x).length) (news := Lib.byteCells x) 0 tab_ok rfl info5 rfl rfl ⟨rfl, Nat.zero_le _, by unfold maxLen; omega, by simp⟩ (fun w' hs => (hv0.below hs.below).src und22 (one8 x)) (by rw [Lib.byteCells_length]; omega) (by rw [Lib.byteCells_length]; unfold maxLen; omega) (fun r1 hR1 => ?_)
  refine .mk _ _ (bs2 165 90) (fun b2 => ?_)
  refine ap 0 (news := marks) (m := 2) tab_ok rfl info5 rfl rfl hR1 (srcE (C := ⟨Tryd.prog, tab, 14, [], w, none⟩) (e' := 5) (tx := 22) (z := 1) rfl tab_ok (src 1 rfl rfl) rfl (by simp [marks, Value.oneCell'])) (by rw [Lib.byteCells_length]; omega) (by rw [Lib.byteCells_length]; unfold maxLen; omega) (fun r2 hR2 => ?_)
  rw [Lib.byteCells_length] at hR2
  rw [Lib.byteCells_length]
  cases r2 with
  | none => have := hR2.2; simp only at this; omega
  | some p =>
    obtain ⟨b, c, j⟩ := p
    obtain ⟨h1, h2, h3, h4⟩ := hR2
    refine slTo (by rintro a h; obtain rfl := Option.some.inj h; rfl) (by omega) h2 ?_
    refine ⟨fun w1 hs => ⟨b, c, j, rfl, ⟨by rw [Lib.byteCells_length]; omega, by omega, h3, by simpa using h4⟩, ?_, ?_, hs.below⟩⟩
    · rcases hs.own _ (List.mem_of_getElem? (i := 0) rfl) rfl rfl with h | h
      · exact h
      · simp at h
    · have := hs.nth (k := 0) rfl
      simpa using this
set_option maxRecDepth 100000 in
/-- a copy says what the bytes say, and its marks stand -/
theorem kept_yes {va vb : Value} {b c : Nat} {j : List Value} {x : List UInt8} (hx : x.length ≤ 1000000) (hva : va = sv (some (b, c, marks ++ j)) x.length) (hR : Rw 1 x.length (some (b, c, marks ++ j)) (Lib.byteCells x)) (w : World) (ha : w.heap[b]? = some (.cells (Lib.byteCells x ++ (marks ++ j)).toArray 5 (0, 0))) (hb : Rd w vb (Lib.byteCells x)) :
    Calls Tryd.prog 15 ([va, vb] : List Value).toArray w fun e w' => e = .returned (.bool true) ∧ Below w.heap.size w w' := by
  subst hva
  have hb0 := hb
  obtain ⟨a2, c2, rfl, _⟩ := hb
  rw [Lib.byteCells_length] at hb0 ⊢
  obtain ⟨h1, h2, h3, h4⟩ := hR
  have hc : x.length + 2 ≤ c := by
    have : (Lib.byteCells x ++ (marks ++ j)).length = c * 1 := h4
    simp [marks, Lib.byteCells_length] at this; omega
  have e1 : ((ByteArray.mk x.toArray).toList == (ByteArray.mk x.toArray).toList) = true := by simp
  refine enterV tab_ok Tryd.func15 rfl Tryd.ntmps15 rfl (St.reads1 ha) ?_
  refine semV (fun w' hs => rd_str (l := x) (Rd.ent hs 0 (n := x.length) rfl (by rw [Lib.byteCells_length]) (by simp [Lib.byteCells_length]))) ?_
  refine semV (fun w' hs => rd_str (hb0.below hs.below)) ?_
  have e2 : ((!((ByteArray.mk x.toArray).toList == (ByteArray.mk x.toArray).toList)) == false) = true := by rw [e1]; rfl
  refine ct e2 ?_
  refine ct e2 ?_
  refine ct e2 ?_
  refine ct e2 ?_
  refine ct e2 ?_
  refine .as ((x.length + 2 : Nat) : Int) (by simp) (by simp only [mn]; omega) (by simp only [mx]; omega) ?_
  refine ct e2 ?_
  refine cf (by rw [e1]; rfl) ?_
  refine cf (decide_eq_false (by omega)) ?_
  refine .as ((x.length + 2 : Nat) : Int) (by simp) (by simp only [mn]; omega) (by simp only [mx]; omega) ?_
  refine ⟨.mk 0 (x.length + 2) c rfl rfl rfl (Nat.zero_le _) hc (Nat.le_refl _) (by simp) ?_⟩
  refine .on (by omega) ?_
  refine ⟨by omega, by omega, ?_⟩
  refine ld1 0 rfl (v := .int .u8 165) (by rw [nad_eq, nmu_eq]; simp [nad_eq, nmu_eq, marks, Lib.byteCells_length]) ?_
  refine ct rfl ?_
  refine ct rfl ?_
  refine ct rfl ?_
  refine ct rfl ?_
  refine .as ((x.length + 1 : Nat) : Int) (by simp) (by simp only [mn]; omega) (by simp only [mx]; omega) ?_
  refine ct rfl ?_
  refine ⟨by omega, by omega, ?_⟩
  refine ct rfl ?_
  refine ld1 0 rfl (v := .int .u8 90) (by rw [nad_eq, nmu_eq]; simp [nad_eq, nmu_eq, marks, Lib.byteCells_length]) ?_
  refine ct rfl ?_
  refine ct rfl ?_
  exact rt rfl
/-- a copy of bytes, with the marks -/
theorem cvC {C : Cx} {L : List Ent} {g : FuncId} {vs : List Value} {x : List UInt8} {next : Value → List Ent → Prop}
    (h : ∀ w, St C.M C.B w L → Calls C.P g vs.toArray w fun e w' => ∃ b c j, e = .returned (sv (some (b, c, marks ++ j)) x.length) ∧ Rw 1 x.length (some (b, c, marks ++ j)) (Lib.byteCells x) ∧ w.heap.size ≤ b ∧ w'.heap[b]? = some (.cells (Lib.byteCells x ++ (marks ++ j)).toArray 5 (0, 0)) ∧ Below w.heap.size w w')
    (go : ∀ b c j, Rw 1 x.length (some (b, c, marks ++ j)) (Lib.byteCells x) → next (sv (some (b, c, marks ++ j)) x.length) (L ++ [se (some (b, c, marks ++ j)) (Lib.byteCells x) 5])) : CallP C g vs L next :=
  ⟨fun w hs => (h w hs).mono fun e w' ⟨b, c, j, he, hR, hb, ho, hB⟩ => ⟨_, _, he, hs.add hB hb ho, go b c j hR⟩⟩
theorem rw_slice1 {z n : Nat} {r : Sx.Own} {xs : List Value} (h : Rw z n r xs) : ∃ a c, sv r n = .slice a n c := by
  cases r with
  | none =>
    have : n = 0 := h.2
    subst this
    exact ⟨none, 0, rfl⟩
  | some p => obtain ⟨b, c, j⟩ := p; exact ⟨some ⟨b, 0, none⟩, c, rfl⟩
theorem bsSS3 (a1 a2 a3 : Option Addr) (n1 n2 n3 k1 k2 k3 : Nat) (w : World) : (Instr.buildSlice 32 3 #[(0, .slice a1 n1 k1), (1, .slice a2 n2 k2), (2, .slice a3 n3 k3)]).run Tryd.prog w = .ok (.slice (some ⟨w.heap.size, 0, none⟩) 3 3) (w.alloc (.cells #[.slice a1 n1 k1, .slice a2 n2 k2, .slice a3 n3 k3] TBy)) := by
  obtain ⟨i, hi, hz, hs, hb⟩ := infoOf infoSS
  exact run_buildSlice w _ _ 3 _ #[.slice a1 n1 k1, .slice a2 n2 k2, .slice a3 n3 k3] i (.slice none 0 0) undSS hi hz (by rw [hs]; decide) (by rw [hs]; decide) (by rw [hs]; kernel_rfl)
set_option maxRecDepth 100000 in
set_option maxHeartbeats 4000000 in
theorem law_codes (a : Option Addr) (l : List UInt8) (c : Nat) (w : World) (hv : Rd w (.slice a l.length c) (Lib.byteCells l)) : Calls Tryd.prog 3 ([.slice a l.length c] : List Value).toArray w fun e w' => e = .returned (.bool true) ∧ Below w.heap.size w w' := by
  refine enterV tab_ok Tryd.func3 rfl Tryd.ntmps3 rfl (St.start w) ?_
  refine cv alive_any ?_
  refine cf rfl ?_
  refine cd (fun hbig => ?_) (fun hbig => ?_)
  · exact rt rfl
  have hl5 : l.length ≤ 5000 := by omega
  have hl : l.length ≤ 1000000 := by omega
  refine cvC (x := l) (fun w1 hs => copy_any _ l hl w1 (hv.below hs.below)) (fun b0 c0 j0 hR0 => ?_)
  refine cvs (v := .string ⟨(rhexL l).toArray⟩) (fun w1 hs => by have := hex_any _ l hl w1 (Rd.own hs 0 rfl hR0); rwa [hex_A] at this) ?_
  refine cvs (v := .string ⟨(rb64A l).toArray⟩) (fun w1 hs => by have := base64_any _ l hl w1 (Rd.own hs 0 rfl hR0); rwa [← b64_B] at this) ?_
  have h64 : (rb64A l).length ≤ 1000000 := by unfold rb64A; rw [rb64_len]; omega
  refine cD (o := some l) (fun w1 _ => by have := unhex_any (rhexL l) (by rw [rhexL_len]; omega) w1; rwa [hex_C] at this) (fun h => by cases h) (fun x r1 h hR1 => ?_)
  have hx : x = l := (Option.some.inj h).symm
  subst hx
  obtain ⟨a1, c1, hv1⟩ := rw_slice1 hR1
  rw [hv1]
  refine cD (o := some x) (fun w1 _ => by have := unbase64_any (rb64A x) h64 w1; rwa [b64_CC] at this) (fun h => by cases h) (fun y r2 h hR2 => ?_)
  have hy : y = x := (Option.some.inj h).symm
  subst hy
  obtain ⟨a2, c2, hv2⟩ := rw_slice1 hR2
  rw [hv2]
  refine cvs (fun w1 hs => rhex_any _ y hl w1 (hv.below hs.below)) ?_
  have e1 : ((ByteArray.mk (rhexL y).toArray).toList == (ByteArray.mk (rhexL y).toArray).toList) = true := by simp
  have e2 : (((ByteArray.mk (rhexL y).toArray).toList == (ByteArray.mk (rhexL y).toArray).toList) == true) = true := by rw [e1]; rfl
  have f1 : ((ByteArray.mk (rb64A y).toArray).toList == (ByteArray.mk (rb64A y).toArray).toList) = true := by simp
  have f2 : (((ByteArray.mk (rb64A y).toArray).toList == (ByteArray.mk (rb64A y).toArray).toList) == true) = true := by rw [f1]; rfl
  iterate 3 refine ct e2 ?_
  refine cvs (v := .string ⟨(rb64A y).toArray⟩) (fun w1 hs => rb64_any _ y hl w1 (hv.below hs.below)) ?_
  refine ct e2 ?_
  refine ct e1 ?_
  iterate 2 refine ct f2 ?_
  refine ct f1 ?_
  iterate 2 refine ct rfl ?_
  refine ct rfl ?_
  iterate 3 refine ct rfl ?_
  refine cvs (fun w1 hs => same_yes _ _ y w1 (by have := Rd.own hs 1 rfl hR1; rwa [hv1] at this) (hv.below hs.below)) ?_
  refine ct rfl ?_
  iterate 3 refine ct rfl ?_
  refine cvs (fun w1 hs => same_yes _ _ y w1 (by have := Rd.own hs 2 rfl hR2; rwa [hv2] at this) (hv.below hs.below)) ?_
  refine ct rfl ?_
  iterate 3 refine ct rfl ?_
  refine cvs (fun w1 hs => kept_yes hl rfl hR0 w1 (hs.nth (k := 0) rfl) (hv.below hs.below)) ?_
  refine ct rfl ?_
  iterate 4 refine ct rfl ?_
  refine .mk _ _ (bsSS3 _ _ _ _ _ _ _ _ _) (fun bl => ?_)
  refine ct rfl ?_
  refine apart_in (rc := some (b0, c0, marks ++ j0)) hl5 (Lib.byteCells_length y) hR0 hR1 hR2 rfl hv1 hv2 (fun L' => ?_)
  refine ct rfl ?_
  exact rt rfl
end Go.Proofs.YtcojgckfcgbodaaDoor
