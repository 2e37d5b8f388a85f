/- Chapter 12: the reader: what stands behind a backslash. -/
import Derived.Test.YtpegkoklmhccjaaDoorJsD
namespace Go.Proofs.YtpegkoklmhccjaaDoor
open Go.RowKit Go.Sx
set_option linter.unusedVariables false
theorem ceq (c k : UInt8) (z : Int) (hz : z = k.toNat) : ((c.toNat : Int) == z) = decide (c = k) := by
  subst hz
  by_cases h : c = k
  · subst h; simp
  · rw [decide_eq_false h, beq_eq_false_iff_ne]
    intro h2; exact h (UInt8.toNat_inj.1 (by omega))
theorem ceT {c : UInt8} (k : UInt8) {z : Int} (hz : z = k.toNat) (h : c = k) : ((c.toNat : Int) == z) = true := by rw [ceq c k z hz]; exact decide_eq_true h
theorem ceF {c : UInt8} (k : UInt8) {z : Int} (hz : z = k.toNat) (h : ¬ c = k) : ((c.toNat : Int) == z) = false := by rw [ceq c k z hz]; exact decide_eq_false h
def escQ (c : UInt8) (t : Bs) : Option (Nat × Bs) :=
  if c = 34 then some (34, t) else if c = 92 then some (92, t) else if c = 47 then some (47, t) else if c = 98 then some (8, t) else if c = 102 then some (12, t) else if c = 110 then some (10, t) else if c = 114 then some (13, t) else if c = 116 then some (9, t) else if c = 117 then sigP t else none
/-- what stands behind a backslash -/
def escP : Bs → Option (Nat × Bs)
  | [] => none
  | c :: t => escQ c t
section
variable {b : Nat} {s : Bs} {d : Int} {w : World}
set_option maxRecDepth 100000 in
theorem escape_any (h : w.heap[b]? = some (.cells (rdC s false d) TRd (0, 0))) : Calls Tryd.prog 65 ([pj b] : List Value).toArray w fun e w' => ∃ x : RnO, RnF (escP s) s false x ∧ e = .returned (.int .i32 x.n) ∧ Upd b (rdC x.t x.bad d) TRd w w' := by
  refine enterUx tab_ok Tryd.func65 rfl Tryd.ntmps65 rfl h ?_
  refine ld1 0 rfl (v := sj s) rfl ?_
  cases s with
  | nil =>
    refine ct (by simp) ?_
    refine cU1 0 rfl (fun w h => fail_any h) ?_
    exact rtUx (Φ := RnF (escP []) [] false) (⟨0, [], true⟩ : RnO) ⟨Nat.le_refl _, .inl ⟨rfl, rfl, rfl⟩⟩ rfl
  | cons c t =>
    have hc := c.toNat_lt
    refine cf (ne0 c t) ?_
    refine ld1 0 rfl (v := sj (c :: t)) rfl ?_
    refine chL 0 rfl rfl ?_
    refine ld1 0 rfl (v := sj (c :: t)) rfl ?_
    refine slL 1 (by simp) rfl ?_
    refine s1 0 rfl (by show 0 < 3; decide) ?_
    by_cases c34 : c = 34
    · refine ct (ceT 34 rfl c34) ?_
      refine ct (ceT 34 rfl c34) ?_
      refine .same (by simp only [mn]; omega) (by simp only [mx]; omega) ?_
      rw [show c.toNat = 34 by rw [c34]; rfl]
      exact rtUx (Φ := RnF (escP (c :: t)) (c :: t) false) (⟨34, t, false⟩ : RnO) ⟨by simp, .inr ⟨by show escQ c t = _; unfold escQ; rw [if_pos c34], rfl⟩⟩ rfl
    · refine cf (ceF 34 rfl c34) ?_
      by_cases c92 : c = 92
      · refine ct (ceT 92 rfl c92) ?_
        refine ct (ceT 92 rfl c92) ?_
        refine .same (by simp only [mn]; omega) (by simp only [mx]; omega) ?_
        rw [show c.toNat = 92 by rw [c92]; rfl]
        exact rtUx (Φ := RnF (escP (c :: t)) (c :: t) false) (⟨92, t, false⟩ : RnO) ⟨by simp, .inr ⟨by show escQ c t = _; unfold escQ; rw [if_neg c34, if_pos c92], rfl⟩⟩ rfl
      · refine cf (ceF 92 rfl c92) ?_
        by_cases c47 : c = 47
        · refine ct (ceT 47 rfl c47) ?_
          refine .same (by simp only [mn]; omega) (by simp only [mx]; omega) ?_
          rw [show c.toNat = 47 by rw [c47]; rfl]
          exact rtUx (Φ := RnF (escP (c :: t)) (c :: t) false) (⟨47, t, false⟩ : RnO) ⟨by simp, .inr ⟨by show escQ c t = _; unfold escQ; rw [if_neg c34, if_neg c92, if_pos c47], rfl⟩⟩ rfl
        · refine cf (ceF 47 rfl c47) ?_
          by_cases c98 : c = 98
          · refine ct (ceT 98 rfl c98) ?_
            exact rtUx (Φ := RnF (escP (c :: t)) (c :: t) false) (⟨8, t, false⟩ : RnO) ⟨by simp, .inr ⟨by show escQ c t = _; unfold escQ; rw [if_neg c34, if_neg c92, if_neg c47, if_pos c98], rfl⟩⟩ rfl
          · refine cf (ceF 98 rfl c98) ?_
            by_cases c102 : c = 102
            · refine ct (ceT 102 rfl c102) ?_
              exact rtUx (Φ := RnF (escP (c :: t)) (c :: t) false) (⟨12, t, false⟩ : RnO) ⟨by simp, .inr ⟨by show escQ c t = _; unfold escQ; rw [if_neg c34, if_neg c92, if_neg c47, if_neg c98, if_pos c102], rfl⟩⟩ rfl
            · refine cf (ceF 102 rfl c102) ?_
              by_cases c110 : c = 110
              · refine ct (ceT 110 rfl c110) ?_
                exact rtUx (Φ := RnF (escP (c :: t)) (c :: t) false) (⟨10, t, false⟩ : RnO) ⟨by simp, .inr ⟨by show escQ c t = _; unfold escQ; rw [if_neg c34, if_neg c92, if_neg c47, if_neg c98, if_neg c102, if_pos c110], rfl⟩⟩ rfl
              · refine cf (ceF 110 rfl c110) ?_
                by_cases c114 : c = 114
                · refine ct (ceT 114 rfl c114) ?_
                  exact rtUx (Φ := RnF (escP (c :: t)) (c :: t) false) (⟨13, t, false⟩ : RnO) ⟨by simp, .inr ⟨by show escQ c t = _; unfold escQ; rw [if_neg c34, if_neg c92, if_neg c47, if_neg c98, if_neg c102, if_neg c110, if_pos c114], rfl⟩⟩ rfl
                · refine cf (ceF 114 rfl c114) ?_
                  by_cases c116 : c = 116
                  · refine ct (ceT 116 rfl c116) ?_
                    exact rtUx (Φ := RnF (escP (c :: t)) (c :: t) false) (⟨9, t, false⟩ : RnO) ⟨by simp, .inr ⟨by show escQ c t = _; unfold escQ; rw [if_neg c34, if_neg c92, if_neg c47, if_neg c98, if_neg c102, if_neg c110, if_neg c114, if_pos c116], rfl⟩⟩ rfl
                  · refine cf (ceF 116 rfl c116) ?_
                    by_cases c117 : c = 117
                    · refine ct (ceT 117 rfl c117) ?_
                      have he : escP (c :: t) = sigP t := by show escQ c t = _; unfold escQ; rw [if_neg c34, if_neg c92, if_neg c47, if_neg c98, if_neg c102, if_neg c110, if_neg c114, if_neg c116, if_pos c117]
                      refine cU (Φ := RnF (sigP t) t false) 0 rfl (fun w h => sign_any h) ?_
                      rintro ⟨l, u, bd⟩ ⟨hu, hy⟩
                      exact rtUx (Φ := RnF (escP (c :: t)) (c :: t) false) (⟨l, u, bd⟩ : RnO) ⟨by simp; dsimp only at hu; omega, by rw [he]; exact hy⟩ rfl
                    · refine cf (ceF 117 rfl c117) ?_
                      refine cU1 0 rfl (fun w h => fail_any h) ?_
                      exact rtUx (Φ := RnF (escP (c :: t)) (c :: t) false) (⟨0, t, true⟩ : RnO) ⟨by simp, .inl ⟨by show escQ c t = _; unfold escQ; rw [if_neg c34, if_neg c92, if_neg c47, if_neg c98, if_neg c102, if_neg c110, if_neg c114, if_neg c116, if_neg c117], rfl, rfl⟩⟩ rfl
end
end Go.Proofs.YtpegkoklmhccjaaDoor
