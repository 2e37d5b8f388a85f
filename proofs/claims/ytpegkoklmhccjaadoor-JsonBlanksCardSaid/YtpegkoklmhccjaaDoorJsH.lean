/- Chapter 12: signs in UTF-8: what a text begins with. -/
import Derived.Test.YtpegkoklmhccjaaDoorBdT
namespace Go.Proofs.YtpegkoklmhccjaaDoor
open Go.RowKit Go.Sx
set_option linter.unusedVariables false
/-- what DecodeRuneInString says -/
def decV (s : Bs) : Value := match s with
  | [] => .tuple #[.int .i32 65533, .int .i64 0]
  | a :: r => decR (decP (a :: r))
set_option maxRecDepth 100000 in
theorem slow_nil (w : World) : Calls Tryd.prog 75 ([sj []] : List Value).toArray w fun e w' => e = .returned (decV []) ∧ Below w.heap.size w w' := by
  refine enterV tab_ok Tryd.func75 rfl Tryd.ntmps75 rfl (St.start w) ?_
  refine ct (decide_eq_true (by decide)) ?_
  exact rt rfl
set_option maxRecDepth 100000 in
theorem dec_any (s : Bs) (hl : s.length ≤ 100000) (w : World) (hw : Laid w) : Calls Tryd.prog 62 ([sj s] : List Value).toArray w fun e w' => e = .returned (decV s) ∧ Below w.heap.size w w' := by
  refine enterV tab_ok Tryd.func62 rfl Tryd.ntmps62 rfl (St.laid hw) ?_
  cases s with
  | nil =>
    iterate 3 refine cf (by simp) ?_
    refine cf (by simp) ?_
    refine cf rfl ?_
    refine cv (fun w => slow_nil w) ?_
    exact rt rfl
  | cons a r =>
    have ha := a.toNat_lt
    have f1 : (!((ByteArray.mk (a :: r).toArray).toList == (ByteArray.mk #[]).toList)) = true := by rw [ne0]; rfl
    have f2 : ((!((ByteArray.mk (a :: r).toArray).toList == (ByteArray.mk #[]).toList)) == true) = true := by rw [f1]; rfl
    refine ct f2 ?_
    refine ct f2 ?_
    refine chL 0 rfl rfl ?_
    refine ct f2 ?_
    refine ct f1 ?_
    refine cd (fun h => ?_) (fun h => ?_)
    · have hd : decP (a :: r) = some (a.toNat, 1) := if_pos (by omega)
      refine chL 0 rfl rfl ?_
      refine .same (by simp only [mn]; omega) (by simp only [mx]; omega) ?_
      refine rt ?_
      show _ = decR (decP (a :: r))
      rw [hd]; rfl
    · have hd : decP (a :: r) = decQ a.toNat r := if_neg (by omega)
      have hv : ∀ w, Laid w → _ := fun w hw => slow_any a r (by omega) hl w hw
      show _
      have he : decV (a :: r) = decR (decQ a.toNat r) := congrArg decR hd
      rw [he]
      cases hq : decQ a.toNat r with
      | none =>
        rw [hq] at hv
        refine cvs (fun w hs => hv w (hs.res (k := 0) rfl)) ?_
        exact rt rfl
      | some x =>
        obtain ⟨c, z⟩ := x
        rw [hq] at hv
        refine cvs (fun w hs => hv w (hs.res (k := 0) rfl)) ?_
        exact rt rfl
/-- a sign that bytes begin with: how large it is -/
theorem decP_in {s : Bs} {c z : Nat} (h : decP s = some (c, z)) : c < 2147483648 ∧ 1 ≤ z ∧ z ≤ s.length ∧ (z = 1 → c < 128) := by
  cases s with
  | nil => cases h
  | cons a r =>
    have ha := a.toNat_lt
    replace h : (if a.toNat < 128 then some (a.toNat, 1) else decQ a.toNat r) = some (c, z) := h
    split at h
    · injection h with h; injection h with h1 h2; subst h1 h2
      exact ⟨by omega, Nat.le_refl _, by simp, fun _ => by omega⟩
    · unfold decQ at h
      split at h
      · cases h
      · split at h
        · cases h
        · rename_i b1 r1
          have h1 := b1.toNat_lt
          split at h
          · cases h
          · split at h
            · injection h with h; injection h with h1 h2; subst h1 h2
              exact ⟨by omega, by decide, by simp, fun h => by cases h⟩
            · split at h
              · cases h
              · rename_i b2 r2
                have h2 := b2.toNat_lt
                split at h
                · cases h
                · split at h
                  · injection h with h; injection h with h1 h2; subst h1 h2
                    exact ⟨by omega, by decide, by simp, fun h => by cases h⟩
                  · split at h
                    · cases h
                    · rename_i b3 r3
                      have h3 := b3.toNat_lt
                      split at h
                      · cases h
                      · injection h with h; injection h with h1 h2; subst h1 h2
                        exact ⟨by omega, by decide, by simp, fun h => by cases h⟩
end Go.Proofs.YtpegkoklmhccjaaDoor
