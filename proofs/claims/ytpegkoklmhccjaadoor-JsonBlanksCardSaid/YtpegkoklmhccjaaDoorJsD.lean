/- Chapter 12: the reader: signs by figures, signs behind a backslash. -/
import Derived.Test.YtpegkoklmhccjaaDoorJsC
namespace Go.Proofs.YtpegkoklmhccjaaDoor
open Go.RowKit Go.Sx
set_option linter.unusedVariables false
theorem hexP_lt (k : Nat) : ∀ (n : Nat) (s : Bs) (m : Nat) (t : Bs), hexP k n s = some (m, t) → m < (n + 1) * 16 ^ k := by
  induction k with
  | zero => intro n s m t h; injection h with h; injection h with h1 h2; subst h1; simp
  | succ k ih =>
    intro n s m t h
    cases s with
    | nil => cases h
    | cons c s =>
      rw [hexP] at h
      cases hv : hexN c.toNat with
      | none => rw [hv] at h; cases h
      | some v =>
        rw [hv] at h
        have h1 := ih _ _ _ _ h
        have h2 := hexN_lt _ _ hv
        have h3 : (16 * n + v + 1) * 16 ^ k ≤ (16 * (n + 1)) * 16 ^ k := Nat.mul_le_mul_right _ (by omega)
        rw [Nat.pow_succ, Nat.mul_comm (16 ^ k) 16, ← Nat.mul_assoc, Nat.mul_comm (n + 1) 16]
        omega
theorem hex4_lt {s : Bs} {m : Nat} {t : Bs} (h : hexP 4 0 s = some (m, t)) : m < 65536 := by have := hexP_lt 4 0 s m t h; omega
/-- a sign by its figures, or two halves of one -/
def sigP (s : Bs) : Option (Nat × Bs) := match hexP 4 0 s with
  | none => none
  | some (n, t) => if n < 55296 ∨ 57344 ≤ n then some (n, t) else if 56320 ≤ n then none else match pre [92, 117] t with
    | none => none
    | some u => match hexP 4 0 u with
      | none => none
      | some (l, v) => if l < 56320 ∨ 57344 ≤ l then none else some (65536 + (n - 55296) * 1024 + l - 56320, v)
theorem pre_len (p : Bs) : ∀ s t, pre p s = some t → t.length ≤ s.length := by
  intro s t h
  rw [pre_eq] at h
  split at h
  · injection h with h; rw [← h]; simp
  · cases h
section
variable {b : Nat} {s : Bs} {d : Int} {w : World}
set_option maxRecDepth 100000 in
theorem sign_any (h : w.heap[b]? = some (.cells (rdC s false d) TRd (0, 0))) : Calls Tryd.prog 78 ([pj b] : List Value).toArray w fun e w' => ∃ x : RnO, RnF (sigP s) s false x ∧ e = .returned (.int .i32 x.n) ∧ Upd b (rdC x.t x.bad d) TRd w w' := by
  refine enterUx tab_ok Tryd.func78 rfl Tryd.ntmps78 rfl h ?_
  refine cU (Φ := RnF (hexP 4 0 s) s false) 0 rfl (fun w h => hex_any h) ?_
  rintro ⟨n, t, bd⟩ ⟨ht, hx⟩
  dsimp only at ht hx ⊢
  rcases hx with ⟨hx, rfl, rfl⟩ | ⟨hx, rfl⟩
  · have hs : sigP s = none := by unfold sigP; rw [hx]
    iterate 2 refine cf rfl ?_
    iterate 2 refine ct rfl ?_
    exact rtUx (Φ := RnF (sigP s) s false) (⟨0, t, true⟩ : RnO) ⟨ht, .inl ⟨hs, rfl, rfl⟩⟩ rfl
  · have hn := hex4_lt hx
    have hs1 : (n < 55296 ∨ 57344 ≤ n) → sigP s = some (n, t) := fun h => by unfold sigP; rw [hx]; exact if_pos h
    by_cases c1 : n < 55296
    · have f1 : decide ((n : Int) < 55296) = true := decide_eq_true (by omega)
      have f2 : (decide ((n : Int) < 55296) == false) = false := by rw [f1]; rfl
      iterate 2 refine cf f2 ?_
      refine ct f1 ?_
      refine ct rfl ?_
      exact rtUx (Φ := RnF (sigP s) s false) (⟨n, t, false⟩ : RnO) ⟨ht, .inr ⟨hs1 (.inl c1), rfl⟩⟩ rfl
    · have f1 : decide ((n : Int) < 55296) = false := decide_eq_false (by omega)
      have f2 : (decide ((n : Int) < 55296) == false) = true := by rw [f1]; rfl
      iterate 2 refine ct f2 ?_
      refine cf f1 ?_
      by_cases c2 : 57344 ≤ n
      · refine ct (decide_eq_true (by omega)) ?_
        exact rtUx (Φ := RnF (sigP s) s false) (⟨n, t, false⟩ : RnO) ⟨ht, .inr ⟨hs1 (.inr c2), rfl⟩⟩ rfl
      · refine cf (decide_eq_false (by omega)) ?_
        have hs2 : sigP s = if 56320 ≤ n then none else match pre [92, 117] t with
            | none => none
            | some u => match hexP 4 0 u with
              | none => none
              | some (l, v) => if l < 56320 ∨ 57344 ≤ l then none else some (65536 + (n - 55296) * 1024 + l - 56320, v) := by unfold sigP; rw [hx]; exact if_neg (by omega)
        by_cases c3 : 56320 ≤ n
        · refine ct (decide_eq_true (by omega)) ?_
          refine cU1 0 rfl (fun w h => fail_any h) ?_
          exact rtUx (Φ := RnF (sigP s) s false) (⟨0, t, true⟩ : RnO) ⟨ht, .inl ⟨by rw [hs2, if_pos c3], rfl, rfl⟩⟩ rfl
        · refine cf (decide_eq_false (by omega)) ?_
          rw [if_neg c3] at hs2
          cases hp : pre [92, 117] t with
          | none =>
            rw [hp] at hs2
            refine cU1 0 rfl (fun w h => must_no [92, 117] hp h) ?_
            refine cU (Φ := RnF (hexP 4 0 t) t true) 0 rfl (fun w h => hex_any h) ?_
            rintro ⟨l, u, bd⟩ ⟨hu, hy⟩
            obtain rfl : bd = true := by rcases hy with ⟨_, _, h⟩ | ⟨_, h⟩ <;> exact h
            refine ld1 0 rfl (v := .bool true) rfl ?_
            iterate 2 refine cf rfl ?_
            refine ct rfl ?_
            iterate 2 refine cf rfl ?_
            iterate 2 refine ct rfl ?_
            refine cU1 0 rfl (fun w h => fail_any h) ?_
            exact rtUx (Φ := RnF (sigP s) s false) (⟨0, u, true⟩ : RnO) ⟨Nat.le_trans hu ht, .inl ⟨hs2, rfl, rfl⟩⟩ rfl
          | some u =>
            rw [hp] at hs2
            have hul := pre_len _ _ _ hp
            refine cU1 0 rfl (fun w h => must_yes [92, 117] hp h) ?_
            refine cU (Φ := RnF (hexP 4 0 u) u false) 0 rfl (fun w h => hex_any h) ?_
            rintro ⟨l, v, bd⟩ ⟨hv, hy⟩
            dsimp only at hv hy ⊢
            rcases hy with ⟨hy, rfl, rfl⟩ | ⟨hy, rfl⟩
            · dsimp only at hs2
              rw [hy] at hs2
              refine ld1 0 rfl (v := .bool true) rfl ?_
              iterate 2 refine cf rfl ?_
              refine ct rfl ?_
              iterate 2 refine cf rfl ?_
              iterate 2 refine ct rfl ?_
              refine cU1 0 rfl (fun w h => fail_any h) ?_
              exact rtUx (Φ := RnF (sigP s) s false) (⟨0, v, true⟩ : RnO) ⟨Nat.le_trans hv (Nat.le_trans hul ht), .inl ⟨hs2, rfl, rfl⟩⟩ rfl
            · dsimp only at hs2
              rw [hy] at hs2
              dsimp only at hs2
              have hl := hex4_lt hy
              refine ld1 0 rfl (v := .bool false) rfl ?_
              iterate 2 refine ct rfl ?_
              refine cf rfl ?_
              by_cases c4 : l < 56320
              · have g1 : decide ((l : Int) < 56320) = true := decide_eq_true (by omega)
                have g2 : (decide ((l : Int) < 56320) == false) = false := by rw [g1]; rfl
                iterate 2 refine cf g2 ?_
                refine ct g1 ?_
                refine ct rfl ?_
                refine cU1 0 rfl (fun w h => fail_any h) ?_
                exact rtUx (Φ := RnF (sigP s) s false) (⟨0, v, true⟩ : RnO) ⟨Nat.le_trans hv (Nat.le_trans hul ht), .inl ⟨by rw [hs2, if_pos (.inl c4)], rfl, rfl⟩⟩ rfl
              · have g1 : decide ((l : Int) < 56320) = false := decide_eq_false (by omega)
                have g2 : (decide ((l : Int) < 56320) == false) = true := by rw [g1]; rfl
                iterate 2 refine ct g2 ?_
                refine cf g1 ?_
                by_cases c5 : 57344 ≤ l
                · refine ct (decide_eq_true (by omega)) ?_
                  refine cU1 0 rfl (fun w h => fail_any h) ?_
                  exact rtUx (Φ := RnF (sigP s) s false) (⟨0, v, true⟩ : RnO) ⟨Nat.le_trans hv (Nat.le_trans hul ht), .inl ⟨by rw [hs2, if_pos (.inr c5)], rfl, rfl⟩⟩ rfl
                · refine cf (decide_eq_false (by omega)) ?_
                  refine .as ((n - 55296 : Nat) : Int) (by omega) (by simp only [mn]; omega) (by simp only [mx]; omega) ?_
                  refine ⟨by decide, .as (((n - 55296) * 1024 : Nat) : Int) (by show ((n - 55296 : Nat) : Int) * 2 ^ 10 = _; omega) (by simp only [mn]; omega) (by simp only [mx]; omega) ?_⟩
                  refine .as ((65536 + (n - 55296) * 1024 : Nat) : Int) (by omega) (by simp only [mn]; omega) (by simp only [mx]; omega) ?_
                  refine .as ((65536 + (n - 55296) * 1024 + l : Nat) : Int) (by omega) (by simp only [mn]; omega) (by simp only [mx]; omega) ?_
                  refine .as ((65536 + (n - 55296) * 1024 + l - 56320 : Nat) : Int) (by omega) (by simp only [mn]; omega) (by simp only [mx]; omega) ?_
                  exact rtUx (Φ := RnF (sigP s) s false) (⟨65536 + (n - 55296) * 1024 + l - 56320, v, false⟩ : RnO) ⟨Nat.le_trans hv (Nat.le_trans hul ht), .inr ⟨by rw [hs2, if_neg (by omega)], rfl⟩⟩ rfl
end
end Go.Proofs.YtpegkoklmhccjaaDoor
