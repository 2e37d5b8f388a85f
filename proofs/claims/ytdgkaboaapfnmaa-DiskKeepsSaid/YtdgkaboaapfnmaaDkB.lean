/- The disk: which texts are names; a step. -/
import Derived.Test.YtdgkaboaapfnmaaDkA
namespace Go.Proofs.Ytdgkaboaapfnmaa
open Go.RowKit Go.Sx
set_option linter.unusedVariables false

def nameN (n : Nat) : Bool := (97 ≤ n && n ≤ 122) || (48 ≤ n && n ≤ 57) || n == 46 || n == 45
def nameB (c : UInt8) : Bool := nameN c.toNat
def namedL (l : List UInt8) : Bool := 1 ≤ l.length && l.length ≤ 64 && l.all nameB
theorem namedL_len {l : List UInt8} (h : namedL l = true) : l.length ≤ 64 := by
  simp only [namedL, Bool.and_eq_true, decide_eq_true_eq] at h
  exact h.1.2
/-- a text's bytes -/
theorem cvSB {C : Cx} {L : List Ent} {t1 t2 e : TypeId} {l : List UInt8} {next : Value → List Ent → Prop} (h1 : C.P.underlying t1 = some .string) (h2 : C.P.underlying t2 = some (.slice e)) (h3 : C.P.underlying e = some (.int .u8))
    (go : ∀ b c cap, (∀ i (h : i < l.length), c[i]? = some (.int .u8 (l[i].toNat : Nat))) → next (.slice (some ⟨b, 0, none⟩) l.length cap) (L ++ [⟨b, some (.cells c e (c.size, c.size + 1)), false, none⟩])) : SemP C (convert t1 t2 (VS l)) L next := by
  refine ⟨fun w hs => ⟨_, _, _, run_bytes_of_string w t1 t2 e ⟨l.toArray⟩ h1 h2 h3, hs.drew.alloc _, ?_⟩⟩
  have := go w.heap.size (bytesRow ⟨l.toArray⟩ (grownCap w l.length 0 e)) (grownCap w l.length 0 e) (fun i h => by
    have := bytesRow_at ⟨l.toArray⟩ (grownCap w l.length 0 e) i (by simpa using h)
    simpa using this)
  have e1 : (ByteArray.mk l.toArray).size = l.length := size_mk l
  rw [e1]; exact this
set_option maxRecDepth 100000 in
set_option maxHeartbeats 1000000 in
theorem named_any (l : List UInt8) (hl : l.length ≤ 1000000) (w : World) : Calls Try.prog 44 ([VS l] : List Value).toArray w fun e w' => e = .returned (.bool (namedL l)) ∧ Below w.heap.size w w' := by
  refine enterV tab_ok Try.func44 rfl Try.ntmps44 rfl (St.start w) ?_
  refine cvSB undST und22 undU8 (fun b c cap hc => ?_)
  refine lp tab_ok (fun i : Nat => i ≤ l.length ∧ (l.take i).all nameB = true) (fun i => ⟨[(0, VS l), (6, .slice (some ⟨b, 0, none⟩) l.length cap), (7, .int .i64 l.length), (8, .int .i64 i)], [⟨b, some (.cells c 5 (c.size, c.size + 1)), false, none⟩], []⟩) (fun i => l.length - i) 0 ⟨Nat.zero_le _, rfl⟩
    ⟨⟨rfl, rfl, rfl, rfl, trivial⟩, .cons .nil, rfl⟩ ?_
  rintro i ⟨hi, hall⟩
  refine cd (fun h => ?_) (fun h => ?_)
  · have hlt : i < l.length := by omega
    refine ⟨by omega, by omega, ?_⟩
    refine ld1 0 rfl (v := .int .u8 (l[i].toNat : Nat)) (by rw [nad_eq, nmu_eq, Int.toNat_natCast, Nat.mul_one, Nat.zero_add]; exact hc i hlt) ?_
    have htk : l.take (i + 1) = l.take i ++ [l[i]] := List.take_succ_eq_append_getElem hlt
    have hok : nameN l[i].toNat = true → (l.take (i + 1)).all nameB = true := fun h => by rw [htk, List.all_append, hall]; simpa [nameB] using h
    have hno : nameN l[i].toNat = false → namedL l = false := fun h => by
      have : l.all nameB = false := List.all_eq_false.2 ⟨l[i], List.getElem_mem hlt, by simp [nameB, h]⟩
      unfold namedL; rw [this, Bool.and_false]
    generalize l[i].toNat = n at *
    by_cases h0 : 97 ≤ n
    · have e1 : decide ((n : Int) ≥ 97) = true := decide_eq_true (by omega)
      have e2 : (decide ((n : Int) ≥ 97) == true) = true := by rw [e1]; rfl
      refine ct e2 ?_
      refine ct e2 ?_
      refine ct e1 ?_
      by_cases g0 : n ≤ 122
      · have g' : decide ((n : Int) ≤ 122) = true := decide_eq_true (by omega)
        refine ct g' ?_
        refine ct g' ?_
        refine .as ((i + 1 : Nat) : Int) (by simp) (by simp only [mn]; omega) (by simp only [mx]; omega) ?_
        exact ⟨i + 1, ⟨by omega, hok (by unfold nameN; simp; omega)⟩, by omega, ⟨⟨rfl, rfl, rfl, rfl, trivial⟩, .cons .nil, rfl⟩⟩
      · refine cf (decide_eq_false (by omega)) ?_
        by_cases h1 : 48 ≤ n
        · have e1 : decide ((n : Int) ≥ 48) = true := decide_eq_true (by omega)
          have e2 : (decide ((n : Int) ≥ 48) == true) = true := by rw [e1]; rfl
          refine ct e2 ?_
          refine ct e2 ?_
          refine ct e1 ?_
          by_cases g1 : n ≤ 57
          · have g' : decide ((n : Int) ≤ 57) = true := decide_eq_true (by omega)
            refine ct g' ?_
            refine ct g' ?_
            refine .as ((i + 1 : Nat) : Int) (by simp) (by simp only [mn]; omega) (by simp only [mx]; omega) ?_
            exact ⟨i + 1, ⟨by omega, hok (by unfold nameN; simp; omega)⟩, by omega, ⟨⟨rfl, rfl, rfl, rfl, trivial⟩, .cons .nil, rfl⟩⟩
          · refine cf (decide_eq_false (by omega)) ?_
            by_cases h2 : n = 46
            · have g' : ((n : Int) == 46) = true := by rw [h2]; rfl
              refine ct g' ?_
              refine ct g' ?_
              refine .as ((i + 1 : Nat) : Int) (by simp) (by simp only [mn]; omega) (by simp only [mx]; omega) ?_
              exact ⟨i + 1, ⟨by omega, hok (by unfold nameN; simp; omega)⟩, by omega, ⟨⟨rfl, rfl, rfl, rfl, trivial⟩, .cons .nil, rfl⟩⟩
            · refine cf (beq_eq_false_iff_ne.2 (by omega)) ?_
              by_cases h3 : n = 45
              · have g' : ((n : Int) == 45) = true := by rw [h3]; rfl
                refine ct g' ?_
                refine .as ((i + 1 : Nat) : Int) (by simp) (by simp only [mn]; omega) (by simp only [mx]; omega) ?_
                exact ⟨i + 1, ⟨by omega, hok (by unfold nameN; simp; omega)⟩, by omega, ⟨⟨rfl, rfl, rfl, rfl, trivial⟩, .cons .nil, rfl⟩⟩
              · refine cf (beq_eq_false_iff_ne.2 (by omega)) ?_
                exact rt (congrArg Value.bool (hno (by unfold nameN; simp; omega)).symm)
        · have e1 : decide ((n : Int) ≥ 48) = false := decide_eq_false (by omega)
          have e2 : (decide ((n : Int) ≥ 48) == true) = false := by rw [e1]; rfl
          refine cf e2 ?_
          refine cf e2 ?_
          refine cf e1 ?_
          refine cf rfl ?_
          by_cases h2 : n = 46
          · have g' : ((n : Int) == 46) = true := by rw [h2]; rfl
            refine ct g' ?_
            refine ct g' ?_
            refine .as ((i + 1 : Nat) : Int) (by simp) (by simp only [mn]; omega) (by simp only [mx]; omega) ?_
            exact ⟨i + 1, ⟨by omega, hok (by unfold nameN; simp; omega)⟩, by omega, ⟨⟨rfl, rfl, rfl, rfl, trivial⟩, .cons .nil, rfl⟩⟩
          · refine cf (beq_eq_false_iff_ne.2 (by omega)) ?_
            by_cases h3 : n = 45
            · have g' : ((n : Int) == 45) = true := by rw [h3]; rfl
              refine ct g' ?_
              refine .as ((i + 1 : Nat) : Int) (by simp) (by simp only [mn]; omega) (by simp only [mx]; omega) ?_
              exact ⟨i + 1, ⟨by omega, hok (by unfold nameN; simp; omega)⟩, by omega, ⟨⟨rfl, rfl, rfl, rfl, trivial⟩, .cons .nil, rfl⟩⟩
            · refine cf (beq_eq_false_iff_ne.2 (by omega)) ?_
              exact rt (congrArg Value.bool (hno (by unfold nameN; simp; omega)).symm)
    · have e1 : decide ((n : Int) ≥ 97) = false := decide_eq_false (by omega)
      have e2 : (decide ((n : Int) ≥ 97) == true) = false := by rw [e1]; rfl
      refine cf e2 ?_
      refine cf e2 ?_
      refine cf e1 ?_
      refine cf rfl ?_
      by_cases h1 : 48 ≤ n
      · have e1 : decide ((n : Int) ≥ 48) = true := decide_eq_true (by omega)
        have e2 : (decide ((n : Int) ≥ 48) == true) = true := by rw [e1]; rfl
        refine ct e2 ?_
        refine ct e2 ?_
        refine ct e1 ?_
        by_cases g1 : n ≤ 57
        · have g' : decide ((n : Int) ≤ 57) = true := decide_eq_true (by omega)
          refine ct g' ?_
          refine ct g' ?_
          refine .as ((i + 1 : Nat) : Int) (by simp) (by simp only [mn]; omega) (by simp only [mx]; omega) ?_
          exact ⟨i + 1, ⟨by omega, hok (by unfold nameN; simp; omega)⟩, by omega, ⟨⟨rfl, rfl, rfl, rfl, trivial⟩, .cons .nil, rfl⟩⟩
        · refine cf (decide_eq_false (by omega)) ?_
          by_cases h2 : n = 46
          · have g' : ((n : Int) == 46) = true := by rw [h2]; rfl
            refine ct g' ?_
            refine ct g' ?_
            refine .as ((i + 1 : Nat) : Int) (by simp) (by simp only [mn]; omega) (by simp only [mx]; omega) ?_
            exact ⟨i + 1, ⟨by omega, hok (by unfold nameN; simp; omega)⟩, by omega, ⟨⟨rfl, rfl, rfl, rfl, trivial⟩, .cons .nil, rfl⟩⟩
          · refine cf (beq_eq_false_iff_ne.2 (by omega)) ?_
            by_cases h3 : n = 45
            · have g' : ((n : Int) == 45) = true := by rw [h3]; rfl
              refine ct g' ?_
              refine .as ((i + 1 : Nat) : Int) (by simp) (by simp only [mn]; omega) (by simp only [mx]; omega) ?_
              exact ⟨i + 1, ⟨by omega, hok (by unfold nameN; simp; omega)⟩, by omega, ⟨⟨rfl, rfl, rfl, rfl, trivial⟩, .cons .nil, rfl⟩⟩
            · refine cf (beq_eq_false_iff_ne.2 (by omega)) ?_
              exact rt (congrArg Value.bool (hno (by unfold nameN; simp; omega)).symm)
      · have e1 : decide ((n : Int) ≥ 48) = false := decide_eq_false (by omega)
        have e2 : (decide ((n : Int) ≥ 48) == true) = false := by rw [e1]; rfl
        refine cf e2 ?_
        refine cf e2 ?_
        refine cf e1 ?_
        refine cf rfl ?_
        by_cases h2 : n = 46
        · have g' : ((n : Int) == 46) = true := by rw [h2]; rfl
          refine ct g' ?_
          refine ct g' ?_
          refine .as ((i + 1 : Nat) : Int) (by simp) (by simp only [mn]; omega) (by simp only [mx]; omega) ?_
          exact ⟨i + 1, ⟨by omega, hok (by unfold nameN; simp; omega)⟩, by omega, ⟨⟨rfl, rfl, rfl, rfl, trivial⟩, .cons .nil, rfl⟩⟩
        · refine cf (beq_eq_false_iff_ne.2 (by omega)) ?_
          by_cases h3 : n = 45
          · have g' : ((n : Int) == 45) = true := by rw [h3]; rfl
            refine ct g' ?_
            refine .as ((i + 1 : Nat) : Int) (by simp) (by simp only [mn]; omega) (by simp only [mx]; omega) ?_
            exact ⟨i + 1, ⟨by omega, hok (by unfold nameN; simp; omega)⟩, by omega, ⟨⟨rfl, rfl, rfl, rfl, trivial⟩, .cons .nil, rfl⟩⟩
          · refine cf (beq_eq_false_iff_ne.2 (by omega)) ?_
            exact rt (congrArg Value.bool (hno (by unfold nameN; simp; omega)).symm)
  · obtain rfl : i = l.length := by omega
    rw [List.take_of_length_le (Nat.le_refl _)] at hall
    have hb := const_beq ⟨l.toArray⟩ ⟨#[]⟩
    have e0 : namedL l = (decide (1 ≤ l.length) && decide (l.length ≤ 64)) := by unfold namedL; rw [hall, Bool.and_true]
    rw [e0]
    by_cases h0 : l = []
    · subst h0
      have hb2 : (!((ByteArray.mk #[]).toList == (ByteArray.mk #[]).toList)) = false := by simp
      have hb3 : ((!((ByteArray.mk #[]).toList == (ByteArray.mk #[]).toList)) == true) = false := by rw [hb2]; rfl
      refine cf hb3 ?_
      refine cf hb3 ?_
      refine cf hb3 ?_
      refine cf hb2 ?_
      exact rt rfl
    · have hb2 : (!((ByteArray.mk l.toArray).toList == (ByteArray.mk #[]).toList)) = true := by rw [hb, decide_eq_false (by simpa using h0)]; rfl
      have hb3 : ((!((ByteArray.mk l.toArray).toList == (ByteArray.mk #[]).toList)) == true) = true := by rw [hb2]; rfl
      refine ct hb3 ?_
      refine ct hb3 ?_
      refine ct hb3 ?_
      refine ct hb2 ?_
      refine rt (congrArg Value.bool ?_)
      have h1 : 1 ≤ l.length := by cases l with | nil => exact absurd rfl h0 | cons a b => simp
      rw [size_mk, decide_eq_true h1, Bool.true_and, Bool.eq_iff_iff, decide_eq_true_eq, decide_eq_true_eq]
      omega
/-- the disk with a step done; false: the power is off -/
def stepD (D : Dk) : Bool × Dk := if D.gone || (D.armed && D.left == 0) then (false, { D with gone := true }) else (true, { D with left := if D.armed then D.left - 1 else D.left, steps := D.steps + 1 })
theorem CallP.eqL {C : Cx} {g : FuncId} {vs : List Value} {L L' : List Ent} {next : Value → List Ent → Prop} (h : L = L') (hc : CallP C g vs L' next) : CallP C g vs L next := h ▸ hc
theorem cbt {b : Bool} {p q : Prop} (h : b = true) (go : p) : cond b p q := by rw [h]; exact go
theorem CallP.imp {C : Cx} {g : FuncId} {vs : List Value} {L : List Ent} {k k' : Value → List Ent → Prop} (hc : CallP C g vs L k) (h : ∀ v L', k v L' → k' v L') : CallP C g vs L k' :=
  ⟨fun w hs => (hc.go w hs).mono fun e w' ⟨v, L', he, h1, h2⟩ => ⟨v, L', he, h1, h v L' h2⟩⟩
section
variable {N : Nat} {M : Bks} {B : World} {F : Option Nat} {L : List Ent} {next : Value → List Ent → Prop}
set_option maxRecDepth 100000 in
/-- a step: it is refused, or what is to be done is called -/
theorem step_in (k : Nat) {D : Dk} {bd bm g : Nat} {cs : Array Value} (hk : L[k]? = some (cl bd (dkC D bm) TD)) (hcl : callable tab g = true) (hst : D.steps ≤ 1000000) (hl : D.left ≤ 9223372036854775807)
    (g0 : (stepD D).1 = false → next (ErrN 4) (L.set k (cl bd (dkC (stepD D).2 bm) TD)))
    (g1 : (stepD D).1 = true → CallP ⟨Try.prog, tab, 44, M, B, none⟩ g cs.toList (L.set k (cl bd (dkC (stepD D).2 bm) TD)) (fun v L' => next .nilIface L')) :
    CallP ⟨Try.prog, tab, N, M, B, F⟩ 45 [ptr bd, .func (.func g) #[] cs] L next := by
  refine inl (C := ⟨Try.prog, tab, N, M, B, F⟩) tab_ok Try.func45 rfl Try.ntmps45 rfl ?_
  obtain ⟨st, lf, ar, gn, qt, fs⟩ := D
  simp only at hst hl
  have hkl : k < L.length := (List.getElem?_eq_some_iff.1 hk).1
  have gone : ∀ ar, gn = true → stepD ⟨st, lf, ar, gn, qt, fs⟩ = (false, ⟨st, lf, ar, gn, qt, fs⟩) := by rintro ar rfl; rfl
  refine ld1 k hk (v := .bool ar) rfl ?_
  cases ar with
  | true =>
    iterate 4 refine ct rfl ?_
    refine ld1 k hk (v := .int .i64 lf) rfl ?_
    refine ct rfl ?_
    refine ct rfl ?_
    refine cq (fun h => ?_) (fun h => ?_)
    · have h0 : lf = 0 := by omega
      subst h0
      have hst2 : stepD ⟨st, 0, true, gn, qt, fs⟩ = (false, ⟨st, 0, true, true, qt, fs⟩) := by simp [stepD]
      refine s1 k hk (show 3 < 6 by decide) ?_
      have hk2 : (L.set k (cl bd ((dkC ⟨st, 0, true, gn, qt, fs⟩ bm).setIfInBounds 3 (.bool true)) TD))[k]? = some (cl bd (dkC ⟨st, 0, true, true, qt, fs⟩ bm) TD) := by simp [hkl, dkC]
      refine ld1 k hk2 (v := .bool true) rfl ?_
      refine ct rfl ?_
      refine bk ?_
      have := g0 (by rw [hst2])
      rw [hst2] at this
      exact this
    · cases gn with
      | true =>
        refine ld1 k hk (v := .bool true) rfl ?_
        refine ct rfl ?_
        refine bk ?_
        have := g0 (by rw [gone true rfl])
        rw [gone true rfl] at this
        rwa [show L.set k (cl bd (dkC ⟨st, lf, true, true, qt, fs⟩ bm) TD) = L from set_same hk] at this
      | false =>
        have hst2 : stepD ⟨st, lf, true, false, qt, fs⟩ = (true, ⟨st + 1, lf - 1, true, false, qt, fs⟩) := by
          have : lf ≠ 0 := by omega
          simp [stepD, this]
        refine ld1 k hk (v := .bool false) rfl ?_
        refine cf rfl ?_
        refine ld1 k hk (v := .bool true) rfl ?_
        refine ct rfl ?_
        refine ld1 k hk (v := .int .i64 lf) rfl ?_
        refine .as ((lf - 1 : Nat) : Int) (by omega) (by simp only [mn]; omega) (by simp only [mx]; omega) ?_
        refine s1 k hk (show 1 < 6 by decide) ?_
        have hk2 : (L.set k (cl bd ((dkC ⟨st, lf, true, false, qt, fs⟩ bm).setIfInBounds 1 (.int .i64 ((lf - 1 : Nat) : Int))) TD))[k]? = some (cl bd (dkC ⟨st, lf - 1, true, false, qt, fs⟩ bm) TD) := by simp [hkl, dkC]
        refine ld1 k hk2 (v := .int .i64 st) rfl ?_
        refine .as ((st + 1 : Nat) : Int) (by simp) (by simp only [mn]; omega) (by simp only [mx]; omega) ?_
        refine s1 k hk2 (show 0 < 6 by decide) ?_
        refine cbt hcl ?_
        refine CallP.eqL (L' := L.set k (cl bd (dkC (stepD ⟨st, lf, true, false, qt, fs⟩).2 bm) TD)) ?_ ?_
        · rw [hst2]; simp [dkC, nad]
        refine CallP.imp (C := ⟨Try.prog, tab, 44, M, B, none⟩) (k := fun v L' => next .nilIface L') ?_ (fun v L' h => bk h)
        have := g1 (by rw [hst2])
        simpa using this
  | false =>
    iterate 5 refine cf rfl ?_
    refine cf rfl ?_
    refine cf rfl ?_
    cases gn with
    | true =>
      refine ld1 k hk (v := .bool true) rfl ?_
      refine ct rfl ?_
      refine bk ?_
      have := g0 (by rw [gone false rfl])
      rw [gone false rfl] at this
      rwa [show L.set k (cl bd (dkC ⟨st, lf, false, true, qt, fs⟩ bm) TD) = L from set_same hk] at this
    | false =>
      have hst2 : stepD ⟨st, lf, false, false, qt, fs⟩ = (true, ⟨st + 1, lf, false, false, qt, fs⟩) := by simp [stepD]
      refine ld1 k hk (v := .bool false) rfl ?_
      refine cf rfl ?_
      refine ld1 k hk (v := .bool false) rfl ?_
      refine cf rfl ?_
      have hk2 := hk
      refine ld1 k hk2 (v := .int .i64 st) rfl ?_
      refine .as ((st + 1 : Nat) : Int) (by simp) (by simp only [mn]; omega) (by simp only [mx]; omega) ?_
      refine s1 k hk2 (show 0 < 6 by decide) ?_
      refine cbt hcl ?_
      refine CallP.eqL (L' := L.set k (cl bd (dkC (stepD ⟨st, lf, false, false, qt, fs⟩).2 bm) TD)) ?_ ?_
      · rw [hst2]; simp [dkC, nad]
      refine CallP.imp (C := ⟨Try.prog, tab, 44, M, B, none⟩) (k := fun v L' => next .nilIface L') ?_ (fun v L' h => bk h)
      have := g1 (by rw [hst2])
      simpa using this
end
end Go.Proofs.Ytdgkaboaapfnmaa
