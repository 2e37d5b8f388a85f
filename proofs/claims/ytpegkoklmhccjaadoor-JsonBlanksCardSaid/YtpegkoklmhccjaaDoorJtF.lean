/- Chapter 12, plain: what is read depends on no more than what is passed over; blanks around a text, beginnings of a text. -/
import Derived.Test.YtpegkoklmhccjaaDoorJsT
namespace Go.Proofs.YtpegkoklmhccjaaDoor
open Go.RowKit Go.Sx
set_option linter.unusedVariables false
def JV.kd : JV → Int
  | .mk k _ _ _ _ => k
/-- it ends in no blank -/
def NB (q : Bs) : Prop := ∃ (q' : Bs) (c : UInt8), q = q' ++ [c] ∧ blk c = false
theorem NB.app {q : Bs} (p : Bs) (h : NB q) : NB (p ++ q) := by obtain ⟨q', c, rfl, h⟩ := h; exact ⟨p ++ q', c, by simp, h⟩
/-- a reading of a text's beginning, whatever stands behind it -/
def Loc {α : Type} (F : Bs → Option (α × Bs)) (u : Bs) (x : α) (r : Bs) : Prop := ∃ q, u = q ++ r ∧ ∀ r', F (q ++ r') = some (x, r')
theorem pre_app (p t : Bs) : pre p (p ++ t) = some t := by
  induction p with
  | nil => rfl
  | cons a l ih => simp [pre, ih]
theorem pre_some (p : Bs) : ∀ s t, pre p s = some t → s = p ++ t := by
  induction p with
  | nil => intro s t h; exact Option.some.inj h
  | cons a l ih =>
    intro s t h
    cases s with
    | nil => cases h
    | cons c s =>
      unfold pre at h
      split at h
      · rename_i e; rw [e, ih s t h]; rfl
      · cases h
theorem hex_loc : ∀ (k n : Nat) (s : Bs) (m : Nat) (t : Bs), hexP k n s = some (m, t) → Loc (hexP k n) s m t := by
  intro k
  induction k with
  | zero => intro n s m t h; injection h with h; injection h with h1 h2; exact ⟨[], by simp [h2], fun r' => by rw [← h1]; rfl⟩
  | succ k ih =>
    intro n s m t h
    cases s with
    | nil => cases h
    | cons c s =>
      cases hc : hexN c.toNat with
      | none => rw [hexP_no _ _ _ _ hc] at h; cases h
      | some v =>
        rw [hexP_one _ _ _ _ v hc] at h
        obtain ⟨q, h1, h2⟩ := ih _ s m t h
        exact ⟨c :: q, by rw [h1]; rfl, fun r' => by rw [List.cons_append, hexP_one _ _ _ _ v hc]; exact h2 r'⟩
theorem sig_loc (s : Bs) (m : Nat) (t : Bs) (h : sigP s = some (m, t)) : Loc sigP s m t := by
  unfold sigP at h
  split at h
  · cases h
  · rename_i n u hu
    obtain ⟨q, h1, h2⟩ := hex_loc _ _ _ _ _ hu
    split at h
    · rename_i hn
      injection h with h; injection h with h3 h4
      refine ⟨q, by rw [h1, h4], fun r' => ?_⟩
      unfold sigP; rw [h2]; dsimp only; rw [if_pos hn, h3]
    · rename_i hn
      split at h
      · cases h
      · rename_i hn2
        split at h
        · cases h
        · rename_i v hv
          obtain rfl := pre_some _ _ _ hv
          split at h
          · cases h
          · rename_i l x hl
            obtain ⟨q2, h5, h6⟩ := hex_loc _ _ _ _ _ hl
            split at h
            · cases h
            · rename_i hn3
              injection h with h; injection h with h7 h8
              refine ⟨q ++ ([92, 117] ++ q2), by rw [h1, h5, h8]; simp, fun r' => ?_⟩
              unfold sigP
              rw [List.append_assoc, h2]; dsimp only
              rw [if_neg hn, if_neg hn2, List.append_assoc, pre_app]; dsimp only
              rw [h6]; dsimp only
              rw [if_neg hn3, h7]
theorem esc_loc (s : Bs) (m : Nat) (t : Bs) (h : escP s = some (m, t)) : Loc escP s m t := by
  cases s with
  | nil => cases h
  | cons c s =>
    have h : escQ c s = some (m, t) := h
    have one : ∀ n : Nat, some (n, s) = some (m, t) → (∀ r', escQ c r' = some (n, r')) → Loc escP (c :: s) m t := fun n e f => by
      injection e with e; injection e with e1 e2
      subst e1 e2
      exact ⟨[c], rfl, fun r' => f r'⟩
    unfold escQ at h
    by_cases c0 : c = 34
    · rw [if_pos c0] at h; exact one _ h fun r' => by unfold escQ; rw [if_pos c0]
    rw [if_neg c0] at h
    by_cases c1 : c = 92
    · rw [if_pos c1] at h; exact one _ h fun r' => by unfold escQ; rw [if_neg c0, if_pos c1]
    rw [if_neg c1] at h
    by_cases c2 : c = 47
    · rw [if_pos c2] at h; exact one _ h fun r' => by unfold escQ; rw [if_neg c0, if_neg c1, if_pos c2]
    rw [if_neg c2] at h
    by_cases c3 : c = 98
    · rw [if_pos c3] at h; exact one _ h fun r' => by unfold escQ; rw [if_neg c0, if_neg c1, if_neg c2, if_pos c3]
    rw [if_neg c3] at h
    by_cases c4 : c = 102
    · rw [if_pos c4] at h; exact one _ h fun r' => by unfold escQ; rw [if_neg c0, if_neg c1, if_neg c2, if_neg c3, if_pos c4]
    rw [if_neg c4] at h
    by_cases c5 : c = 110
    · rw [if_pos c5] at h; exact one _ h fun r' => by unfold escQ; rw [if_neg c0, if_neg c1, if_neg c2, if_neg c3, if_neg c4, if_pos c5]
    rw [if_neg c5] at h
    by_cases c6 : c = 114
    · rw [if_pos c6] at h; exact one _ h fun r' => by unfold escQ; rw [if_neg c0, if_neg c1, if_neg c2, if_neg c3, if_neg c4, if_neg c5, if_pos c6]
    rw [if_neg c6] at h
    by_cases c7 : c = 116
    · rw [if_pos c7] at h; exact one _ h fun r' => by unfold escQ; rw [if_neg c0, if_neg c1, if_neg c2, if_neg c3, if_neg c4, if_neg c5, if_neg c6, if_pos c7]
    rw [if_neg c7] at h
    by_cases c8 : c = 117
    · rw [if_pos c8] at h
      obtain ⟨q, h1, h2⟩ := sig_loc _ _ _ h
      exact ⟨c :: q, by rw [h1]; rfl, fun r' => by
        show escQ c (q ++ r') = _
        unfold escQ; rw [if_neg c0, if_neg c1, if_neg c2, if_neg c3, if_neg c4, if_neg c5, if_neg c6, if_neg c7, if_pos c8]; exact h2 r'⟩
    · rw [if_neg c8] at h; cases h
/-- a sign depends on its own bytes alone -/
theorem dec_loc {s : Bs} {c z : Nat} (h : decP s = some (c, z)) : (∀ r', decP (s.take z ++ r') = some (c, z)) ∧ (c < 128 → z = 1 ∧ ∃ a t, s = a :: t ∧ a.toNat = c) := by
  cases s with
  | nil => cases h
  | cons a r =>
    have h : (if a.toNat < 128 then some (a.toNat, 1) else decQ a.toNat r) = some (c, z) := h
    by_cases ha : a.toNat < 128
    · rw [if_pos ha] at h
      injection h with h; injection h with h1 h2
      subst h1 h2
      exact ⟨fun r' => by show (if a.toNat < 128 then some (a.toNat, 1) else _) = _; rw [if_pos ha], fun _ => ⟨rfl, a, r, rfl, rfl⟩⟩
    · rw [if_neg ha] at h
      have key : ∀ t, decQ a.toNat t = some (c, z) → (a :: r).take z = a :: t.take (z - 1) → True := fun _ _ _ => trivial
      unfold decQ at h
      split at h
      · cases h
      · rename_i z0 lo hi hc
        split at h
        · cases h
        · rename_i b1 r1 _
          split at h
          · cases h
          · rename_i hb1
            split at h
            · rename_i hz
              injection h with h; injection h with h1 h2
              subst h2
              refine ⟨fun r' => ?_, fun hlt => ?_⟩
              · show (if a.toNat < 128 then _ else decQ a.toNat (b1 :: r')) = _
                rw [if_neg ha]; unfold decQ; rw [hc]; dsimp only; rw [if_neg hb1, if_pos hz, h1]
              · exfalso; unfold clsP at hc; repeat' split at hc
                all_goals (first | (cases hc; done) | (injection hc with hc; injection hc with k1 hc; injection hc with k2 k3; omega))
            · rename_i hz
              split at h
              · cases h
              · rename_i b2 r2 _
                split at h
                · cases h
                · rename_i hb2
                  split at h
                  · rename_i hz3
                    injection h with h; injection h with h1 h2
                    subst h2
                    refine ⟨fun r' => ?_, fun hlt => ?_⟩
                    · show (if a.toNat < 128 then _ else decQ a.toNat (b1 :: b2 :: r')) = _
                      rw [if_neg ha]; unfold decQ; rw [hc]; dsimp only; rw [if_neg hb1, if_neg hz, if_neg hb2, if_pos hz3, h1]
                    · exfalso; unfold clsP at hc; repeat' split at hc
                      all_goals (first | (cases hc; done) | (injection hc with hc; injection hc with k1 hc; injection hc with k2 k3; omega))
                  · rename_i hz3
                    split at h
                    · cases h
                    · rename_i b3 r3 _
                      split at h
                      · cases h
                      · rename_i hb3
                        injection h with h; injection h with h1 h2
                        subst h2
                        refine ⟨fun r' => ?_, fun hlt => ?_⟩
                        · show (if a.toNat < 128 then _ else decQ a.toNat (b1 :: b2 :: b3 :: r')) = _
                          rw [if_neg ha]; unfold decQ; rw [hc]; dsimp only; rw [if_neg hb1, if_neg hz, if_neg hb2, if_neg hz3, if_neg hb3, h1]
                        · exfalso; unfold clsP at hc; repeat' split at hc
                          all_goals (first | (cases hc; done) | (injection hc with hc; injection hc with k1 hc; injection hc with k2 k3; omega))
theorem app_some {l : Bs} {o : Option (Bs × Bs)} {x r : Bs} (h : app l o = some (x, r)) : ∃ y, o = some (y, r) ∧ x = l ++ y := by
  cases o with
  | none => cases h
  | some p => injection h with h; injection h with h1 h2; exact ⟨p.1, by rw [← h2], h1.symm⟩
theorem txt_loc : ∀ (n : Nat) (s l r : Bs), txtF n s = some (l, r) → ∃ q, s = q ++ r ∧ NB q ∧ ∀ m r', (q ++ r').length < m → txtF m (q ++ r') = some (l, r') := by
  intro n
  induction n with
  | zero => intro s l r h; cases h
  | succ n ih =>
    intro s l r h
    unfold txtF at h
    split at h
    · cases h
    · rename_i c z hd
      obtain ⟨hloc, hsm⟩ := dec_loc hd
      obtain ⟨_, hz1, hzl, _⟩ := decP_in hd
      have htl : (s.take z).length = z := by rw [List.length_take]; omega
      have hdrop : ∀ X : Bs, (s.take z ++ X).drop z = X := fun X => by rw [List.drop_append_of_le_length (by omega), List.drop_of_length_le (by omega)]; rfl
      have hsz : s = s.take z ++ s.drop z := (List.take_append_drop z s).symm
      split at h
      · cases h
      · rename_i c32
        split at h
        · rename_i c34
          injection h with h; injection h with h1 h2
          obtain ⟨rfl, a, t, rfl, ha⟩ := hsm (by omega)
          have ha : a = 34 := UInt8.toNat_inj.1 (by rw [ha, c34]; rfl)
          subst ha
          refine ⟨[34], by rw [← h2]; rfl, ⟨[], 34, rfl, by decide⟩, fun m r' hm => ?_⟩
          cases m with
          | zero => omega
          | succ m =>
            unfold txtF
            rw [show decP ([34] ++ r') = some (c, 1) from hloc r']
            dsimp only
            rw [if_neg c32, if_pos c34, ← h1]; rfl
        · rename_i c34
          split at h
          · rename_i c92
            split at h
            · cases h
            · rename_i e t he
              obtain ⟨y, h1, rfl⟩ := app_some h
              obtain ⟨q1, g1, g2⟩ := esc_loc _ _ _ he
              obtain ⟨q2, g3, g4, g5⟩ := ih _ _ _ h1
              refine ⟨s.take z ++ (q1 ++ q2), by rw [List.append_assoc, List.append_assoc, ← g3, ← g1]; exact hsz, (g4.app q1).app _, fun m r' hm => ?_⟩
              cases m with
              | zero => omega
              | succ m =>
                unfold txtF
                rw [List.append_assoc, hloc]
                dsimp only
                rw [if_neg c32, if_neg c34, if_pos c92, hdrop, List.append_assoc, g2]
                dsimp only
                rw [g5 m r' (by simp only [List.length_append] at hm ⊢; omega)]; rfl
          · rename_i c92
            obtain ⟨y, h1, rfl⟩ := app_some h
            obtain ⟨q2, g3, g4, g5⟩ := ih _ _ _ h1
            refine ⟨s.take z ++ q2, by rw [List.append_assoc, ← g3]; exact hsz, g4.app _, fun m r' hm => ?_⟩
            cases m with
            | zero => omega
            | succ m =>
              unfold txtF
              rw [List.append_assoc, hloc]
              dsimp only
              rw [if_neg c32, if_neg c34, if_neg c92, hdrop, g5 m r' (by simp only [List.length_append] at hm ⊢; omega)]; rfl
theorem text_loc (s l r : Bs) (h : textP s = some (l, r)) : ∃ q, s = q ++ r ∧ NB q ∧ ∀ r', textP (q ++ r') = some (l, r') := by
  unfold textP at h
  split at h
  · cases h
  · rename_i t ht
    obtain rfl := pre_some _ _ _ ht
    obtain ⟨q, h1, h2, h3⟩ := txt_loc _ _ _ _ h
    refine ⟨[34] ++ q, by rw [h1]; simp, h2.app _, fun r' => ?_⟩
    unfold textP
    rw [List.append_assoc, pre_app]
    exact h3 _ r' (by omega)
theorem num_loc (s : Bs) (i : Int) (r : Bs) (h : numP s = some (i, r)) : hd r = false ∧ ∃ q, s = q ++ r ∧ NB q ∧ ∀ r', hd r' = false → numP (q ++ r') = some (i, r') := by
  have hdr : ∀ u : Bs, hd (u.dropWhile isDig) = false := fun u => by
    induction u with
    | nil => rfl
    | cons c u ih =>
      by_cases hc : isDig c = true
      · rw [List.dropWhile_cons_of_pos hc]; exact ih
      · rw [List.dropWhile_cons_of_neg hc]; simpa [hd] using hc
  have key : ∀ m s1, numQ m s1 = some (i, r) → hd r = false ∧ ∃ q, s1 = q ++ r ∧ NB q ∧ ∀ r', hd r' = false → numQ m (q ++ r') = some (i, r') := fun m s1 h => by
    unfold numQ at h
    split at h
    · cases h
    · rename_i hc
      injection h with h; injection h with h1 h2
      have hsp : s1 = s1.takeWhile isDig ++ s1.dropWhile isDig := (List.takeWhile_append_dropWhile).symm
      have hall : (s1.takeWhile isDig).all isDig = true := List.all_takeWhile
      refine ⟨by rw [← h2]; exact hdr _, s1.takeWhile isDig, by rw [← h2]; exact hsp, ?_, fun r' hr => ?_⟩
      · have hne : s1.takeWhile isDig ≠ [] := fun e => hc (.inl e)
        refine ⟨(s1.takeWhile isDig).dropLast, (s1.takeWhile isDig).getLast hne, (List.dropLast_concat_getLast hne).symm, ?_⟩
        have := List.all_eq_true.1 hall _ (List.getLast_mem hne)
        simp only [isDig, Bool.and_eq_true, decide_eq_true_eq] at this
        generalize (s1.takeWhile isDig).getLast hne = c at this
        have n32 : ¬ c = 32 := fun e => by subst e; exact absurd this.1 (by decide)
        have n9 : ¬ c = 9 := fun e => by subst e; exact absurd this.1 (by decide)
        have n10 : ¬ c = 10 := fun e => by subst e; exact absurd this.1 (by decide)
        have n13 : ¬ c = 13 := fun e => by subst e; exact absurd this.1 (by decide)
        simp [blk, n32, n9, n10, n13]
      · obtain ⟨e1, e2⟩ := span_dig _ r' _ rfl hall hr
        unfold numQ
        rw [e1, e2, if_neg hc, h1]
  unfold numP at h
  by_cases h45 : (s.head? == some 45) = true
  · rw [h45, if_pos rfl] at h
    obtain ⟨h0, q, h1, h2, h3⟩ := key _ _ h
    have hs : s = 45 :: s.tail := by
      cases s with
      | nil => simp at h45
      | cons c t => simp at h45; rw [h45]; rfl
    refine ⟨h0, 45 :: q, by rw [hs, h1]; rfl, h2.app [45], fun r' hr => ?_⟩
    unfold numP
    have e1 : ((45 :: q ++ r').head? == some 45) = true := by simp
    rw [e1, if_pos rfl]
    exact h3 r' hr
  · have h45' : (s.head? == some 45) = false := by simpa using h45
    rw [h45', if_neg (by decide)] at h
    obtain ⟨h0, q, h1, h2, h3⟩ := key _ _ h
    refine ⟨h0, q, h1, h2, fun r' hr => ?_⟩
    unfold numP
    have e1 : ((q ++ r').head? == some 45) = false := by
      obtain ⟨q', c, rfl, _⟩ := h2
      rw [← h45', h1]
      cases q' <;> simp
    rw [e1, if_neg (by decide)]
    exact h3 r' hr

theorem ws_blk {w : Bs} (hw : w.all blk = true) (x : Bs) : ws (w ++ x) = ws x := by
  induction w with
  | nil => rfl
  | cons c w ih =>
    simp only [List.all_cons, Bool.and_eq_true] at hw
    rw [List.cons_append, ws, if_pos hw.1]; exact ih hw.2
theorem ws_split (u : Bs) : ∃ w, w.all blk = true ∧ u = w ++ ws u := by
  induction u with
  | nil => exact ⟨[], rfl, rfl⟩
  | cons c u ih =>
    by_cases h : blk c = true
    · obtain ⟨w, h1, h2⟩ := ih
      refine ⟨c :: w, by rw [List.all_cons, h, h1]; rfl, ?_⟩
      rw [ws, if_pos h, List.cons_append, ← h2]
    · exact ⟨[], rfl, by rw [ws, if_neg h]; rfl⟩
theorem ws_head {u t : Bs} {c : UInt8} (h : ws u = c :: t) : blk c = false := by
  induction u with
  | nil => cases h
  | cons d u ih =>
    unfold ws at h
    split at h
    · exact ih h
    · rename_i hd; injection h with h1 h2; rw [← h1]; simpa using hd
theorem ws_non {c : UInt8} (h : blk c = false) (t : Bs) : ws (c :: t) = c :: t := by rw [ws, if_neg (by rw [h]; decide)]
theorem ws_all {w : Bs} (hw : w.all blk = true) : ws w = [] := by rw [← List.append_nil w, ws_blk hw]; rfl
theorem ws_nil {u : Bs} (h : ws u = []) : u.all blk = true := by
  obtain ⟨w, h1, h2⟩ := ws_split u
  rw [h, List.append_nil] at h2
  rw [h2]; exact h1
theorem ws_keep {s q t : Bs} (h : ws s = q ++ t) (hq : q ≠ []) : ∃ w, w.all blk = true ∧ s = w ++ (q ++ t) ∧ ∀ X, ws (w ++ (q ++ X)) = q ++ X := by
  obtain ⟨w, h1, h2⟩ := ws_split s
  refine ⟨w, h1, by rw [← h]; exact h2, fun X => ?_⟩
  cases q with
  | nil => exact absurd rfl hq
  | cons c q =>
    rw [ws_blk h1, List.cons_append]
    exact ws_non (ws_head h) _
theorem NB.ne {q : Bs} (h : NB q) : q ≠ [] := by obtain ⟨q', c, rfl, _⟩ := h; simp
theorem eat_some {c : UInt8} {u : Bs} (h : (eatP c u).1 = true) : ∃ w, w.all blk = true ∧ u = w ++ c :: (eatP c u).2 ∧ blk c = false := by
  obtain ⟨w, h1, h2⟩ := ws_split u
  cases hx : ws u with
  | nil => rw [eat_nil hx] at h; cases h
  | cons x t =>
    by_cases hc : x = c
    · subst hc
      rw [eat_yes hx]
      exact ⟨w, h1, by rw [← hx]; exact h2, ws_head hx⟩
    · rw [eat_no hx hc] at h; cases h
theorem eat_mk {c : UInt8} {w : Bs} (hw : w.all blk = true) (hc : blk c = false) (r : Bs) : eatP c (w ++ c :: r) = (true, r) := eat_yes (by rw [ws_blk hw, ws_non hc])
theorem eat_mkn {c d : UInt8} {w : Bs} (hw : w.all blk = true) (hd : blk d = false) (hcd : ¬ d = c) (r : Bs) : eatP c (w ++ d :: r) = (false, d :: r) := eat_no (by rw [ws_blk hw, ws_non hd]) hcd
theorem eat_f {c : UInt8} {u : Bs} (h : ¬ (eatP c u).1 = true) : (eatP c u).2 = ws u ∧ ∀ x t, ws u = x :: t → ¬ x = c := by
  cases hx : ws u with
  | nil => rw [eat_nil hx]; exact ⟨rfl, fun x t h => by cases h⟩
  | cons x t =>
    by_cases hc : x = c
    · subst hc; rw [eat_yes hx] at h; exact absurd rfl h
    · rw [eat_no hx hc]; exact ⟨rfl, fun y v e => by injection e with e1 e2; rw [← e1]; exact hc⟩
theorem eat_two {c d : UInt8} {u : Bs} (h : ¬ (eatP c u).1 = true) (h2 : (eatP d (eatP c u).2).1 = true) : ∃ w, w.all blk = true ∧ u = w ++ d :: (eatP d (eatP c u).2).2 ∧ blk d = false ∧ ¬ d = c := by
  obtain ⟨e1, e2⟩ := eat_f h
  rw [e1] at h2 ⊢
  obtain ⟨w, h1, h3⟩ := ws_split u
  cases hx : ws u with
  | nil => rw [hx, show eatP d [] = (false, []) from rfl] at h2; cases h2
  | cons x t =>
    have hb := ws_head hx
    rw [hx] at h2 h3
    have hw : ws (x :: t) = x :: t := ws_non hb t
    by_cases hc : x = d
    · subst hc
      rw [eat_yes hw]
      exact ⟨w, h1, h3, hb, e2 x t hx⟩
    · rw [eat_no hw hc] at h2; cases h2
theorem hd_blk {w : Bs} (hw : w.all blk = true) {d : UInt8} (hd' : isDig d = false) (r : Bs) : hd (w ++ d :: r) = false := by
  cases w with
  | nil => exact hd'
  | cons c w =>
    simp only [List.all_cons, Bool.and_eq_true] at hw
    have := hw.1
    show isDig c = false
    unfold blk at this
    simp only [Bool.or_eq_true, beq_iff_eq] at this
    rcases this with ((rfl | rfl) | rfl) | rfl <;> decide
/-- a function that reads a value reads by what it passes over -/
def LocV (V : Bs → Option (JV × Bs)) : Prop := ∀ u j r, V u = some (j, r) → (j.kd = 2 → hd r = false) ∧ ∃ q, u = q ++ r ∧ NB q ∧ ∀ r', (j.kd = 2 → hd r' = false) → V (q ++ r') = some (j, r')
theorem nbW {w : Bs} {c : UInt8} (hc : blk c = false) : NB (w ++ [c]) := ⟨w, c, rfl, hc⟩
theorem itm_loc {V : Bs → Option (JV × Bs)} (hV : LocV V) : ∀ (n : Nat) (s : Bs) (l : List JV) (r : Bs), itmG V n s = some (l, r) → ∃ q, s = q ++ r ∧ NB q ∧ ∀ m r', (q ++ r').length < m → itmG V m (q ++ r') = some (l, r') := by
  intro n
  induction n with
  | zero => intro s l r h; cases h
  | succ n ih =>
    intro s l r h
    unfold itmG at h
    split at h
    · cases h
    · rename_i j t hj
      obtain ⟨_, q1, rfl, hn1, hv⟩ := hV _ _ _ hj
      split at h
      · rename_i he
        injection h with h; injection h with h1 h2
        obtain ⟨w, hw, ht, hb⟩ := eat_some he
        rw [h2] at ht
        refine ⟨q1 ++ (w ++ [93]), by rw [ht]; simp, (nbW hb).app _, fun m r' hm => ?_⟩
        cases m with
        | zero => omega
        | succ m =>
          unfold itmG
          rw [show q1 ++ (w ++ [93]) ++ r' = q1 ++ (w ++ 93 :: r') by simp, hv _ fun _ => hd_blk hw (by decide) _]
          dsimp only
          rw [eat_mk hw hb, if_pos rfl, ← h1]
      · rename_i he
        split at h
        · rename_i he2
          obtain ⟨w, hw, ht, hb, _⟩ := eat_two he he2
          rw [Option.map_eq_some_iff] at h
          obtain ⟨p, hp, h3⟩ := h
          injection h3 with h4 h5
          obtain ⟨q2, g1, g2, g3⟩ := ih _ p.1 p.2 hp
          rw [g1, h5] at ht
          refine ⟨q1 ++ (w ++ 44 :: q2), by rw [ht]; simp, by
            have e : q1 ++ (w ++ 44 :: q2) = (q1 ++ (w ++ [44])) ++ q2 := by simp
            rw [e]; exact g2.app _, fun m r' hm => ?_⟩
          cases m with
          | zero => omega
          | succ m =>
            unfold itmG
            rw [show q1 ++ (w ++ 44 :: q2) ++ r' = q1 ++ (w ++ 44 :: (q2 ++ r')) by simp, hv _ fun _ => hd_blk hw (by decide) _]
            dsimp only
            rw [eat_mkn hw hb (by decide)]
            dsimp only
            rw [if_neg (by decide), eat_yes (ws_non hb _)]
            dsimp only
            rw [if_pos rfl, g3 m r' (by simp only [List.length_append, List.length_cons] at hm ⊢; omega), ← h4]; rfl
        · cases h
theorem lst_loc {V : Bs → Option (JV × Bs)} (hV : LocV V) : LocV (lstG V) := by
  intro u j r h
  unfold lstG at h
  rw [Option.map_eq_some_iff] at h
  obtain ⟨p, hp, h3⟩ := h
  injection h3 with h4 h5
  subst h4
  refine ⟨fun h => absurd h (by show ¬ (4 : Int) = 2; decide), ?_⟩
  split at hp
  · rename_i he
    obtain ⟨w, hw, ht, hb⟩ := eat_some he
    injection hp with hp
    have e1 : p.1 = [] := by rw [← hp]
    have e2 : (eatP 93 u).2 = r := by rw [← h5, ← hp]
    rw [e2] at ht
    refine ⟨w ++ [93], by rw [ht]; simp, nbW hb, fun r' _ => ?_⟩
    unfold lstG
    rw [show w ++ [93] ++ r' = w ++ 93 :: r' by simp, eat_mk hw hb, if_pos rfl, e1]; rfl
  · rename_i he
    obtain ⟨e1, e2⟩ := eat_f he
    rw [e1] at hp
    obtain ⟨q, g1, g2, g3⟩ := itm_loc hV _ _ p.1 p.2 hp
    rw [h5] at g1
    obtain ⟨w, hw, hu, hk⟩ := ws_keep g1 g2.ne
    refine ⟨w ++ q, by rw [hu]; simp, g2.app w, fun r' _ => ?_⟩
    have hf : eatP 93 (w ++ (q ++ r')) = (false, q ++ r') := by
      cases q with
      | nil => exact absurd rfl g2.ne
      | cons c q => exact eat_no (hk r') (e2 c _ g1)
    unfold lstG
    rw [List.append_assoc, hf]
    dsimp only
    rw [if_neg (by decide), g3 _ r' (by omega)]; rfl
theorem one_loc {V : Bs → Option (JV × Bs)} (hV : LocV V) (seen : List Bs) (s : Bs) (name : Bs) (j : JV) (u : Bs) (h : onePr V seen s = some (name, j, u)) : ∃ q, s = q ++ u ∧ NB q ∧ ∀ r', (j.kd = 2 → hd r' = false) → onePr V seen (q ++ r') = some (name, j, r') := by
  unfold onePr at h
  split at h
  · cases h
  · rename_i nm t ht
    obtain ⟨q1, h1, n1, h2⟩ := text_loc _ _ _ ht
    split at h
    · cases h
    · rename_i hs
      split at h
      · rename_i he
        obtain ⟨w, hw, ht, hb⟩ := eat_some he
        rw [Option.map_eq_some_iff] at h
        obtain ⟨p, hp, h3⟩ := h
        injection h3 with h4 h5
        injection h5 with h6 h7
        subst h4
        have hp : V (eatP 58 t).2 = some (j, u) := by rw [hp, ← h6, ← h7]
        obtain ⟨_, q2, g1, g2, g3⟩ := hV _ _ _ hp
        rw [g1] at ht
        obtain ⟨w0, hw0, hs0, hk⟩ := ws_keep h1 n1.ne
        refine ⟨w0 ++ (q1 ++ (w ++ 58 :: q2)), by rw [hs0, ht]; simp, by
          have e : w0 ++ (q1 ++ (w ++ 58 :: q2)) = (w0 ++ (q1 ++ (w ++ [58]))) ++ q2 := by simp
          rw [e]; exact g2.app _, fun r' hr => ?_⟩
        unfold onePr
        rw [show w0 ++ (q1 ++ (w ++ 58 :: q2)) ++ r' = w0 ++ (q1 ++ (w ++ 58 :: (q2 ++ r'))) by simp, hk, h2]
        dsimp only
        rw [if_neg hs, eat_mk hw hb]
        dsimp only
        rw [if_pos rfl, g3 r' hr]; rfl
      · cases h
theorem prs_loc {V : Bs → Option (JV × Bs)} (hV : LocV V) : ∀ (n : Nat) (seen : List Bs) (s : Bs) (l : List (Bs × JV)) (r : Bs), prsG V seen n s = some (l, r) → ∃ q, s = q ++ r ∧ NB q ∧ ∀ m r', (q ++ r').length < m → prsG V seen m (q ++ r') = some (l, r') := by
  intro n
  induction n with
  | zero => intro seen s l r h; cases h
  | succ n ih =>
    intro seen s l r h
    unfold prsG at h
    split at h
    · cases h
    · rename_i name j t hj
      obtain ⟨q1, rfl, hn1, hv⟩ := one_loc hV _ _ _ _ _ hj
      split at h
      · rename_i he
        injection h with h; injection h with h1 h2
        obtain ⟨w, hw, ht, hb⟩ := eat_some he
        rw [h2] at ht
        refine ⟨q1 ++ (w ++ [125]), by rw [ht]; simp, (nbW hb).app _, fun m r' hm => ?_⟩
        cases m with
        | zero => omega
        | succ m =>
          unfold prsG
          rw [show q1 ++ (w ++ [125]) ++ r' = q1 ++ (w ++ 125 :: r') by simp, hv _ fun _ => hd_blk hw (by decide) _]
          dsimp only
          rw [eat_mk hw hb, if_pos rfl, ← h1]
      · rename_i he
        split at h
        · rename_i he2
          obtain ⟨w, hw, ht, hb, _⟩ := eat_two he he2
          rw [Option.map_eq_some_iff] at h
          obtain ⟨p, hp, h3⟩ := h
          injection h3 with h4 h5
          obtain ⟨q2, g1, g2, g3⟩ := ih _ _ p.1 p.2 hp
          rw [g1, h5] at ht
          refine ⟨q1 ++ (w ++ 44 :: q2), by rw [ht]; simp, by
            have e : q1 ++ (w ++ 44 :: q2) = (q1 ++ (w ++ [44])) ++ q2 := by simp
            rw [e]; exact g2.app _, fun m r' hm => ?_⟩
          cases m with
          | zero => omega
          | succ m =>
            unfold prsG
            rw [show q1 ++ (w ++ 44 :: q2) ++ r' = q1 ++ (w ++ 44 :: (q2 ++ r')) by simp, hv _ fun _ => hd_blk hw (by decide) _]
            dsimp only
            rw [eat_mkn hw hb (by decide)]
            dsimp only
            rw [if_neg (by decide), eat_yes (ws_non hb _)]
            dsimp only
            rw [if_pos rfl, g3 m r' (by simp only [List.length_append, List.length_cons] at hm ⊢; omega), ← h4]; rfl
        · cases h
theorem obj_loc {V : Bs → Option (JV × Bs)} (hV : LocV V) : LocV (objG V) := by
  intro u j r h
  unfold objG at h
  rw [Option.map_eq_some_iff] at h
  obtain ⟨p, hp, h3⟩ := h
  injection h3 with h4 h5
  subst h4
  refine ⟨fun h => absurd h (by show ¬ (5 : Int) = 2; decide), ?_⟩
  split at hp
  · rename_i he
    obtain ⟨w, hw, ht, hb⟩ := eat_some he
    injection hp with hp
    have e1 : p.1 = [] := by rw [← hp]
    have e2 : (eatP 125 u).2 = r := by rw [← h5, ← hp]
    rw [e2] at ht
    refine ⟨w ++ [125], by rw [ht]; simp, nbW hb, fun r' _ => ?_⟩
    unfold objG
    rw [show w ++ [125] ++ r' = w ++ 125 :: r' by simp, eat_mk hw hb, if_pos rfl, e1]; rfl
  · rename_i he
    obtain ⟨e1, e2⟩ := eat_f he
    rw [e1] at hp
    obtain ⟨q, g1, g2, g3⟩ := prs_loc hV _ _ _ p.1 p.2 hp
    rw [h5] at g1
    obtain ⟨w, hw, hu, hk⟩ := ws_keep g1 g2.ne
    refine ⟨w ++ q, by rw [hu]; simp, g2.app w, fun r' _ => ?_⟩
    have hf : eatP 125 (w ++ (q ++ r')) = (false, q ++ r') := by
      cases q with
      | nil => exact absurd rfl g2.ne
      | cons c q => exact eat_no (hk r') (e2 c _ g1)
    unfold objG
    rw [List.append_assoc, hf]
    dsimp only
    rw [if_neg (by decide), g3 _ r' (by omega)]; rfl
theorem val_loc {ls os : Bs → Option (JV × Bs)} (hl : LocV ls) (ho : LocV os) : LocV (valS ls os) := by
  intro u j r h
  unfold valS at h
  split at h
  · cases h
  · rename_i c t hc
    have hbc := ws_head hc
    -- what the reading behind the first sign gives
    have key : (j.kd = 2 → hd r = false) ∧ ∃ q, c :: t = c :: q ++ r ∧ NB (c :: q) ∧ ∀ r', (j.kd = 2 → hd r' = false) → valT ls os c (q ++ r') = some (j, r') := by
      unfold valT at h ⊢
      have word : ∀ (p : Bs) (x : JV), x.kd ≠ 2 → NB p → p.head? = some c → (pre p (c :: t)).map (fun v => (x, v)) = some (j, r) → (j.kd = 2 → hd r = false) ∧ ∃ q, c :: t = c :: q ++ r ∧ NB (c :: q) ∧ ∀ r', (j.kd = 2 → hd r' = false) → (pre p (c :: (q ++ r'))).map (fun v => (x, v)) = some (j, r') := fun p x hx hn hh e => by
        rw [Option.map_eq_some_iff] at e
        obtain ⟨v, hv, e2⟩ := e
        injection e2 with e3 e4
        subst e3 e4
        obtain rfl | ⟨q, rfl⟩ : p = [] ∨ ∃ q, p = c :: q := by
          cases p with
          | nil => exact .inl rfl
          | cons d q => injection hh with hh; subst hh; exact .inr ⟨q, rfl⟩
        · cases hh
        · refine ⟨fun h => absurd h hx, q, pre_some _ _ _ hv, hn, fun r' _ => ?_⟩
          rw [show c :: (q ++ r') = (c :: q) ++ r' from rfl, pre_app]; rfl
      split at h
      · rename_i h0; simp only [if_pos h0]; exact word _ _ (by show ¬ (0 : Int) = 2; decide) ⟨[110, 117, 108], 108, rfl, by decide⟩ (by rw [h0]; rfl) h
      · rename_i h0; simp only [if_neg h0]
        split at h
        · rename_i h1; simp only [if_pos h1]; exact word _ _ (by show ¬ (1 : Int) = 2; decide) ⟨[116, 114, 117], 101, rfl, by decide⟩ (by rw [h1]; rfl) h
        · rename_i h1; simp only [if_neg h1]
          split at h
          · rename_i h2; simp only [if_pos h2]; exact word _ _ (by show ¬ (1 : Int) = 2; decide) ⟨[102, 97, 108, 115], 101, rfl, by decide⟩ (by rw [h2]; rfl) h
          · rename_i h2; simp only [if_neg h2]
            split at h
            · rename_i h3; simp only [if_pos h3]
              rw [Option.map_eq_some_iff] at h
              obtain ⟨p, hp, h4⟩ := h
              injection h4 with h5 h6
              subst h5
              obtain ⟨q, g1, g2, g3⟩ := text_loc _ p.1 p.2 hp
              rw [h6] at g1
              cases q with
              | nil => exact absurd rfl g2.ne
              | cons d q =>
                obtain ⟨e1, e2⟩ := List.cons.inj g1
                subst e1
                exact ⟨fun h => absurd h (by show ¬ (3 : Int) = 2; decide), q, g1, g2, fun r' _ => by rw [show c :: (q ++ r') = (c :: q) ++ r' from rfl, g3]; rfl⟩
            · rename_i h3; simp only [if_neg h3]
              split at h
              · rename_i h4; simp only [if_pos h4]
                obtain ⟨k1, q, g1, g2, g3⟩ := hl _ _ _ h
                exact ⟨k1, q, by rw [g1]; rfl, g2.app [c], g3⟩
              · rename_i h4; simp only [if_neg h4]
                split at h
                · rename_i h5; simp only [if_pos h5]
                  obtain ⟨k1, q, g1, g2, g3⟩ := ho _ _ _ h
                  exact ⟨k1, q, by rw [g1]; rfl, g2.app [c], g3⟩
                · rename_i h5; simp only [if_neg h5]
                  rw [Option.map_eq_some_iff] at h
                  obtain ⟨p, hp, h4⟩ := h
                  injection h4 with h5 h6
                  subst h5
                  obtain ⟨k1, q, g1, g2, g3⟩ := num_loc _ p.1 p.2 hp
                  rw [h6] at g1 k1
                  cases q with
                  | nil => exact absurd rfl g2.ne
                  | cons d q =>
                    obtain ⟨e1, e2⟩ := List.cons.inj g1
                    subst e1
                    exact ⟨fun _ => k1, q, g1, g2, fun r' hr => by rw [show c :: (q ++ r') = (c :: q) ++ r' from rfl, g3 _ (hr rfl)]; rfl⟩
    obtain ⟨k1, q, g1, g2, g3⟩ := key
    rw [g1] at hc
    obtain ⟨w, hw, hu, hk⟩ := ws_keep hc g2.ne
    refine ⟨k1, w ++ (c :: q), by rw [hu]; simp, g2.app w, fun r' hr => ?_⟩
    unfold valS
    rw [List.append_assoc, hk]
    exact g3 r' hr
theorem jvD_loc : ∀ n, LocV (jvD n) := by
  intro n
  induction n with
  | zero => exact val_loc (fun u j r h => by cases h) (fun u j r h => by cases h)
  | succ n ih => exact val_loc (lst_loc ih) (obj_loc ih)
theorem jvD_ws (n : Nat) {w : Bs} (hw : w.all blk = true) (x : Bs) : jvD n (w ++ x) = jvD n x := by
  cases n <;> (show valS _ _ _ = valS _ _ _; unfold valS; rw [ws_blk hw])
theorem hd_app {a b : Bs} (h : hd (a ++ b) = false) (hb : hd b = false) : hd a = false := by cases a with
  | nil => rfl
  | cons c a => exact h
/-- blanks around a text don't matter -/
theorem parse_blanks {w v : Bs} (hw : w.all blk = true) (hv : v.all blk = true) (b : Bs) : parseP (w ++ b ++ v) = parseP b := by
  have hhv : hd v = false := by
    cases v with
    | nil => rfl
    | cons c v => have := hd_blk (w := [c]) (by simpa using (by simpa using hv : blk c = true ∧ _).1) (d := 93) (by decide) []; exact this
  unfold parseP
  rw [List.append_assoc, jvD_ws 8 hw]
  cases h : jvD 8 (b ++ v) with
  | none =>
    cases h2 : jvD 8 b with
    | none => rfl
    | some p =>
      obtain ⟨j, r⟩ := p
      obtain ⟨k1, q, g1, g2, g3⟩ := jvD_loc 8 _ _ _ h2
      have := g3 (r ++ v) fun e2 => by
        cases r with
        | nil => exact hhv
        | cons c r => exact k1 e2
      rw [← List.append_assoc, ← g1, h] at this; cases this
  | some p =>
    obtain ⟨j, r⟩ := p
    obtain ⟨k1, q, g1, g2, g3⟩ := jvD_loc 8 _ _ _ h
    -- what is passed over lies in the text
    obtain ⟨r0, hr0, hb⟩ : ∃ r0, r = r0 ++ v ∧ b = q ++ r0 := by
      rcases List.append_eq_append_iff.1 g1 with ⟨a, ha, hc⟩ | ⟨a, ha, hc⟩
      · cases a with
        | nil => exact ⟨[], by simpa using hc.symm, by simpa using ha.symm⟩
        | cons x a =>
          exfalso
          obtain ⟨q', c, e, hc2⟩ := g2
          have hm : c ∈ v := by
            rw [hc]
            have : c ∈ x :: a := by
              have e2 : (b ++ x :: a).getLast? = (q' ++ [c]).getLast? := by rw [← ha, e]
              rw [List.getLast?_append, List.getLast?_concat] at e2
              have e3 : (x :: a).getLast? = some c := by
                cases hl : (x :: a).getLast? with
                | none => simp at hl
                | some y => rw [hl] at e2; simpa using e2
              exact List.mem_of_getLast? e3
            exact List.mem_append_left _ this
          have := List.all_eq_true.1 hv c hm
          rw [hc2] at this; cases this
      · exact ⟨a, hc, ha⟩
    have := g3 r0 fun h2 => hd_app (by rw [← hr0]; exact k1 h2) hhv
    rw [← hb] at this
    rw [this]
    dsimp only
    rw [hr0]
    by_cases hz : ws r0 = []
    · rw [if_pos hz, ws_all (by rw [List.all_append, ws_nil hz, hv]; rfl), if_pos rfl]
    · rw [if_neg hz, if_neg]
      intro e
      have := ws_nil e
      rw [List.all_append, Bool.and_eq_true] at this
      exact hz (ws_all this.1)
/-- a list's or an object's text has no beginning that is a text -/
theorem parse_cut {b p s : Bs} {j : JV} (hb : b = p ++ s) (h : parseP b = some j) (hk : 4 ≤ j.kd) (hs : ¬ s.all blk = true) : parseP p = none := by
  cases h2 : parseP p with
  | none => rfl
  | some j' =>
    exfalso
    unfold parseP at h h2
    split at h
    · cases h
    · rename_i jj u hu
      split at h
      · rename_i hz
        injection h with h; subst h
        split at h2
        · cases h2
        · rename_i j2 r hr
          obtain ⟨k1, q, g1, g2, g3⟩ := jvD_loc 8 _ _ _ hr
          have first : j2.kd = 2 → False := fun e2 => by
            -- both begin with the same sign
            have hv : ∀ (x : Bs) (y : JV) (z : Bs), jvD 8 x = some (y, z) → ∃ c t, ws x = c :: t ∧ (y.kd = 2 ↔ ¬ (c = 110 ∨ c = 116 ∨ c = 102 ∨ c = 34 ∨ c = 91 ∨ c = 123)) := fun x y z e => by
              have e : valS (lstG (jvD 7)) (objG (jvD 7)) x = some (y, z) := e
              unfold valS at e
              split at e
              · cases e
              · rename_i c t hc
                refine ⟨c, t, hc, ?_⟩
                unfold valT at e
                have mp : ∀ {α : Type} {o : Option α} {f : α → JV × Bs} {k : Int}, (∀ a, (f a).1.kd = k) → o.map f = some (y, z) → y.kd = k := fun hf he => by
                  rw [Option.map_eq_some_iff] at he
                  obtain ⟨a, _, h3⟩ := he
                  rw [← hf a, h3]
                split at e
                · rename_i h0; have := mp (k := 0) (fun a => rfl) e; rw [this]; simp [h0]
                split at e
                · rename_i h0; have := mp (k := 1) (fun a => rfl) e; rw [this]; simp [h0]
                split at e
                · rename_i h0; have := mp (k := 1) (fun a => rfl) e; rw [this]; simp [h0]
                split at e
                · rename_i h0; have := mp (k := 3) (fun a => rfl) e; rw [this]; simp [h0]
                split at e
                · rename_i h0; have := mp (k := 4) (fun a => rfl) e; rw [this]; simp [h0]
                split at e
                · rename_i h0; have := mp (k := 5) (fun a => rfl) e; rw [this]; simp [h0]
                · have := mp (k := 2) (fun a => rfl) e; rw [this]; simp [*]
            obtain ⟨c, t, a1, a2⟩ := hv _ _ _ hr
            obtain ⟨c', t', a3, a4⟩ := hv _ _ _ hu
            obtain ⟨w, hw, hp, hkk⟩ := ws_keep (q := [c]) (t := t) (by rw [a1]; rfl) (by simp)
            have : ws b = c :: (t ++ s) := by
              rw [hb, hp]
              have := hkk (t ++ s)
              simpa using this
            rw [a3] at this
            injection this with this _
            subst this
            have := a4.2 (a2.1 e2)
            omega
          have := g3 (r ++ s) fun e => (first e).elim
          rw [← List.append_assoc, ← g1, ← hb, hu] at this
          injection this with this
          injection this with _ this
          subst this
          have := ws_nil hz
          rw [List.all_append, Bool.and_eq_true] at this
          exact hs this.2
      · cases h
end Go.Proofs.YtpegkoklmhccjaaDoor
