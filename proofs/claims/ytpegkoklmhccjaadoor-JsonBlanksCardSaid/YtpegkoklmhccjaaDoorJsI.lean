/- Chapter 12: the reader: texts. -/
import Derived.Test.YtpegkoklmhccjaaDoorJsH
import Derived.Test.YtpegkoklmhccjaaDoorJsE
namespace Go.Proofs.YtpegkoklmhccjaaDoor
open Go.RowKit Go.Sx
set_option linter.unusedVariables false
theorem sigP_lt {s : Bs} {n : Nat} {t : Bs} (h : sigP s = some (n, t)) : n < 2147483648 := by
  unfold sigP at h
  split at h
  · cases h
  · rename_i m u hm
    have h4 := hex4_lt hm
    split at h
    · injection h with h; injection h with h1 h2; omega
    · split at h
      · cases h
      · split at h
        · cases h
        · split at h
          · cases h
          · rename_i l v hl
            have h5 := hex4_lt hl
            split at h
            · cases h
            · injection h with h; injection h with h1 h2; omega
theorem escP_lt {s : Bs} {n : Nat} {t : Bs} (h : escP s = some (n, t)) : n < 2147483648 := by
  cases s with
  | nil => cases h
  | cons c u =>
    replace h : escQ c u = some (n, t) := h
    unfold escQ at h
    repeat' split at h
    all_goals first
      | exact sigP_lt h
      | cases h; done
      | (injection h with h; injection h with h1 h2; omega)
def app (l : Bs) (o : Option (Bs × Bs)) : Option (Bs × Bs) := o.map fun p => (l ++ p.1, p.2)
theorem app_app (a b : Bs) (o : Option (Bs × Bs)) : app a (app b o) = app (a ++ b) o := by cases o <;> simp [app]
/-- what stands behind a text's first sign -/
def txtF : Nat → Bs → Option (Bs × Bs)
  | 0, _ => none
  | n + 1, s => match decP s with
    | none => none
    | some (c, z) => if c < 32 then none else if c = 34 then some ([], s.drop z) else if c = 92 then (match escP (s.drop z) with
      | none => none
      | some (e, t) => app (encP e) (txtF n t)) else app (encP c) (txtF n (s.drop z))
def textP (s : Bs) : Option (Bs × Bs) := match pre [34] s with
  | none => none
  | some t => txtF (t.length + 1) t
structure TxO where
  l : Bs
  t : Bs
  bad : Bool
def TxF (o : Option (Bs × Bs)) (s : Bs) (x : TxO) : Prop := x.t.length ≤ s.length ∧ ((o = none ∧ x.l = [] ∧ x.bad = true) ∨ (o = some (x.l, x.t) ∧ x.bad = false))
structure TxI where
  n : Nat
  l : Bs
  r : Sx.Own
  p : Value
  t : Bs
  bad : Bool
structure TxJ (s : Bs) (b3 : Nat) (x : TxI) : Prop where
  tl : x.t.length ≤ s.length
  ll : x.l.length + 4 * x.t.length ≤ 4 * s.length
  n : x.t.length < x.n
  R : Rw 1 x.l.length x.r (Lib.byteCells x.l)
  r0 : x.l = [] → x.r = none
  p : x.p = .pointer none ∨ x.p = ptr b3
  ok : (x.bad = true ∧ textP s = none) ∨ (x.bad = false ∧ textP s = app x.l (txtF x.n x.t))
theorem encP_ne (c : Nat) : encP c ≠ [] := fun h => by have := (encP_len c).1; rw [h] at this; exact absurd this (by decide)
section
variable {C : Cx} {L : List Ent}
theorem cUs (k : Nat) {g : FuncId} {vs : List Value} {α : Type} {Φ : α → Prop} {v : α → Value} {b : Nat} {c0 : Array Value} {c : α → Array Value} {t : TypeId} {next : Value → List Ent → Prop} (hk : L[k]? = some (cl b c0 t))
    (h : ∀ w, St C.M C.B w L → Calls C.P g vs.toArray w fun e w' => ∃ x, Φ x ∧ e = .returned (v x) ∧ Upd b (c x) t w w') (go : ∀ x, Φ x → next (v x) (L.set k (cl b (c x) t))) : CallP C g vs L next :=
  ⟨fun w hs => (h w hs).mono fun e w' ⟨x, hx, he, hu⟩ => ⟨_, _, he, hs.set hk hu.size hu.ok hu.old hu.os hu.tape hu.output, go x hx⟩⟩
theorem enterUs {P : Program} {T : Tab} (hT : TabOk P T) {g : FuncId} {fn : Func} {cd : Code} (hf : P.funcs[g]? = some fn) (hb : fn.body = some cd) {N : Nat} (hN : fn.ntmps = N) {vs : List Value} (hle : Nat.ble vs.length N = true) {w : World} {b : Nat} {α : Type} {Φ : α → Prop} {c : α → Array Value} {t : TypeId} {v : α → Value} {L : List Ent}
    (hw : St [bl b] w w L) (h : cx ⟨P, T, N, [bl b], w, none⟩ cd (retK ⟨P, T, N, [bl b], w, none⟩ fn fun u w' => ∃ x, Φ x ∧ u = v x ∧ Upd b (c x) t w w') ⟨par 0 vs, L, []⟩) : Calls P g vs.toArray w fun e w' => ∃ x, Φ x ∧ e = .returned (v x) ∧ Upd b (c x) t w w' :=
  (enter hT hf hb hN hle hw h).mono fun e w' ⟨u, he, x, hx, hu, h2⟩ => ⟨x, hx, by rw [he, hu], h2⟩
end
theorem Laid.ne {w : World} (h : Laid w) {b : Nat} {s : Bs} {bad : Bool} {d : Int} (hb : w.heap[b]? = some (.cells (rdC s bad d) TRd (0, 0))) : b ≠ 0 ∧ b ≠ 1 := by
  constructor
  · rintro rfl
    have := h.f 0 (by decide)
    simp [World.cell?, hb] at this
  · rintro rfl
    have := h.a 0 (by decide)
    simp [World.cell?, hb] at this
theorem St.rdL {w : World} {b : Nat} {s : Bs} {bad : Bool} {d : Int} (hb : w.heap[b]? = some (.cells (rdC s bad d) TRd (0, 0))) (h : Laid w) : St [bl b] w w [cl b (rdC s bad d) TRd, rs laidR] := by
  refine St.from w _ _ (fun e he => ?_) ?_
  · simp at he
    rcases he with rfl | rfl
    · exact ⟨by simpa using hb, fun k hk => by simp at hk; simp [hk]⟩
    · exact ⟨(rsOk laidR w).2 h, fun k hk => ((rsW laidR k).1 hk).elim⟩
  · have := h.ne hb
    refine .cons (fun e he => ?_) (.cons (by simp) .nil)
    obtain rfl : e = rs laidR := by simpa using he
    refine fun k => ⟨fun h1 h2 => ?_, fun h1 => ((rsW laidR k).1 h1).elim⟩
    simp at h1
    subst h1
    rcases (rsA laidR _).1 h2 with h2 | h2 | h2
    · exact h2
    · exact this.1 h2
    · exact this.2 h2
def txL (b : Nat) (d : Int) (b3 : Nat) (x : TxI) : List Ent := [cl b (rdC x.t x.bad d) TRd, rs laidR, cl b3 #[x.p, sv x.r x.l.length] TB, se x.r (Lib.byteCells x.l) 5]
section
variable {b : Nat} {s : Bs} {d : Int} {w : World}
set_option maxRecDepth 100000 in
theorem text_any (hl : s.length ≤ 100000) (h : w.heap[b]? = some (.cells (rdC s false d) TRd (0, 0))) (hw : Laid w) : Calls Tryd.prog 49 ([pj b] : List Value).toArray w fun e w' => ∃ x : TxO, TxF (textP s) s x ∧ e = .returned (sj x.l) ∧ Upd b (rdC x.t x.bad d) TRd w w' := by
  refine enterUs tab_ok Tryd.func49 rfl Tryd.ntmps49 rfl (St.rdL h hw) ?_
  obtain ⟨sA, bd, hc, hJ0⟩ : ∃ sA bd, (∀ w : World, w.heap[b]? = some (.cells (rdC s false d) TRd (0, 0)) → Calls Tryd.prog 45 ([pj b, sj [34]] : List Value).toArray w fun e w' => e = .returned (.tuple #[]) ∧ Upd b (rdC sA bd d) TRd w w') ∧ ∀ b3, TxJ s b3 ⟨sA.length + 1, [], none, .pointer none, sA, bd⟩ := by
    cases hp : pre [34] s with
    | none =>
      have hq0 : textP s = none := by unfold textP; rw [hp]
      exact ⟨s, true, fun w h => must_no [34] hp h, fun b3 => ⟨Nat.le_refl _, by simp, by simp, Rw.nil 1, fun _ => rfl, .inl rfl, .inl ⟨rfl, hq0⟩⟩⟩
    | some t =>
      have hq : textP s = txtF (t.length + 1) t := by unfold textP; rw [hp]
      have hle := pre_len _ _ _ hp
      exact ⟨t, false, fun w h => must_yes [34] hp h, fun b3 => ⟨hle, by simp; omega, by simp, Rw.nil 1, fun _ => rfl, .inl rfl, .inr ⟨rfl, by rw [hq]; cases txtF (t.length + 1) t <;> simp [app]⟩⟩⟩
  refine cU1 0 rfl hc ?_
  intro b3
  refine lp tab_ok (TxJ s b3) (fun x => ⟨[(0, pj b), (3, ptr b3)], txL b d b3 x, []⟩) (fun x => cond x.bad 0 (x.n + 1)) _ (hJ0 b3) ⟨⟨rfl, rfl, trivial⟩, .cons (.cons (.cons (.pad .nil))), rfl⟩ ?_
  rintro ⟨n, l, r, p, t, bad⟩ ⟨htl, hll, hn, hR, hr0, hp, hok⟩
  dsimp only at htl hll hn hR hr0 hp hok ⊢
  refine ld1 0 rfl (v := .bool bad) rfl ?_
  rcases hok with ⟨rfl, hq⟩ | ⟨rfl, hq⟩
  · refine cf rfl ?_
    exact rtUx (Φ := TxF (textP s) s) (⟨[], t, true⟩ : TxO) ⟨htl, .inl ⟨hq, rfl, rfl⟩⟩ rfl
  · refine ct rfl ?_
    refine ld1 0 rfl (v := sj t) rfl ?_
    cases hd : decP t with
    | none =>
      have hn1 : txtF n t = none := by
        cases n with
        | zero => exact absurd hn (Nat.not_lt_zero _)
        | succ m => rw [txtF, hd]
      have hq0 : textP s = none := by rw [hq, hn1]; rfl
      cases t with
      | nil =>
        refine cvs (fun w hs => dec_any [] (by omega) w (hs.res (k := 1) rfl)) ?_
        refine ld1 0 rfl (v := sj []) rfl ?_
        refine slL 0 (by simp) rfl ?_
        refine s1 0 rfl (by show 0 < 3; decide) ?_
        iterate 2 refine cf rfl ?_
        refine ct rfl ?_
        iterate 4 refine cf rfl ?_
        iterate 2 refine ct rfl ?_
        refine cU1 0 rfl (fun w h => fail_any h) ?_
        exact ⟨⟨n, l, r, p, [], true⟩, ⟨Nat.zero_le _, by simp; simp at hll; omega, by simpa using hn, hR, hr0, hp, .inl ⟨rfl, hq0⟩⟩, by dsimp only [cond]; omega, ⟨rfl, rfl, trivial⟩, .cons (.cons (.cons (.cons .nil))), rfl⟩
      | cons a u =>
        have hv : ∀ w, Laid w → _ := fun w hw => dec_any (a :: u) (by omega) w hw
        rw [show decV (a :: u) = decR none from congrArg decR hd] at hv
        refine cvs (fun w hs => hv w (hs.res (k := 1) rfl)) ?_
        refine ld1 0 rfl (v := sj (a :: u)) rfl ?_
        refine slL 1 (by simp) rfl ?_
        refine s1 0 rfl (by show 0 < 3; decide) ?_
        iterate 2 refine ct rfl ?_
        refine cf rfl ?_
        iterate 6 refine ct rfl ?_
        refine ct rfl ?_
        refine cf rfl ?_
        refine ct rfl ?_
        refine cU1 0 rfl (fun w h => fail_any h) ?_
        exact ⟨⟨n, l, r, p, u, true⟩, ⟨by simp at htl ⊢; omega, by simp at hll ⊢; omega, by simp at hn ⊢; omega, hR, hr0, hp, .inl ⟨rfl, hq0⟩⟩, by dsimp only [cond]; omega, ⟨rfl, rfl, trivial⟩, .cons (.cons (.cons (.cons .nil))), rfl⟩
    | some x =>
      obtain ⟨c, z⟩ := x
      obtain ⟨hc, hz1, hz2, hz3⟩ := decP_in hd
      have hv : ∀ w, Laid w → _ := fun w hw => dec_any t (by omega) w hw
      rw [show decV t = decR (some (c, z)) from by cases t with | nil => cases hd | cons a u => exact congrArg decR hd] at hv
      refine cvs (fun w hs => hv w (hs.res (k := 1) rfl)) ?_
      refine ld1 0 rfl (v := sj t) rfl ?_
      refine slL z hz2 rfl ?_
      refine s1 0 rfl (by show 0 < 3; decide) ?_
      obtain ⟨n, rfl⟩ : ∃ m, n = m + 1 := ⟨n - 1, by omega⟩
      have hT : txtF (n + 1) t = if c < 32 then none else if c = 34 then some ([], t.drop z) else if c = 92 then (match escP (t.drop z) with | none => none | some (e, t) => app (encP e) (txtF n t)) else app (encP c) (txtF n (t.drop z)) := by rw [txtF, hd]
      have z1 : ((z : Int) == 0) = false := by rw [beq_eq_false_iff_ne]; omega
      have z2 : (((z : Int) == 0) == false) = true := by rw [z1]; rfl
      iterate 2 refine ct z2 ?_
      refine cf z1 ?_
      by_cases c32 : c < 32
      · have d1 : decide ((c : Int) < 32) = true := decide_eq_true (by omega)
        have d2 : (decide ((c : Int) < 32) == false) = false := by rw [d1]; rfl
        iterate 4 refine cf d2 ?_
        refine ct d1 ?_
        refine ct rfl ?_
        have hq0 : textP s = none := by rw [hq, hT, if_pos c32]; rfl
        refine cU1 0 rfl (fun w h => fail_any h) ?_
        exact ⟨⟨n + 1, l, r, p, t.drop z, true⟩, ⟨by simp; omega, by simp; omega, by simp; omega, hR, hr0, hp, .inl ⟨rfl, hq0⟩⟩, by dsimp only [cond]; omega, ⟨rfl, rfl, trivial⟩, .cons (.cons (.cons (.cons .nil))), rfl⟩
      · have d1 : decide ((c : Int) < 32) = false := decide_eq_false (by omega)
        have d2 : (decide ((c : Int) < 32) == false) = true := by rw [d1]; rfl
        rw [if_neg c32] at hT
        iterate 3 refine ct d2 ?_
        have hll9 : l.length ≤ 1000000000 := by omega
        have hd1 : (t.drop z).length + 1 ≤ t.length := by simp; omega
        by_cases c653 : c = 65533
        · have e1 : ((c : Int) == 65533) = true := by rw [beq_iff_eq]; omega
          have e2 : (((c : Int) == 65533) == true) = true := by rw [e1]; rfl
          have c34 : ¬ c = 34 := by omega
          have c92 : ¬ c = 92 := by omega
          iterate 2 refine ct e2 ?_
          refine ct d2 ?_
          refine ct e1 ?_
          refine cf d1 ?_
          refine cf (by rw [beq_eq_false_iff_ne]; intro h; have := hz3 (by omega); omega) ?_
          refine cf (by rw [beq_eq_false_iff_ne]; omega) ?_
          refine cf (by rw [beq_eq_false_iff_ne]; omega) ?_
          refine bRune 2 3 rfl hp rfl (by decide) hR hll9 hc (fun v r' m hm hR' => ?_)
          subst hm
          refine ⟨⟨n, l ++ encP c, r', ptr b3, t.drop z, false⟩, ⟨by have := hd1; dsimp only; omega, by have := (encP_len c).2; have := hd1; simp only [List.length_append]; omega, by have := hd1; dsimp only; omega, by simpa only [List.length_append, Lib.byteCells_append] using hR', fun h => absurd (List.append_eq_nil_iff.1 h).2 (encP_ne _), .inr rfl, .inr ⟨rfl, by rw [hq, hT, if_neg c34, if_neg c92, app_app]⟩⟩, by dsimp only [cond]; omega, ⟨rfl, rfl, trivial⟩, ?_, rfl⟩
          simp only [txL, List.length_append, Lib.byteCells_append]
          exact .cons (.cons (.cons (.cons .nil)))
        · have e1 : ((c : Int) == 65533) = false := by rw [beq_eq_false_iff_ne]; omega
          have e2 : (((c : Int) == 65533) == true) = false := by rw [e1]; rfl
          iterate 2 refine cf e2 ?_
          refine ct d2 ?_
          refine cf e1 ?_
          refine cf d1 ?_
          refine cf rfl ?_
          by_cases c34 : c = 34
          · refine ct (by rw [beq_iff_eq]; omega) ?_
            have hq0 : textP s = some (l, t.drop z) := by rw [hq, hT, if_pos c34]; simp [app]
            by_cases hnil : l = []
            · have := hr0 hnil
              subst this hnil
              refine bStr0 2 (b := b3) (p := p) (a := none) (c := 0) rfl (.inl rfl) ?_
              exact rtUx (Φ := TxF (textP s) s) (⟨[], t.drop z, false⟩ : TxO) ⟨by dsimp only; omega, .inr ⟨hq0, rfl⟩⟩ rfl
            · refine bStr 2 3 rfl rfl (by decide) hR hnil ?_
              exact rtUx (Φ := TxF (textP s) s) (⟨l, t.drop z, false⟩ : TxO) ⟨by dsimp only; omega, .inr ⟨hq0, rfl⟩⟩ rfl
          · refine cf (by rw [beq_eq_false_iff_ne]; omega) ?_
            rw [if_neg c34] at hT
            by_cases c92 : c = 92
            · refine ct (by rw [beq_iff_eq]; omega) ?_
              rw [if_pos c92] at hT
              refine cU (Φ := RnF (escP (t.drop z)) (t.drop z) false) 0 rfl (fun w h => escape_any h) ?_
              rintro ⟨e, u, bd⟩ ⟨hu, he⟩
              dsimp only at hu he ⊢
              have hu2 : u.length + 1 ≤ t.length := by omega
              rcases he with ⟨he, rfl, rfl⟩ | ⟨he, rfl⟩
              · rw [he] at hT
                refine bRune 2 3 rfl hp rfl (by decide) hR hll9 (by decide) (fun v r' m hm hR' => ?_)
                subst hm
                refine ⟨⟨n, l ++ encP 0, r', ptr b3, u, true⟩, ⟨by have := hu2; dsimp only; omega, by have := (encP_len 0).2; have := hu2; simp only [List.length_append]; omega, by have := hu2; dsimp only; omega, by simpa only [List.length_append, Lib.byteCells_append] using hR', fun h => absurd (List.append_eq_nil_iff.1 h).2 (encP_ne _), .inr rfl, .inl ⟨rfl, by rw [hq, hT]; rfl⟩⟩, by dsimp only [cond]; omega, ⟨rfl, rfl, trivial⟩, ?_, rfl⟩
                simp only [txL, List.length_append, Lib.byteCells_append]
                exact .cons (.cons (.cons (.cons .nil)))
              · rw [he] at hT
                refine bRune 2 3 rfl hp rfl (by decide) hR hll9 (escP_lt he) (fun v r' m hm hR' => ?_)
                subst hm
                refine ⟨⟨n, l ++ encP e, r', ptr b3, u, false⟩, ⟨by have := hu2; dsimp only; omega, by have := (encP_len e).2; have := hu2; simp only [List.length_append]; omega, by have := hu2; dsimp only; omega, by simpa only [List.length_append, Lib.byteCells_append] using hR', fun h => absurd (List.append_eq_nil_iff.1 h).2 (encP_ne _), .inr rfl, .inr ⟨rfl, by rw [hq, hT, app_app]⟩⟩, by dsimp only [cond]; omega, ⟨rfl, rfl, trivial⟩, ?_, rfl⟩
                simp only [txL, List.length_append, Lib.byteCells_append]
                exact .cons (.cons (.cons (.cons .nil)))
            · refine cf (by rw [beq_eq_false_iff_ne]; omega) ?_
              rw [if_neg c92] at hT
              refine bRune 2 3 rfl hp rfl (by decide) hR hll9 hc (fun v r' m hm hR' => ?_)
              subst hm
              refine ⟨⟨n, l ++ encP c, r', ptr b3, t.drop z, false⟩, ⟨by have := hd1; dsimp only; omega, by have := (encP_len c).2; have := hd1; simp only [List.length_append]; omega, by have := hd1; dsimp only; omega, by simpa only [List.length_append, Lib.byteCells_append] using hR', fun h => absurd (List.append_eq_nil_iff.1 h).2 (encP_ne _), .inr rfl, .inr ⟨rfl, by rw [hq, hT, app_app]⟩⟩, by dsimp only [cond]; omega, ⟨rfl, rfl, trivial⟩, ?_, rfl⟩
              simp only [txL, List.length_append, Lib.byteCells_append]
              exact .cons (.cons (.cons (.cons .nil)))
end
end Go.Proofs.YtpegkoklmhccjaaDoor
