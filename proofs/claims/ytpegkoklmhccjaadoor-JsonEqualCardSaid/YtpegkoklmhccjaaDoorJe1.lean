/- For every two values the law JsonEqual returns true, and the values read as they did; no condition. -/
import Derived.Test.YtpegkoklmhccjaaDoorRows
import Derived.WalkKit
import Derived.ProofKit
import Derived.OpenShut
import Derived.ShutString
import Derived.ChangeOld
import Derived.Below
import Derived.Lib.UnsafeStr
import Derived.Test.YtpegkoklmhccjaaDoorTie
import Derived.Test.YtpegkoklmhccjaaDoorCards
import Derived.LaidMore
import Derived.Lay
import Derived.SevenTiedAt
import Derived.Stop.Joined
import Derived.Deep.Slices
import Derived.Test.YtpegkoklmhccjaaDoorJb5
section
namespace Go.Proofs.YtpegkoklmhccjaaDoor
open Go.RowKit Go.Sx
set_option linter.unusedVariables false
/-- the value of a name -/
def JV.got : JV → Bs → Option JV
  | .mk k _ _ _ p, name => if k = 5 then (p.find? fun q => decide (q.1 = name)).map (·.2) else none
def hitJ (S : JV → JV → Bool) (b : JV) (q : Bs × JV) : Bool := match b.got q.1 with
  | none => false
  | some v => S q.2 v
def smG (S : JV → JV → Bool) : JV → JV → Bool
  | .mk k i s l p, .mk k2 i2 s2 l2 p2 => decide (k = k2) && decide (i = i2) && decide (s = s2) && decide (l.length = l2.length) && decide (p.length = p2.length) && (l.zip l2).all (fun x => S x.1 x.2) && p.all (hitJ S (.mk k2 i2 s2 l2 p2))
theorem got_if (k i : Int) (s : Bs) (l : List JV) (p : List (Bs × JV)) (name : Bs) : (JV.mk k i s l p).got name = if k = 5 then (p.find? fun q => decide (q.1 = name)).map (·.2) else none := rfl
theorem hit_some {S : JV → JV → Bool} {b v : JV} {q : Bs × JV} (h : b.got q.1 = some v) : hitJ S b q = S q.2 v := by unfold hitJ; rw [h]
/-- are good values the same? -/
def smD : Nat → JV → JV → Bool
  | 0 => smG fun _ _ => false
  | r + 1 => smG (smD r)
theorem prsK_all {S : JV → Bool} : ∀ (p : List (Bs × JV)) (seen : List Bs), prsK S seen p = true → (∀ q ∈ p, S q.2 = true) ∧ (p.map (·.1)).Nodup ∧ ∀ q ∈ p, q.1 ∉ seen := by
  intro p
  induction p with
  | nil => intro seen _; exact ⟨fun q h => by simp at h, by simp, fun q h => by simp at h⟩
  | cons x t ih =>
    intro seen h
    have h : (!decide (x.1 ∈ seen) && validP x.1 && S x.2 && prsK S (x.1 :: seen) t) = true := h
    simp only [Bool.and_eq_true, Bool.not_eq_true', decide_eq_false_iff_not] at h
    obtain ⟨⟨⟨h1, h2⟩, h3⟩, h4⟩ := h
    obtain ⟨i1, i2, i3⟩ := ih _ h4
    refine ⟨fun q hq => ?_, ?_, fun q hq => ?_⟩
    · rcases List.mem_cons.1 hq with rfl | hq
      · exact h3
      · exact i1 q hq
    · rw [List.map_cons, List.nodup_cons]
      refine ⟨fun hm => ?_, i2⟩
      obtain ⟨q, hq, he⟩ := List.mem_map.1 hm
      exact i3 q hq (by rw [he]; simp)
    · rcases List.mem_cons.1 hq with rfl | hq
      · exact h1
      · exact fun hs => i3 q hq (List.mem_cons_of_mem _ hs)
/-- what a good value's parts are -/
theorem snd_kids {S : JV → Bool} {deep : Bool} {k i : Int} {s : Bs} {l : List JV} {p : List (Bs × JV)} (h : sndG S deep (.mk k i s l p) = true) : (∀ x ∈ l, S x = true ∧ deep = true) ∧ (∀ q ∈ p, S q.2 = true ∧ deep = true ∧ k = 5) ∧ (p.map (·.1)).Nodup := by
  have emp : l.isEmpty = true → p.isEmpty = true → (∀ x ∈ l, S x = true ∧ deep = true) ∧ (∀ q ∈ p, S q.2 = true ∧ deep = true ∧ k = 5) ∧ (p.map (·.1)).Nodup := fun h1 h2 => by
    rw [List.isEmpty_iff] at h1 h2
    rw [h1, h2]
    exact ⟨fun x h => absurd h List.not_mem_nil, fun x h => absurd h List.not_mem_nil, List.nodup_nil⟩
  unfold sndG at h
  dsimp only at h
  split at h
  · simp only [Bool.and_eq_true] at h; exact emp h.2.1 h.2.2
  split at h
  · simp only [Bool.and_eq_true] at h; exact emp h.2.1 h.2.2
  split at h
  · simp only [Bool.and_eq_true] at h; exact emp h.2.1 h.2.2
  split at h
  · simp only [Bool.and_eq_true] at h; exact emp h.2.1 h.2.2
  split at h
  · cases h
  rename_i hn
  have hdp : deep = true := by
    cases hd : deep with
    | true => rfl
    | false => exact absurd (.inr (.inr hd)) hn
  split at h
  · simp only [Bool.and_eq_true] at h
    have hp : p = [] := by simpa using h.2
    subst hp
    exact ⟨fun x hx => ⟨List.all_eq_true.1 h.1 x hx, hdp⟩, fun x h => by simp at h, by simp⟩
  split at h
  · rename_i h5
    simp only [Bool.and_eq_true] at h
    have hl : l = [] := by simpa using h.2
    subst hl
    obtain ⟨i1, i2, _⟩ := prsK_all p [] h.1
    exact ⟨fun x h => by simp at h, fun q hq => ⟨i1 q hq, hdp, h5⟩, i2⟩
  · cases h
theorem find_nodup {p : List (Bs × JV)} (h : (p.map (·.1)).Nodup) {q : Bs × JV} (hq : q ∈ p) : p.find? (fun x => decide (x.1 = q.1)) = some q := by
  induction p with
  | nil => simp at hq
  | cons x t ih =>
    rw [List.map_cons, List.nodup_cons] at h
    by_cases hx : x.1 = q.1
    · rw [List.find?_cons_of_pos (by simpa using hx)]
      rcases List.mem_cons.1 hq with rfl | hq
      · rfl
      · exact absurd (List.mem_map.2 ⟨q, hq, hx.symm⟩) h.1
    · rw [List.find?_cons_of_neg (by simpa using hx)]
      rcases List.mem_cons.1 hq with rfl | hq
      · exact absurd rfl hx
      · exact ih h.2 hq
theorem nodup_back {α : Type} [DecidableEq α] : ∀ (a b : List α), a.Nodup → (∀ x ∈ a, x ∈ b) → b.length ≤ a.length → ∀ y ∈ b, y ∈ a := by
  intro a
  induction a with
  | nil =>
    intro b _ _ h y hy
    have : b = [] := List.length_eq_zero_iff.1 (by simpa using h)
    rw [this] at hy; exact hy
  | cons x t ih =>
    intro b hn hs hl y hy
    rw [List.nodup_cons] at hn
    have hx : x ∈ b := hs x (by simp)
    by_cases hyx : y = x
    · rw [hyx]; simp
    · refine List.mem_cons_of_mem _ (ih (b.erase x) hn.2 (fun z hz => ?_) ?_ y ?_)
      · exact (List.mem_erase_of_ne (fun e : z = x => hn.1 (e ▸ hz))).2 (hs z (List.mem_cons_of_mem _ hz))
      · rw [List.length_erase_of_mem hx]; simp only [List.length_cons] at hl; omega
      · exact (List.mem_erase_of_ne hyx).2 hy
theorem smG_refl {S : JV → JV → Bool} {G : JV → Bool} {deep : Bool} (hS : deep = true → ∀ x, G x = true → S x x = true) {j : JV} (h : sndG G deep j = true) : smG S j j = true := by
  obtain ⟨k, i, s, l, p⟩ := j
  obtain ⟨h1, h2, h3⟩ := snd_kids h
  unfold smG
  simp only [Bool.and_eq_true, decide_true, and_self, true_and, List.all_eq_true]
  refine ⟨fun x hx => ?_, fun q hq => ?_⟩
  · obtain ⟨n, hn, he⟩ := List.mem_iff_getElem.1 hx
    rw [List.getElem_zip] at he
    have hm : l[n]'(by simpa using hn) ∈ l := List.getElem_mem _
    rw [← he]
    exact hS (h1 _ hm).2 _ (h1 _ hm).1
  · obtain ⟨g1, g2, g3⟩ := h2 q hq
    rw [hit_some (v := q.2) (by rw [got_if, if_pos g3, find_nodup h3 hq]; rfl)]
    exact hS g2 _ g1
theorem smG_symm {S : JV → JV → Bool} {G : JV → Bool} {deep : Bool} (hS : deep = true → ∀ x y, G x = true → G y = true → S x y = true → S y x = true) {a b : JV} (ha : sndG G deep a = true) (hb : sndG G deep b = true) (h : smG S a b = true) : smG S b a = true := by
  obtain ⟨k, i, s, l, p⟩ := a
  obtain ⟨k2, i2, s2, l2, p2⟩ := b
  obtain ⟨a1, a2, a3⟩ := snd_kids ha
  obtain ⟨b1, b2, b3⟩ := snd_kids hb
  unfold smG at h ⊢
  simp only [Bool.and_eq_true, decide_eq_true_eq, List.all_eq_true] at h ⊢
  obtain ⟨⟨⟨⟨⟨⟨e1, e2⟩, e3⟩, e4⟩, e5⟩, h6⟩, h7⟩ := h
  refine ⟨⟨⟨⟨⟨⟨e1.symm, e2.symm⟩, e3.symm⟩, e4.symm⟩, e5.symm⟩, fun x hx => ?_⟩, fun q hq => ?_⟩
  · obtain ⟨n, hn, he⟩ := List.mem_iff_getElem.1 hx
    rw [List.getElem_zip] at he
    simp only [List.length_zip] at hn
    have hm : l[n]'(by omega) ∈ l := List.getElem_mem _
    have hm2 : l2[n]'(by omega) ∈ l2 := List.getElem_mem _
    rw [← he]
    exact hS (a1 _ hm).2 _ _ (a1 _ hm).1 (b1 _ hm2).1 (h6 _ (by rw [List.mem_iff_getElem]; exact ⟨n, by simp only [List.length_zip]; omega, List.getElem_zip⟩))
  · -- a's names are b's names
    have hsub : ∀ x ∈ p.map (·.1), x ∈ p2.map (·.1) := fun x hx => by
      obtain ⟨q0, hq0, rfl⟩ := List.mem_map.1 hx
      have := h7 q0 hq0
      unfold hitJ at this
      split at this
      · cases this
      · rename_i v hv
        rw [got_if] at hv
        split at hv
        · rw [Option.map_eq_some_iff] at hv
          obtain ⟨y, hy, _⟩ := hv
          have hy1 := List.find?_some hy
          exact List.mem_map.2 ⟨y, List.mem_of_find?_eq_some hy, by simpa using hy1⟩
        · cases hv
    have hback := nodup_back (p.map (·.1)) (p2.map (·.1)) a3 hsub (by simp only [List.length_map]; omega)
    obtain ⟨q0, hq0, hqn⟩ := List.mem_map.1 (hback q.1 (List.mem_map.2 ⟨q, hq, rfl⟩))
    have hh := h7 q0 hq0
    obtain ⟨g1, g2, g3⟩ := a2 q0 hq0
    obtain ⟨g4, _, g6⟩ := b2 q hq
    rw [hit_some (v := q.2) (by rw [got_if, if_pos g6, hqn, find_nodup b3 hq]; rfl)] at hh
    rw [hit_some (v := q0.2) (by rw [got_if, if_pos g3, ← hqn, find_nodup a3 hq0]; rfl)]
    exact hS g2 _ _ g1 g4 hh
theorem smD_refl : ∀ (r : Nat) (j : JV), sndD r j = true → smD r j j = true := by
  intro r
  induction r with
  | zero => intro j h; exact smG_refl (fun h => by cases h) h
  | succ r ih => intro j h; exact smG_refl (fun _ => ih) h
theorem smD_symm1 : ∀ (r : Nat) (a b : JV), sndD r a = true → sndD r b = true → smD r a b = true → smD r b a = true := by
  intro r
  induction r with
  | zero => intro a b ha hb h; exact smG_symm (fun h => by cases h) ha hb h
  | succ r ih => intro a b ha hb h; exact smG_symm (fun _ => ih) ha hb h
theorem smD_symm (r : Nat) (a b : JV) (ha : sndD r a = true) (hb : sndD r b = true) : smD r a b = smD r b a := by
  rw [Bool.eq_iff_iff]
  exact ⟨smD_symm1 r a b ha hb, smD_symm1 r b a hb ha⟩
/-- the value of a name, and its cells -/
theorem find_both : ∀ (p : List (Bs × CT)) (p' : List (Bs × JV)) (name : Bs), p.length = p'.length → (∀ (n : Nat) (c : Bs × CT) (j : Bs × JV), p[n]? = some c → p'[n]? = some j → c.1 = j.1) →
    (p.find? (fun q => decide (q.1 = name)) = none ∧ p'.find? (fun q => decide (q.1 = name)) = none) ∨ ∃ (m : Nat) (q : Bs × CT) (q' : Bs × JV), p[m]? = some q ∧ p'[m]? = some q' ∧ p.find? (fun q => decide (q.1 = name)) = some q ∧ p'.find? (fun q => decide (q.1 = name)) = some q' := by
  intro p
  induction p with
  | nil =>
    intro p' name hl _
    have : p' = [] := List.length_eq_zero_iff.1 hl.symm
    subst this
    exact .inl ⟨rfl, rfl⟩
  | cons x t ih =>
    intro p' name hl hn
    cases p' with
    | nil => simp at hl
    | cons y u =>
      have hxy : x.1 = y.1 := hn 0 x y rfl rfl
      by_cases hx : x.1 = name
      · exact .inr ⟨0, x, y, rfl, rfl, List.find?_cons_of_pos (by simpa using hx), List.find?_cons_of_pos (by simpa using hxy ▸ hx)⟩
      · have e1 : (x :: t).find? (fun q => decide (q.1 = name)) = t.find? fun q => decide (q.1 = name) := List.find?_cons_of_neg (by simpa using hx)
        have e2 : (y :: u).find? (fun q => decide (q.1 = name)) = u.find? fun q => decide (q.1 = name) := List.find?_cons_of_neg (by simpa using hxy ▸ hx)
        rw [e1, e2]
        rcases ih u name (by simpa using hl) (fun n c j h1 h2 => hn (n + 1) c j (by simpa using h1) (by simpa using h2)) with h | ⟨m, q, q', h1, h2, h3, h4⟩
        · exact .inl h
        · exact .inr ⟨m + 1, q, q', by simpa using h1, by simpa using h2, h3, h4⟩
theorem got_both {d : CT} {j : JV} (h : CS d j) (name : Bs) : (d.got name = none ∧ j.got name = none) ∨ ∃ g gj, d.got name = some g ∧ j.got name = some gj ∧ CS g gj ∧ ∀ (A : Nat → Prop) (w : World), HeldT w A d j → HeldT w A g gj := by
  cases h with
  | @mk k i s vl vp l p l' p' hll hlp hl hp kl kn kp =>
    show ((if k = 5 then (p.find? fun q => decide (q.1 = name)).map (·.2) else none) = none ∧ (if k = 5 then (p'.find? fun q => decide (q.1 = name)).map (·.2) else none) = none) ∨ ∃ g gj, (if k = 5 then (p.find? fun q => decide (q.1 = name)).map (·.2) else none) = some g ∧ (if k = 5 then (p'.find? fun q => decide (q.1 = name)).map (·.2) else none) = some gj ∧ CS g gj ∧ ∀ (A : Nat → Prop) (w : World), HeldT w A _ _ → HeldT w A g gj
    by_cases h5 : k = 5
    · rw [if_pos h5, if_pos h5]
      rcases find_both p p' name hlp kn with ⟨h1, h2⟩ | ⟨m, q, q', h1, h2, h3, h4⟩
      · rw [h1, h2]; exact .inl ⟨rfl, rfl⟩
      · rw [h3, h4]
        exact .inr ⟨q.2, q'.2, rfl, rfl, kp m q q' h1 h2, fun A w hw => ⟨hw.1, hw.2.kidp h1 h2⟩⟩
    · rw [if_neg h5, if_neg h5]; exact .inl ⟨rfl, rfl⟩
end Go.Proofs.YtpegkoklmhccjaaDoor
end
section
namespace Go.Proofs.YtpegkoklmhccjaaDoor
open Go.RowKit Go.Sx
set_option linter.unusedVariables false
set_option maxRecDepth 100000 in
set_option maxHeartbeats 4000000 in
theorem rget_any (A : Nat → Prop) (c : CT) (j : JV) (name : Bs) (w : World) (h : HeldT w A c j) : Calls Tryd.prog 11 ([.agg c.cs.toArray, sj name] : List Value).toArray w fun e w' => e = .returned (getV (c.got name)) ∧ Below w.heap.size w w' := by
  obtain ⟨vl, vp, l, p, k, i, s, rfl⟩ : ∃ vl vp l p k i s, c = .mk k i s vl vp l p := by cases c; exact ⟨_, _, _, _, _, _, _, rfl⟩
  obtain ⟨l', p', rfl⟩ : ∃ l' p', j = .mk k i s l' p' := by cases h.2; exact ⟨_, _, rfl⟩
  obtain ⟨k3, a', cap', rfl, k4⟩ : SlOf vp p.length := by cases h.2.cs; assumption
  have hgot : ∀ m, (CT.mk k i s vl (.slice a' p.length cap') l p).got m = if k = 5 then (p.find? fun q => decide (q.1 = m)).map (·.2) else none := fun _ => rfl
  refine enterV tab_ok Tryd.func11 rfl Tryd.ntmps11 rfl (St.rdT h) ?_
  intro b2 b4
  refine lp tab_ok (fun q : Nat => q ≤ p.length ∧ ∀ m, m < q → ∀ x, p[m]? = some x → x.1 ≠ name) (fun q => ⟨[(1, sj name), (2, pj b2), (4, pj b4), (5, .bool false), (6, .int .i64 (q : Nat))], [rs (rdT A (.mk k i s vl (.slice a' p.length cap') l p) (.mk k i s l' p')), cl b2 (vcl k i s vl (.slice a' p.length cap')).toArray TV, cl b4 (valC 0 0 []) TV], []⟩) (fun q => p.length - q) 0 ⟨Nat.zero_le _, fun m hm => absurd hm (Nat.not_lt_zero _)⟩ ⟨⟨rfl, rfl, rfl, rfl, rfl, trivial⟩, .cons (.cons (.cons .nil)), rfl⟩ ?_
  rintro q ⟨hq, hI⟩
  refine ld1 1 rfl rfl ?_
  by_cases hql : q < p.length
  · have f1 : decide ((q : Int) < (p.length : Int)) = true := decide_eq_true (by omega)
    have f2 : (decide ((q : Int) < (p.length : Int)) == true) = true := by rw [f1]; rfl
    iterate 2 refine ct f2 ?_
    refine ld1 1 rfl rfl ?_
    refine ct f2 ?_
    refine ct f1 ?_
    refine cq (fun h5 => ?_) (fun h5 => ?_)
    · have hc0 : p[q]? = some p[q] := List.getElem?_eq_getElem hql
      generalize p[q] = c0 at hc0
      obtain ⟨b, o, rfl⟩ := k4 (by omega)
      refine ld1 1 rfl rfl ?_
      refine ⟨by omega, by omega, ?_⟩
      refine .mk (sj c0.1) (fun w hs => ?_) ?_
      · have := (hs.res (k := 0) rfl : HeldT w A _ _).2.pair rfl hc0
        rw [nad_eq, nad_eq, nmu_eq, Int.toNat_natCast]; exact this 0 _ rfl
      by_cases hn : c0.1 = name
      · refine ct (by rw [list_beq]; exact decide_eq_true hn) ?_
        refine ld1 1 rfl rfl ?_
        refine ⟨by omega, by omega, ?_⟩
        refine .mk c0.2.cs.toArray (by rw [List.size_toArray, CT.cs5]) (fun w hs => ?_) ?_
        · have := (hs.res (k := 0) rfl : HeldT w A _ _).2.pair rfl hc0
          rw [nad_eq, nad_eq, nmu_eq, Int.toNat_natCast]
          intro y u hu
          rw [Nat.add_assoc (o + q * 6), Nat.add_comm 1 y]
          exact this (y + 1) u (by simpa using hu)
        have hone : c0.2.cs.all (·.oneCell') = true := by
          have hlt := (List.getElem?_eq_some_iff.1 hc0).1
          cases h.2.cs with
          | mk hll hlp _ _ _ _ kp => exact (kp q c0 _ hc0 (List.getElem?_eq_getElem (by omega))).one
        refine sN 2 rfl (by rw [List.size_toArray, CT.cs5]; rfl) (by simpa using hone) ?_ (by rw [List.size_toArray, CT.cs5]; kernel_rfl)
        refine ldN 2 rfl (by rw [List.size_toArray, CT.cs5]) ?_
        refine rt ?_
        rw [hgot, if_pos h5, find_first hc0 hn hI]; rfl
      · refine cf (by rw [list_beq]; exact decide_eq_false hn) ?_
        refine .as ((q + 1 : Nat) : Int) (by simp) (by simp only [mn]; omega) (by simp only [mx]; unfold maxLen at k3; omega) ?_
        refine ⟨q + 1, ⟨by omega, fun m hm x hx => ?_⟩, by omega, ⟨⟨rfl, rfl, rfl, rfl, rfl, trivial⟩, .cons (.cons (.cons .nil)), rfl⟩⟩
        by_cases hmq : m < q
        · exact hI m hmq x hx
        · obtain rfl : m = q := by omega
          rw [hc0] at hx
          obtain rfl : c0 = x := Option.some.inj hx
          exact hn
    · refine bu (c := valC 0 0 []) rfl ?_
      refine sN 2 rfl rfl (by simp [Value.oneCell']) ?_ (by kernel_rfl)
      refine ldN 2 rfl rfl ?_
      refine rt ?_
      rw [hgot, if_neg h5]; rfl
  · have f1 : decide ((q : Int) < (p.length : Int)) = false := decide_eq_false (by omega)
    have f2 : (decide ((q : Int) < (p.length : Int)) == true) = false := by rw [f1]; rfl
    iterate 3 refine cf f2 ?_
    refine cf f1 ?_
    refine cf rfl ?_
    refine bu (c := valC 0 0 []) rfl ?_
    refine sN 2 rfl rfl (by simp [Value.oneCell']) ?_ (by kernel_rfl)
    refine ldN 2 rfl rfl ?_
    refine rt ?_
    rw [hgot]
    split
    · rw [find_none fun m hm => hI m (by omega)]; rfl
    · rfl
end Go.Proofs.YtpegkoklmhccjaaDoor
end
section
namespace Go.Proofs.YtpegkoklmhccjaaDoor
open Go.RowKit Go.Sx
set_option linter.unusedVariables false
def JV.oks (ok : JV → Bool) : JV → Prop
  | .mk _ _ _ l p => (∀ x ∈ l, ok x = true) ∧ ∀ q ∈ p, ok q.2 = true
theorem zip_take {l l2 : List JV} {S : JV → JV → Bool} {q : Nat} {x y : JV} (hx : l[q]? = some x) (hy : l2[q]? = some y) : ((l.zip l2).take (q + 1)).all (fun x => S x.1 x.2) = (((l.zip l2).take q).all (fun x => S x.1 x.2) && S x y) := by
  have hz : (l.zip l2)[q]? = some (x, y) := by rw [List.getElem?_zip_eq_some]; exact ⟨hx, hy⟩
  rw [List.take_add_one, hz, List.all_append]; simp
theorem zip_no {l l2 : List JV} {S : JV → JV → Bool} {q : Nat} {x y : JV} (hx : l[q]? = some x) (hy : l2[q]? = some y) (h : S x y = false) : (l.zip l2).all (fun x => S x.1 x.2) = false := by
  have hz : (l.zip l2)[q]? = some (x, y) := by rw [List.getElem?_zip_eq_some]; exact ⟨hx, hy⟩
  rw [List.all_eq_false]
  exact ⟨(x, y), List.mem_of_getElem? hz, by rw [h]; simp⟩
set_option maxRecDepth 100000 in
set_option maxHeartbeats 8000000 in
theorem same_core (S : JV → JV → Bool) (ok : JV → Bool)
    (hS : ∀ (c : CT) (j : JV) (d : CT) (jd : JV) (A B : Nat → Prop) (w : World), ok j = true → HeldT w A c j → HeldT w B d jd → Calls Tryd.prog 32 ([.agg c.cs.toArray, .agg d.cs.toArray] : List Value).toArray w fun e w' => e = .returned (.bool (S j jd)) ∧ Below w.heap.size w w')
    (c : CT) (j : JV) (d : CT) (jd : JV) (A B : Nat → Prop) (w : World) (hok : j.oks ok) (h : HeldT w A c j) (h2 : HeldT w B d jd) : Calls Tryd.prog 32 ([.agg c.cs.toArray, .agg d.cs.toArray] : List Value).toArray w fun e w' => e = .returned (.bool (smG S j jd)) ∧ Below w.heap.size w w' := by
  have hcs := h.2.cs
  have hcs2 := h2.2.cs
  obtain ⟨k, i, s, vl, vp, l, p, rfl⟩ : ∃ k i s vl vp l p, c = CT.mk k i s vl vp l p := by cases c; exact ⟨_, _, _, _, _, _, _, rfl⟩
  obtain ⟨l', p', rfl⟩ : ∃ l' p', j = .mk k i s l' p' := by cases hcs; exact ⟨_, _, rfl⟩
  obtain ⟨hll, hlp, hl, hp, kn⟩ : l.length = l'.length ∧ p.length = p'.length ∧ SlOf vl l.length ∧ SlOf vp p.length ∧ ∀ (n : Nat) (c : Bs × CT) (j : Bs × JV), p[n]? = some c → p'[n]? = some j → c.1 = j.1 := by cases hcs; exact ⟨‹_›, ‹_›, ‹_›, ‹_›, ‹_›⟩
  obtain ⟨k2, i2, s2, vl2, vp2, l2, p2, rfl⟩ : ∃ k i s vl vp l p, d = CT.mk k i s vl vp l p := by cases d; exact ⟨_, _, _, _, _, _, _, rfl⟩
  obtain ⟨l2', p2', rfl⟩ : ∃ l' p', jd = .mk k2 i2 s2 l' p' := by cases hcs2; exact ⟨_, _, rfl⟩
  obtain ⟨hll2, hlp2, hl2, hp2⟩ : l2.length = l2'.length ∧ p2.length = p2'.length ∧ SlOf vl2 l2.length ∧ SlOf vp2 p2.length := by cases hcs2; exact ⟨‹_›, ‹_›, ‹_›, ‹_›⟩
  obtain ⟨k1, a, cap, rfl, ka⟩ := hl
  obtain ⟨k3, a', cap', rfl, ka'⟩ := hp
  obtain ⟨m1, a2, cap2, rfl, kb⟩ := hl2
  obtain ⟨m3, a2', cap2', rfl, kb'⟩ := hp2
  have hokl : ∀ x ∈ l', ok x = true := fun x hx => hok.1 x hx
  have hokp : ∀ q ∈ p', ok q.2 = true := fun x hx => hok.2 x hx

  refine enterV tab_ok Tryd.func32 rfl Tryd.ntmps32 rfl (St.rdT2 h h2) ?_
  intro b2 b3
  by_cases ha : k = k2
  case neg =>
    have fa1 : (k != k2) = true := by simp [ha]
    have fa2 : ((k != k2) == false) = false := by rw [fa1]; rfl
    refine ld1 2 rfl rfl ?_
    refine ld1 3 rfl rfl ?_
    refine cf fa2 ?_
    refine cf fa2 ?_
    refine cf fa2 ?_
    refine cf fa2 ?_
    refine cf fa2 ?_
    refine ct fa1 ?_
    refine cf rfl ?_
    refine cf rfl ?_
    refine cf rfl ?_
    refine cf rfl ?_
    refine cf rfl ?_
    refine ct rfl ?_
    refine cf rfl ?_
    refine cf rfl ?_
    refine cf rfl ?_
    refine cf rfl ?_
    refine cf rfl ?_
    refine cf rfl ?_
    refine cf rfl ?_
    refine ct rfl ?_
    refine cf rfl ?_
    refine cf rfl ?_
    refine cf rfl ?_
    refine cf rfl ?_
    refine cf rfl ?_
    refine cf rfl ?_
    refine cf rfl ?_
    refine ct rfl ?_
    refine ct rfl ?_
    exact rt (congrArg Value.bool (by unfold smG; simp [ha]))
  have fa1 : (k != k2) = false := by simp [ha]
  have fa2 : ((k != k2) == false) = true := by rw [fa1]; rfl
  by_cases hb : i = i2
  case neg =>
    have fb1 : (i != i2) = true := by simp [hb]
    have fb2 : ((i != i2) == false) = false := by rw [fb1]; rfl
    refine ld1 2 rfl rfl ?_
    refine ld1 3 rfl rfl ?_
    refine ct fa2 ?_
    refine ct fa2 ?_
    refine ld1 2 rfl rfl ?_
    refine ct fa2 ?_
    refine ct fa2 ?_
    refine ld1 3 rfl rfl ?_
    refine ct fa2 ?_
    refine cf fa1 ?_
    refine cf fb2 ?_
    refine cf fb2 ?_
    refine cf fb2 ?_
    refine cf fb2 ?_
    refine cf fb2 ?_
    refine ct fb1 ?_
    refine cf rfl ?_
    refine cf rfl ?_
    refine cf rfl ?_
    refine cf rfl ?_
    refine cf rfl ?_
    refine cf rfl ?_
    refine cf rfl ?_
    refine ct rfl ?_
    refine cf rfl ?_
    refine cf rfl ?_
    refine cf rfl ?_
    refine cf rfl ?_
    refine cf rfl ?_
    refine cf rfl ?_
    refine cf rfl ?_
    refine ct rfl ?_
    refine ct rfl ?_
    exact rt (congrArg Value.bool (by unfold smG; simp [hb]))
  have fb1 : (i != i2) = false := by simp [hb]
  have fb2 : ((i != i2) == false) = true := by rw [fb1]; rfl
  by_cases hc : s = s2
  case neg =>
    have fc1 : (!((ByteArray.mk s.toArray).toList == (ByteArray.mk s2.toArray).toList)) = true := by rw [list_beq]; simp [hc]
    have fc2 : ((!((ByteArray.mk s.toArray).toList == (ByteArray.mk s2.toArray).toList)) == false) = false := by rw [fc1]; rfl
    refine ld1 2 rfl rfl ?_
    refine ld1 3 rfl rfl ?_
    refine ct fa2 ?_
    refine ct fa2 ?_
    refine ld1 2 rfl rfl ?_
    refine ct fa2 ?_
    refine ct fa2 ?_
    refine ld1 3 rfl rfl ?_
    refine ct fa2 ?_
    refine cf fa1 ?_
    refine ct fb2 ?_
    refine ct fb2 ?_
    refine ld1 2 rfl rfl ?_
    refine ct fb2 ?_
    refine ct fb2 ?_
    refine ld1 3 rfl rfl ?_
    refine ct fb2 ?_
    refine cf fb1 ?_
    refine cf fc2 ?_
    refine cf fc2 ?_
    refine cf fc2 ?_
    refine cf fc2 ?_
    refine cf fc2 ?_
    refine cf fc2 ?_
    refine cf fc2 ?_
    refine ct fc1 ?_
    refine cf rfl ?_
    refine cf rfl ?_
    refine cf rfl ?_
    refine cf rfl ?_
    refine cf rfl ?_
    refine cf rfl ?_
    refine cf rfl ?_
    refine ct rfl ?_
    refine ct rfl ?_
    exact rt (congrArg Value.bool (by unfold smG; simp [hc]))
  have fc1 : (!((ByteArray.mk s.toArray).toList == (ByteArray.mk s2.toArray).toList)) = false := by rw [list_beq]; simp [hc]
  have fc2 : ((!((ByteArray.mk s.toArray).toList == (ByteArray.mk s2.toArray).toList)) == false) = true := by rw [fc1]; rfl
  by_cases hd : l'.length = l2'.length
  case neg =>
    have fd1 : ((l.length : Int) != (l2.length : Int)) = true := by rw [hll, hll2]; simp; omega
    have fd2 : (((l.length : Int) != (l2.length : Int)) == false) = false := by rw [fd1]; rfl
    refine ld1 2 rfl rfl ?_
    refine ld1 3 rfl rfl ?_
    refine ct fa2 ?_
    refine ct fa2 ?_
    refine ld1 2 rfl rfl ?_
    refine ct fa2 ?_
    refine ct fa2 ?_
    refine ld1 3 rfl rfl ?_
    refine ct fa2 ?_
    refine cf fa1 ?_
    refine ct fb2 ?_
    refine ct fb2 ?_
    refine ld1 2 rfl rfl ?_
    refine ct fb2 ?_
    refine ct fb2 ?_
    refine ld1 3 rfl rfl ?_
    refine ct fb2 ?_
    refine cf fb1 ?_
    refine ct fc2 ?_
    refine ct fc2 ?_
    refine ld1 2 rfl rfl ?_
    refine ct fc2 ?_
    refine ct fc2 ?_
    refine ct fc2 ?_
    refine ld1 3 rfl rfl ?_
    refine ct fc2 ?_
    refine ct fc2 ?_
    refine cf fc1 ?_
    refine cf fd2 ?_
    refine cf fd2 ?_
    refine cf fd2 ?_
    refine cf fd2 ?_
    refine cf fd2 ?_
    refine cf fd2 ?_
    refine cf fd2 ?_
    refine ct fd1 ?_
    refine ct rfl ?_
    exact rt (congrArg Value.bool (by unfold smG; simp [hd]))
  have fd1 : ((l.length : Int) != (l2.length : Int)) = false := by rw [hll, hll2]; simp; omega
  have fd2 : (((l.length : Int) != (l2.length : Int)) == false) = true := by rw [fd1]; rfl
  by_cases he : p'.length = p2'.length
  case neg =>
    have fe1 : ((p.length : Int) != (p2.length : Int)) = true := by rw [hlp, hlp2]; simp; omega
    have fe2 : (((p.length : Int) != (p2.length : Int)) == false) = false := by rw [fe1]; rfl
    refine ld1 2 rfl rfl ?_
    refine ld1 3 rfl rfl ?_
    refine ct fa2 ?_
    refine ct fa2 ?_
    refine ld1 2 rfl rfl ?_
    refine ct fa2 ?_
    refine ct fa2 ?_
    refine ld1 3 rfl rfl ?_
    refine ct fa2 ?_
    refine cf fa1 ?_
    refine ct fb2 ?_
    refine ct fb2 ?_
    refine ld1 2 rfl rfl ?_
    refine ct fb2 ?_
    refine ct fb2 ?_
    refine ld1 3 rfl rfl ?_
    refine ct fb2 ?_
    refine cf fb1 ?_
    refine ct fc2 ?_
    refine ct fc2 ?_
    refine ld1 2 rfl rfl ?_
    refine ct fc2 ?_
    refine ct fc2 ?_
    refine ct fc2 ?_
    refine ld1 3 rfl rfl ?_
    refine ct fc2 ?_
    refine ct fc2 ?_
    refine cf fc1 ?_
    refine ct fd2 ?_
    refine ct fd2 ?_
    refine ld1 2 rfl rfl ?_
    refine ct fd2 ?_
    refine ct fd2 ?_
    refine ct fd2 ?_
    refine ld1 3 rfl rfl ?_
    refine ct fd2 ?_
    refine ct fd2 ?_
    refine cf fd1 ?_
    refine ct fe1 ?_
    exact rt (congrArg Value.bool (by unfold smG; simp [he]))
  have fe1 : ((p.length : Int) != (p2.length : Int)) = false := by rw [hlp, hlp2]; simp; omega
  have fe2 : (((p.length : Int) != (p2.length : Int)) == false) = true := by rw [fe1]; rfl
  refine ld1 2 rfl rfl ?_
  refine ld1 3 rfl rfl ?_
  refine ct fa2 ?_
  refine ct fa2 ?_
  refine ld1 2 rfl rfl ?_
  refine ct fa2 ?_
  refine ct fa2 ?_
  refine ld1 3 rfl rfl ?_
  refine ct fa2 ?_
  refine cf fa1 ?_
  refine ct fb2 ?_
  refine ct fb2 ?_
  refine ld1 2 rfl rfl ?_
  refine ct fb2 ?_
  refine ct fb2 ?_
  refine ld1 3 rfl rfl ?_
  refine ct fb2 ?_
  refine cf fb1 ?_
  refine ct fc2 ?_
  refine ct fc2 ?_
  refine ld1 2 rfl rfl ?_
  refine ct fc2 ?_
  refine ct fc2 ?_
  refine ct fc2 ?_
  refine ld1 3 rfl rfl ?_
  refine ct fc2 ?_
  refine ct fc2 ?_
  refine cf fc1 ?_
  refine ct fd2 ?_
  refine ct fd2 ?_
  refine ld1 2 rfl rfl ?_
  refine ct fd2 ?_
  refine ct fd2 ?_
  refine ct fd2 ?_
  refine ld1 3 rfl rfl ?_
  refine ct fd2 ?_
  refine ct fd2 ?_
  refine cf fd1 ?_
  refine cf fe1 ?_
  have hspec : smG S (.mk k i s l' p') (.mk k2 i2 s2 l2' p2') = ((l'.zip l2').all (fun x => S x.1 x.2) && p'.all (hitJ S (.mk k2 i2 s2 l2' p2'))) := by unfold smG; simp [ha, hb, hc, hd, he]
  rw [hspec]
  refine ld1 2 rfl rfl ?_
  refine lp tab_ok (fun q : Nat => q ≤ l.length ∧ ((l'.zip l2').take q).all (fun x => S x.1 x.2) = true) (fun q => ⟨[(2, pj b2), (3, pj b3), (49, .int .i64 l.length), (50, .int .i64 (q : Nat))], [rs (rdT A (.mk k i s (.slice a l.length cap) (.slice a' p.length cap') l p) (.mk k i s l' p')), rs (rdT B (.mk k2 i2 s2 (.slice a2 l2.length cap2) (.slice a2' p2.length cap2') l2 p2) (.mk k2 i2 s2 l2' p2')), cl b2 (vcl k i s (.slice a l.length cap) (.slice a' p.length cap')).toArray TV, cl b3 (vcl k2 i2 s2 (.slice a2 l2.length cap2) (.slice a2' p2.length cap2')).toArray TV], []⟩) (fun q => l.length - q) 0 ⟨Nat.zero_le _, rfl⟩ ⟨⟨rfl, rfl, rfl, rfl, trivial⟩, .cons (.cons (.cons (.cons .nil))), rfl⟩ ?_
  rintro q ⟨hq, hall⟩
  skip
  refine cd (fun hql => ?_) (fun hql => ?_)
  · have hql : q < l.length := by omega
    have hc0 : l[q]? = some l[q] := List.getElem?_eq_getElem hql
    have hj0 : l'[q]? = some (l'[q]'(by omega)) := List.getElem?_eq_getElem (by omega)
    have hd0 : l2[q]? = some (l2[q]'(by omega)) := List.getElem?_eq_getElem (by omega)
    have he0 : l2'[q]? = some (l2'[q]'(by omega)) := List.getElem?_eq_getElem (by omega)
    generalize l[q] = c0 at hc0
    generalize l'[q]'(by omega) = j0 at hj0
    generalize l2[q]'(by omega) = d0 at hd0
    generalize l2'[q]'(by omega) = e0 at he0
    obtain ⟨b, o, rfl⟩ := ka (by omega)
    obtain ⟨bb, oo, rfl⟩ := kb (by omega)
    have hld : ∀ w, HeldT w A (.mk k i s (.slice (some ⟨b, o, none⟩) l.length cap) (.slice a' p.length cap') l p) (.mk k i s l' p') → w.rangeAt b (nad o (nmu ((q : Nat) : Int).toNat 5)) c0.cs.toArray.toList := fun w h => by
      rw [nad_eq, nmu_eq, Int.toNat_natCast]; exact h.2.item rfl hc0
    have hld2 : ∀ w, HeldT w B (.mk k2 i2 s2 (.slice (some ⟨bb, oo, none⟩) l2.length cap2) (.slice a2' p2.length cap2') l2 p2) (.mk k2 i2 s2 l2' p2') → w.rangeAt bb (nad oo (nmu ((q : Nat) : Int).toNat 5)) d0.cs.toArray.toList := fun w h => by
      rw [nad_eq, nmu_eq, Int.toNat_natCast]; exact h.2.item rfl hd0
    have hcall := fun (w : World) (h : HeldT w A (.mk k i s (.slice (some ⟨b, o, none⟩) l.length cap) (.slice a' p.length cap') l p) (.mk k i s l' p')) (h2 : HeldT w B (.mk k2 i2 s2 (.slice (some ⟨bb, oo, none⟩) l2.length cap2) (.slice a2' p2.length cap2') l2 p2) (.mk k2 i2 s2 l2' p2')) => hS c0 j0 d0 e0 A B w (hokl j0 (List.mem_of_getElem? hj0)) ⟨h.1, h.2.kid hc0 hj0⟩ ⟨h2.1, h2.2.kid hd0 he0⟩
    refine dr [rs (rdT A (.mk k i s (.slice (some ⟨b, o, none⟩) l.length cap) (.slice a' p.length cap') l p) (.mk k i s l' p')), rs (rdT B (.mk k2 i2 s2 (.slice (some ⟨bb, oo, none⟩) l2.length cap2) (.slice a2' p2.length cap2') l2 p2) (.mk k2 i2 s2 l2' p2')), cl b2 (vcl k i s (.slice (some ⟨b, o, none⟩) l.length cap) (.slice a' p.length cap')).toArray TV, cl b3 (vcl k2 i2 s2 (.slice (some ⟨bb, oo, none⟩) l2.length cap2) (.slice a2' p2.length cap2')).toArray TV] 99 (.t 0 (.t 1 (.t 2 (.t 3 (.t 4 (.t 5 (.t 6 (.t 7 (.t 8 (.t 9 (.t 10 (.t 11 .nil)))))))))))) tab_ok mixed_ok (by kernel_rfl) (.cons (.cons (.cons (.cons .nil)))) ?_
    refine ld1 2 rfl rfl ?_
    refine ⟨by omega, by omega, ?_⟩
    refine .mk c0.cs.toArray (by rw [List.size_toArray, CT.cs5]) (fun w hs => hld w (hs.res (k := 0) rfl)) ?_
    refine ld1 3 rfl rfl ?_
    refine ⟨by omega, by omega, ?_⟩
    refine .mk d0.cs.toArray (by rw [List.size_toArray, CT.cs5]) (fun w hs => hld2 w (hs.res (k := 1) rfl)) ?_
    have hzt := zip_take (S := S) hj0 he0
    cases hSj : S j0 e0 with
    | true =>
      rw [hSj] at hcall hzt
      refine czs (fun w hs => hcall w (hs.res (k := 0) rfl) (hs.res (k := 1) rfl)) ?_
      refine cf rfl ?_
      refine .as ((q + 1 : Nat) : Int) (by simp) (by simp only [mn]; omega) (by simp only [mx]; unfold maxLen at k1; omega) ?_
      exact ⟨q + 1, ⟨by omega, by rw [hzt, hall]; rfl⟩, by omega, ⟨⟨rfl, rfl, rfl, rfl, trivial⟩, .cons (.cons (.cons (.cons .nil))), rfl⟩⟩
    | false =>
      rw [hSj] at hcall
      refine czs (fun w hs => hcall w (hs.res (k := 0) rfl) (hs.res (k := 1) rfl)) ?_
      refine ct rfl ?_
      exact rt (congrArg Value.bool (by rw [zip_no hj0 he0 hSj]; rfl))
  have hqe : (l'.zip l2').take q = l'.zip l2' := List.take_of_length_le (by rw [List.length_zip]; omega)
  rw [hqe] at hall
  rw [hall, Bool.true_and]
  clear hq hql hall hqe
  refine ld1 2 rfl rfl ?_
  refine lp tab_ok (fun q : Nat => q ≤ p.length ∧ (p'.take q).all (hitJ S (.mk k2 i2 s2 l2' p2')) = true) (fun q => ⟨[(2, pj b2), (3, pj b3), (67, .slice a' p.length cap'), (68, .int .i64 p.length), (69, .int .i64 (q : Nat))], [rs (rdT A (.mk k i s (.slice a l.length cap) (.slice a' p.length cap') l p) (.mk k i s l' p')), rs (rdT B (.mk k2 i2 s2 (.slice a2 l2.length cap2) (.slice a2' p2.length cap2') l2 p2) (.mk k2 i2 s2 l2' p2')), cl b2 (vcl k i s (.slice a l.length cap) (.slice a' p.length cap')).toArray TV, cl b3 (vcl k2 i2 s2 (.slice a2 l2.length cap2) (.slice a2' p2.length cap2')).toArray TV], []⟩) (fun q => p.length - q) 0 ⟨Nat.zero_le _, rfl⟩ ⟨⟨rfl, rfl, rfl, rfl, rfl, trivial⟩, .cons (.cons (.cons (.cons .nil))), rfl⟩ ?_
  rintro q ⟨hq, hall⟩
  skip
  refine cd (fun hql => ?_) (fun hql => ?_)
  · have hql : q < p.length := by omega
    have hc0 : p[q]? = some p[q] := List.getElem?_eq_getElem hql
    have hj0 : p'[q]? = some (p'[q]'(by omega)) := List.getElem?_eq_getElem (by omega)
    generalize p[q] = c0 at hc0
    generalize p'[q]'(by omega) = j0 at hj0
    have hnm := kn q c0 j0 hc0 hj0
    have hcs0 : CS c0.2 j0.2 := by cases hcs with | mk _ _ _ _ _ _ kp => exact kp q c0 j0 hc0 hj0
    obtain ⟨b, o, rfl⟩ := ka' (by omega)
    obtain ⟨name, c1⟩ := c0
    obtain ⟨nj, j1⟩ := j0
    obtain rfl : name = nj := hnm
    dsimp only at hcs0
    have hone := hcs0.one
    have hokc : ok j1 = true := hokp (name, j1) (List.mem_of_getElem? hj0)
    have hp1 : (p'.take (q + 1)).all (hitJ S (.mk k2 i2 s2 l2' p2')) = ((p'.take q).all (hitJ S (.mk k2 i2 s2 l2' p2')) && hitJ S (.mk k2 i2 s2 l2' p2') (name, j1)) := by
      rw [List.take_add_one, hj0, List.all_append]; simp
    have hpn : hitJ S (.mk k2 i2 s2 l2' p2') (name, j1) = false → p'.all (hitJ S (.mk k2 i2 s2 l2' p2')) = false := fun h => by
      rw [List.all_eq_false]
      exact ⟨(name, j1), List.mem_of_getElem? hj0, by rw [h]; simp⟩
    obtain ⟨ck, ci, cs, cvl, cvp, cl', cp', rfl⟩ : ∃ k i s vl vp l p, c1 = CT.mk k i s vl vp l p := by cases c1; exact ⟨_, _, _, _, _, _, _, rfl⟩
    have hld : ∀ w, HeldT w A (.mk k i s (.slice a l.length cap) (.slice (some ⟨b, o, none⟩) p.length cap') l p) (.mk k i s l' p') → w.rangeAt b (nad o (nmu ((q : Nat) : Int).toNat 6)) #[sj name, .int .i64 ck, .int .i64 ci, sj cs, cvl, cvp].toList := fun w h => by
      rw [nad_eq, nmu_eq, Int.toNat_natCast]; exact h.2.pair rfl hc0
    have hcall := fun (g : CT) (gj : JV) (w : World) (h : HeldT w A (.mk k i s (.slice a l.length cap) (.slice (some ⟨b, o, none⟩) p.length cap') l p) (.mk k i s l' p')) (h2 : HeldT w B g gj) => hS _ j1 g gj A B w hokc ⟨h.1, h.2.kidp hc0 hj0⟩ h2
    refine ⟨by omega, by omega, ?_⟩
    refine .mk #[sj name, .int .i64 ck, .int .i64 ci, sj cs, cvl, cvp] rfl (fun w hs => hld w (hs.res (k := 0) rfl)) ?_
    intro b7
    have hone6 : (#[sj name, .int .i64 ck, .int .i64 ci, sj cs, cvl, cvp] : Array Value).toList.all (·.oneCell') = true := by
      show ((sj name).oneCell' && (vcl ck ci cs cvl cvp).all (·.oneCell')) = true
      rw [show (vcl ck ci cs cvl cvp).all (·.oneCell') = true from hone]; rfl
    refine sN 4 rfl rfl hone6 ?_ (by kernel_rfl)
    refine ldN 3 rfl rfl ?_
    refine ld1 4 rfl (v := sj name) rfl ?_
    have hg := fun w => get_any B (.mk k2 i2 s2 (.slice a2 l2.length cap2) (.slice a2' p2.length cap2') l2 p2) (.mk k2 i2 s2 l2' p2') name w
    rcases got_both hcs2 name with ⟨g1, g2⟩ | ⟨g, gj, g1, g2, gcs, gh⟩
    · rw [g1] at hg
      refine cvs (fun w hs => hg w (hs.res (k := 1) rfl)) ?_
      intro b8
      refine sN 5 rfl rfl (by simp [Value.oneCell']) ?_ (by kernel_rfl)
      iterate 5 refine cf rfl ?_
      refine ct rfl ?_
      refine ct rfl ?_
      exact rt (congrArg Value.bool (by rw [hpn (by unfold hitJ; rw [g2])]))
    · rw [g1] at hg
      have hhit : hitJ S (.mk k2 i2 s2 l2' p2') (name, j1) = S j1 gj := hit_some g2
      have h5 : g.cs.toArray.size = 5 := by rw [List.size_toArray, CT.cs5]
      refine cvs (fun w hs => hg w (hs.res (k := 1) rfl)) ?_
      intro b8
      refine sN 5 rfl (by rw [h5]; rfl) (by simpa using gcs.one) ?_ (by rw [h5]; kernel_rfl)
      iterate 2 refine ct rfl ?_
      refine ldP 4 (d := #[.int .i64 ck, .int .i64 ci, sj cs, cvl, cvp]) rfl rfl rfl ?_
      refine ct rfl ?_
      refine ldN 5 rfl h5 ?_
      refine ct rfl ?_
      have hcall := hcall g gj
      cases hSj : S j1 gj with
      | true =>
        rw [hSj] at hcall hhit
        refine cvs (fun w hs => hcall w (hs.res (k := 0) rfl) (gh B w (hs.res (k := 1) rfl))) ?_
        refine ct rfl ?_
        refine cf rfl ?_
        refine cf rfl ?_
        refine .as ((q + 1 : Nat) : Int) (by simp) (by simp only [mn]; omega) (by simp only [mx]; unfold maxLen at k3; omega) ?_
        exact ⟨q + 1, ⟨by omega, by rw [hp1, hall, hhit]; rfl⟩, by omega, ⟨⟨rfl, rfl, rfl, rfl, rfl, trivial⟩, .cons (.cons (.cons (.cons (.drop (.drop .nil))))), rfl⟩⟩
      | false =>
        rw [hSj] at hcall hhit
        refine cvs (fun w hs => hcall w (hs.res (k := 0) rfl) (gh B w (hs.res (k := 1) rfl))) ?_
        refine ct rfl ?_
        refine cf rfl ?_
        refine ct rfl ?_
        exact rt (congrArg Value.bool (by rw [hpn hhit]))
  have hqe : (p'.take q) = p' := List.take_of_length_le (by omega)
  rw [hqe] at hall
  exact rt (congrArg Value.bool hall.symm)
set_option maxRecDepth 100000 in
set_option maxHeartbeats 8000000 in
theorem rsame_core (S : JV → JV → Bool) (ok : JV → Bool)
    (hS : ∀ (c : CT) (j : JV) (d : CT) (jd : JV) (A B : Nat → Prop) (w : World), ok j = true → HeldT w A c j → HeldT w B d jd → Calls Tryd.prog 24 ([.agg c.cs.toArray, .agg d.cs.toArray] : List Value).toArray w fun e w' => e = .returned (.bool (S j jd)) ∧ Below w.heap.size w w')
    (c : CT) (j : JV) (d : CT) (jd : JV) (A B : Nat → Prop) (w : World) (hok : j.oks ok) (h : HeldT w A c j) (h2 : HeldT w B d jd) : Calls Tryd.prog 24 ([.agg c.cs.toArray, .agg d.cs.toArray] : List Value).toArray w fun e w' => e = .returned (.bool (smG S j jd)) ∧ Below w.heap.size w w' := by
  have hcs := h.2.cs
  have hcs2 := h2.2.cs
  obtain ⟨k, i, s, vl, vp, l, p, rfl⟩ : ∃ k i s vl vp l p, c = CT.mk k i s vl vp l p := by cases c; exact ⟨_, _, _, _, _, _, _, rfl⟩
  obtain ⟨l', p', rfl⟩ : ∃ l' p', j = .mk k i s l' p' := by cases hcs; exact ⟨_, _, rfl⟩
  obtain ⟨hll, hlp, hl, hp, kn⟩ : l.length = l'.length ∧ p.length = p'.length ∧ SlOf vl l.length ∧ SlOf vp p.length ∧ ∀ (n : Nat) (c : Bs × CT) (j : Bs × JV), p[n]? = some c → p'[n]? = some j → c.1 = j.1 := by cases hcs; exact ⟨‹_›, ‹_›, ‹_›, ‹_›, ‹_›⟩
  obtain ⟨k2, i2, s2, vl2, vp2, l2, p2, rfl⟩ : ∃ k i s vl vp l p, d = CT.mk k i s vl vp l p := by cases d; exact ⟨_, _, _, _, _, _, _, rfl⟩
  obtain ⟨l2', p2', rfl⟩ : ∃ l' p', jd = .mk k2 i2 s2 l' p' := by cases hcs2; exact ⟨_, _, rfl⟩
  obtain ⟨hll2, hlp2, hl2, hp2⟩ : l2.length = l2'.length ∧ p2.length = p2'.length ∧ SlOf vl2 l2.length ∧ SlOf vp2 p2.length := by cases hcs2; exact ⟨‹_›, ‹_›, ‹_›, ‹_›⟩
  obtain ⟨k1, a, cap, rfl, ka⟩ := hl
  obtain ⟨k3, a', cap', rfl, ka'⟩ := hp
  obtain ⟨m1, a2, cap2, rfl, kb⟩ := hl2
  obtain ⟨m3, a2', cap2', rfl, kb'⟩ := hp2
  have hokl : ∀ x ∈ l', ok x = true := fun x hx => hok.1 x hx
  have hokp : ∀ q ∈ p', ok q.2 = true := fun x hx => hok.2 x hx

  refine enterV tab_ok Tryd.func24 rfl Tryd.ntmps24 rfl (St.rdT2 h h2) ?_
  intro b2 b3
  by_cases ha : k = k2
  case neg =>
    have fa1 : (k != k2) = true := by simp [ha]
    have fa2 : ((k != k2) == false) = false := by rw [fa1]; rfl
    refine ld1 2 rfl rfl ?_
    refine ld1 3 rfl rfl ?_
    refine cf fa2 ?_
    refine cf fa2 ?_
    refine cf fa2 ?_
    refine cf fa2 ?_
    refine cf fa2 ?_
    refine ct fa1 ?_
    refine cf rfl ?_
    refine cf rfl ?_
    refine cf rfl ?_
    refine cf rfl ?_
    refine cf rfl ?_
    refine ct rfl ?_
    refine cf rfl ?_
    refine cf rfl ?_
    refine cf rfl ?_
    refine cf rfl ?_
    refine cf rfl ?_
    refine cf rfl ?_
    refine cf rfl ?_
    refine ct rfl ?_
    refine cf rfl ?_
    refine cf rfl ?_
    refine cf rfl ?_
    refine cf rfl ?_
    refine cf rfl ?_
    refine cf rfl ?_
    refine cf rfl ?_
    refine ct rfl ?_
    refine ct rfl ?_
    exact rt (congrArg Value.bool (by unfold smG; simp [ha]))
  have fa1 : (k != k2) = false := by simp [ha]
  have fa2 : ((k != k2) == false) = true := by rw [fa1]; rfl
  by_cases hb : i = i2
  case neg =>
    have fb1 : (i != i2) = true := by simp [hb]
    have fb2 : ((i != i2) == false) = false := by rw [fb1]; rfl
    refine ld1 2 rfl rfl ?_
    refine ld1 3 rfl rfl ?_
    refine ct fa2 ?_
    refine ct fa2 ?_
    refine ld1 2 rfl rfl ?_
    refine ct fa2 ?_
    refine ct fa2 ?_
    refine ld1 3 rfl rfl ?_
    refine ct fa2 ?_
    refine cf fa1 ?_
    refine cf fb2 ?_
    refine cf fb2 ?_
    refine cf fb2 ?_
    refine cf fb2 ?_
    refine cf fb2 ?_
    refine ct fb1 ?_
    refine cf rfl ?_
    refine cf rfl ?_
    refine cf rfl ?_
    refine cf rfl ?_
    refine cf rfl ?_
    refine cf rfl ?_
    refine cf rfl ?_
    refine ct rfl ?_
    refine cf rfl ?_
    refine cf rfl ?_
    refine cf rfl ?_
    refine cf rfl ?_
    refine cf rfl ?_
    refine cf rfl ?_
    refine cf rfl ?_
    refine ct rfl ?_
    refine ct rfl ?_
    exact rt (congrArg Value.bool (by unfold smG; simp [hb]))
  have fb1 : (i != i2) = false := by simp [hb]
  have fb2 : ((i != i2) == false) = true := by rw [fb1]; rfl
  by_cases hc : s = s2
  case neg =>
    have fc1 : (!((ByteArray.mk s.toArray).toList == (ByteArray.mk s2.toArray).toList)) = true := by rw [list_beq]; simp [hc]
    have fc2 : ((!((ByteArray.mk s.toArray).toList == (ByteArray.mk s2.toArray).toList)) == false) = false := by rw [fc1]; rfl
    refine ld1 2 rfl rfl ?_
    refine ld1 3 rfl rfl ?_
    refine ct fa2 ?_
    refine ct fa2 ?_
    refine ld1 2 rfl rfl ?_
    refine ct fa2 ?_
    refine ct fa2 ?_
    refine ld1 3 rfl rfl ?_
    refine ct fa2 ?_
    refine cf fa1 ?_
    refine ct fb2 ?_
    refine ct fb2 ?_
    refine ld1 2 rfl rfl ?_
    refine ct fb2 ?_
    refine ct fb2 ?_
    refine ld1 3 rfl rfl ?_
    refine ct fb2 ?_
    refine cf fb1 ?_
    refine cf fc2 ?_
    refine cf fc2 ?_
    refine cf fc2 ?_
    refine cf fc2 ?_
    refine cf fc2 ?_
    refine cf fc2 ?_
    refine cf fc2 ?_
    refine ct fc1 ?_
    refine cf rfl ?_
    refine cf rfl ?_
    refine cf rfl ?_
    refine cf rfl ?_
    refine cf rfl ?_
    refine cf rfl ?_
    refine cf rfl ?_
    refine ct rfl ?_
    refine ct rfl ?_
    exact rt (congrArg Value.bool (by unfold smG; simp [hc]))
  have fc1 : (!((ByteArray.mk s.toArray).toList == (ByteArray.mk s2.toArray).toList)) = false := by rw [list_beq]; simp [hc]
  have fc2 : ((!((ByteArray.mk s.toArray).toList == (ByteArray.mk s2.toArray).toList)) == false) = true := by rw [fc1]; rfl
  by_cases hd : l'.length = l2'.length
  case neg =>
    have fd1 : ((l.length : Int) != (l2.length : Int)) = true := by rw [hll, hll2]; simp; omega
    have fd2 : (((l.length : Int) != (l2.length : Int)) == false) = false := by rw [fd1]; rfl
    refine ld1 2 rfl rfl ?_
    refine ld1 3 rfl rfl ?_
    refine ct fa2 ?_
    refine ct fa2 ?_
    refine ld1 2 rfl rfl ?_
    refine ct fa2 ?_
    refine ct fa2 ?_
    refine ld1 3 rfl rfl ?_
    refine ct fa2 ?_
    refine cf fa1 ?_
    refine ct fb2 ?_
    refine ct fb2 ?_
    refine ld1 2 rfl rfl ?_
    refine ct fb2 ?_
    refine ct fb2 ?_
    refine ld1 3 rfl rfl ?_
    refine ct fb2 ?_
    refine cf fb1 ?_
    refine ct fc2 ?_
    refine ct fc2 ?_
    refine ld1 2 rfl rfl ?_
    refine ct fc2 ?_
    refine ct fc2 ?_
    refine ct fc2 ?_
    refine ld1 3 rfl rfl ?_
    refine ct fc2 ?_
    refine ct fc2 ?_
    refine cf fc1 ?_
    refine cf fd2 ?_
    refine cf fd2 ?_
    refine cf fd2 ?_
    refine cf fd2 ?_
    refine cf fd2 ?_
    refine cf fd2 ?_
    refine cf fd2 ?_
    refine ct fd1 ?_
    refine ct rfl ?_
    exact rt (congrArg Value.bool (by unfold smG; simp [hd]))
  have fd1 : ((l.length : Int) != (l2.length : Int)) = false := by rw [hll, hll2]; simp; omega
  have fd2 : (((l.length : Int) != (l2.length : Int)) == false) = true := by rw [fd1]; rfl
  by_cases he : p'.length = p2'.length
  case neg =>
    have fe1 : ((p.length : Int) != (p2.length : Int)) = true := by rw [hlp, hlp2]; simp; omega
    have fe2 : (((p.length : Int) != (p2.length : Int)) == false) = false := by rw [fe1]; rfl
    refine ld1 2 rfl rfl ?_
    refine ld1 3 rfl rfl ?_
    refine ct fa2 ?_
    refine ct fa2 ?_
    refine ld1 2 rfl rfl ?_
    refine ct fa2 ?_
    refine ct fa2 ?_
    refine ld1 3 rfl rfl ?_
    refine ct fa2 ?_
    refine cf fa1 ?_
    refine ct fb2 ?_
    refine ct fb2 ?_
    refine ld1 2 rfl rfl ?_
    refine ct fb2 ?_
    refine ct fb2 ?_
    refine ld1 3 rfl rfl ?_
    refine ct fb2 ?_
    refine cf fb1 ?_
    refine ct fc2 ?_
    refine ct fc2 ?_
    refine ld1 2 rfl rfl ?_
    refine ct fc2 ?_
    refine ct fc2 ?_
    refine ct fc2 ?_
    refine ld1 3 rfl rfl ?_
    refine ct fc2 ?_
    refine ct fc2 ?_
    refine cf fc1 ?_
    refine ct fd2 ?_
    refine ct fd2 ?_
    refine ld1 2 rfl rfl ?_
    refine ct fd2 ?_
    refine ct fd2 ?_
    refine ct fd2 ?_
    refine ld1 3 rfl rfl ?_
    refine ct fd2 ?_
    refine ct fd2 ?_
    refine cf fd1 ?_
    refine ct fe1 ?_
    exact rt (congrArg Value.bool (by unfold smG; simp [he]))
  have fe1 : ((p.length : Int) != (p2.length : Int)) = false := by rw [hlp, hlp2]; simp; omega
  have fe2 : (((p.length : Int) != (p2.length : Int)) == false) = true := by rw [fe1]; rfl
  refine ld1 2 rfl rfl ?_
  refine ld1 3 rfl rfl ?_
  refine ct fa2 ?_
  refine ct fa2 ?_
  refine ld1 2 rfl rfl ?_
  refine ct fa2 ?_
  refine ct fa2 ?_
  refine ld1 3 rfl rfl ?_
  refine ct fa2 ?_
  refine cf fa1 ?_
  refine ct fb2 ?_
  refine ct fb2 ?_
  refine ld1 2 rfl rfl ?_
  refine ct fb2 ?_
  refine ct fb2 ?_
  refine ld1 3 rfl rfl ?_
  refine ct fb2 ?_
  refine cf fb1 ?_
  refine ct fc2 ?_
  refine ct fc2 ?_
  refine ld1 2 rfl rfl ?_
  refine ct fc2 ?_
  refine ct fc2 ?_
  refine ct fc2 ?_
  refine ld1 3 rfl rfl ?_
  refine ct fc2 ?_
  refine ct fc2 ?_
  refine cf fc1 ?_
  refine ct fd2 ?_
  refine ct fd2 ?_
  refine ld1 2 rfl rfl ?_
  refine ct fd2 ?_
  refine ct fd2 ?_
  refine ct fd2 ?_
  refine ld1 3 rfl rfl ?_
  refine ct fd2 ?_
  refine ct fd2 ?_
  refine cf fd1 ?_
  refine cf fe1 ?_
  have hspec : smG S (.mk k i s l' p') (.mk k2 i2 s2 l2' p2') = ((l'.zip l2').all (fun x => S x.1 x.2) && p'.all (hitJ S (.mk k2 i2 s2 l2' p2'))) := by unfold smG; simp [ha, hb, hc, hd, he]
  rw [hspec]
  skip
  refine lp tab_ok (fun q : Nat => q ≤ l.length ∧ ((l'.zip l2').take q).all (fun x => S x.1 x.2) = true) (fun q => ⟨[(2, pj b2), (3, pj b3), (5, .int .i64 (q : Nat))], [rs (rdT A (.mk k i s (.slice a l.length cap) (.slice a' p.length cap') l p) (.mk k i s l' p')), rs (rdT B (.mk k2 i2 s2 (.slice a2 l2.length cap2) (.slice a2' p2.length cap2') l2 p2) (.mk k2 i2 s2 l2' p2')), cl b2 (vcl k i s (.slice a l.length cap) (.slice a' p.length cap')).toArray TV, cl b3 (vcl k2 i2 s2 (.slice a2 l2.length cap2) (.slice a2' p2.length cap2')).toArray TV], []⟩) (fun q => l.length - q) 0 ⟨Nat.zero_le _, rfl⟩ ⟨⟨rfl, rfl, rfl, trivial⟩, .cons (.cons (.cons (.cons .nil))), rfl⟩ ?_
  rintro q ⟨hq, hall⟩
  refine ld1 2 rfl rfl ?_
  refine cd (fun hql => ?_) (fun hql => ?_)
  · have hql : q < l.length := by omega
    have hc0 : l[q]? = some l[q] := List.getElem?_eq_getElem hql
    have hj0 : l'[q]? = some (l'[q]'(by omega)) := List.getElem?_eq_getElem (by omega)
    have hd0 : l2[q]? = some (l2[q]'(by omega)) := List.getElem?_eq_getElem (by omega)
    have he0 : l2'[q]? = some (l2'[q]'(by omega)) := List.getElem?_eq_getElem (by omega)
    generalize l[q] = c0 at hc0
    generalize l'[q]'(by omega) = j0 at hj0
    generalize l2[q]'(by omega) = d0 at hd0
    generalize l2'[q]'(by omega) = e0 at he0
    obtain ⟨b, o, rfl⟩ := ka (by omega)
    obtain ⟨bb, oo, rfl⟩ := kb (by omega)
    have hld : ∀ w, HeldT w A (.mk k i s (.slice (some ⟨b, o, none⟩) l.length cap) (.slice a' p.length cap') l p) (.mk k i s l' p') → w.rangeAt b (nad o (nmu ((q : Nat) : Int).toNat 5)) c0.cs.toArray.toList := fun w h => by
      rw [nad_eq, nmu_eq, Int.toNat_natCast]; exact h.2.item rfl hc0
    have hld2 : ∀ w, HeldT w B (.mk k2 i2 s2 (.slice (some ⟨bb, oo, none⟩) l2.length cap2) (.slice a2' p2.length cap2') l2 p2) (.mk k2 i2 s2 l2' p2') → w.rangeAt bb (nad oo (nmu ((q : Nat) : Int).toNat 5)) d0.cs.toArray.toList := fun w h => by
      rw [nad_eq, nmu_eq, Int.toNat_natCast]; exact h.2.item rfl hd0
    have hcall := fun (w : World) (h : HeldT w A (.mk k i s (.slice (some ⟨b, o, none⟩) l.length cap) (.slice a' p.length cap') l p) (.mk k i s l' p')) (h2 : HeldT w B (.mk k2 i2 s2 (.slice (some ⟨bb, oo, none⟩) l2.length cap2) (.slice a2' p2.length cap2') l2 p2) (.mk k2 i2 s2 l2' p2')) => hS c0 j0 d0 e0 A B w (hokl j0 (List.mem_of_getElem? hj0)) ⟨h.1, h.2.kid hc0 hj0⟩ ⟨h2.1, h2.2.kid hd0 he0⟩
    refine dr [rs (rdT A (.mk k i s (.slice (some ⟨b, o, none⟩) l.length cap) (.slice a' p.length cap') l p) (.mk k i s l' p')), rs (rdT B (.mk k2 i2 s2 (.slice (some ⟨bb, oo, none⟩) l2.length cap2) (.slice a2' p2.length cap2') l2 p2) (.mk k2 i2 s2 l2' p2')), cl b2 (vcl k i s (.slice (some ⟨b, o, none⟩) l.length cap) (.slice a' p.length cap')).toArray TV, cl b3 (vcl k2 i2 s2 (.slice (some ⟨bb, oo, none⟩) l2.length cap2) (.slice a2' p2.length cap2')).toArray TV] 99 (.t 0 (.t 1 (.t 2 (.t 3 (.t 4 (.t 5 (.t 6 (.t 7 (.t 8 (.t 9 (.t 10 (.t 11 .nil)))))))))))) tab_ok mixed_ok (by kernel_rfl) (.cons (.cons (.cons (.cons .nil)))) ?_
    refine ld1 2 rfl rfl ?_
    refine ⟨by omega, by omega, ?_⟩
    refine .mk c0.cs.toArray (by rw [List.size_toArray, CT.cs5]) (fun w hs => hld w (hs.res (k := 0) rfl)) ?_
    refine ld1 3 rfl rfl ?_
    refine ⟨by omega, by omega, ?_⟩
    refine .mk d0.cs.toArray (by rw [List.size_toArray, CT.cs5]) (fun w hs => hld2 w (hs.res (k := 1) rfl)) ?_
    have hzt := zip_take (S := S) hj0 he0
    cases hSj : S j0 e0 with
    | true =>
      rw [hSj] at hcall hzt
      refine czs (fun w hs => hcall w (hs.res (k := 0) rfl) (hs.res (k := 1) rfl)) ?_
      refine cf rfl ?_
      refine .as ((q + 1 : Nat) : Int) (by simp) (by simp only [mn]; omega) (by simp only [mx]; unfold maxLen at k1; omega) ?_
      exact ⟨q + 1, ⟨by omega, by rw [hzt, hall]; rfl⟩, by omega, ⟨⟨rfl, rfl, rfl, trivial⟩, .cons (.cons (.cons (.cons .nil))), rfl⟩⟩
    | false =>
      rw [hSj] at hcall
      refine czs (fun w hs => hcall w (hs.res (k := 0) rfl) (hs.res (k := 1) rfl)) ?_
      refine ct rfl ?_
      exact rt (congrArg Value.bool (by rw [zip_no hj0 he0 hSj]; rfl))
  have hqe : (l'.zip l2').take q = l'.zip l2' := List.take_of_length_le (by rw [List.length_zip]; omega)
  rw [hqe] at hall
  rw [hall, Bool.true_and]
  clear hq hql hall hqe
  skip
  refine lp tab_ok (fun q : Nat => q ≤ p.length ∧ (p'.take q).all (hitJ S (.mk k2 i2 s2 l2' p2')) = true) (fun q => ⟨[(2, pj b2), (3, pj b3), (6, .int .i64 (q : Nat))], [rs (rdT A (.mk k i s (.slice a l.length cap) (.slice a' p.length cap') l p) (.mk k i s l' p')), rs (rdT B (.mk k2 i2 s2 (.slice a2 l2.length cap2) (.slice a2' p2.length cap2') l2 p2) (.mk k2 i2 s2 l2' p2')), cl b2 (vcl k i s (.slice a l.length cap) (.slice a' p.length cap')).toArray TV, cl b3 (vcl k2 i2 s2 (.slice a2 l2.length cap2) (.slice a2' p2.length cap2')).toArray TV], []⟩) (fun q => p.length - q) 0 ⟨Nat.zero_le _, rfl⟩ ⟨⟨rfl, rfl, rfl, trivial⟩, .cons (.cons (.cons (.cons .nil))), rfl⟩ ?_
  rintro q ⟨hq, hall⟩
  refine ld1 2 rfl rfl ?_
  refine cd (fun hql => ?_) (fun hql => ?_)
  · have hql : q < p.length := by omega
    have hc0 : p[q]? = some p[q] := List.getElem?_eq_getElem hql
    have hj0 : p'[q]? = some (p'[q]'(by omega)) := List.getElem?_eq_getElem (by omega)
    generalize p[q] = c0 at hc0
    generalize p'[q]'(by omega) = j0 at hj0
    have hnm := kn q c0 j0 hc0 hj0
    have hcs0 : CS c0.2 j0.2 := by cases hcs with | mk _ _ _ _ _ _ kp => exact kp q c0 j0 hc0 hj0
    obtain ⟨b, o, rfl⟩ := ka' (by omega)
    obtain ⟨name, c1⟩ := c0
    obtain ⟨nj, j1⟩ := j0
    obtain rfl : name = nj := hnm
    dsimp only at hcs0
    have hone := hcs0.one
    have hokc : ok j1 = true := hokp (name, j1) (List.mem_of_getElem? hj0)
    have hp1 : (p'.take (q + 1)).all (hitJ S (.mk k2 i2 s2 l2' p2')) = ((p'.take q).all (hitJ S (.mk k2 i2 s2 l2' p2')) && hitJ S (.mk k2 i2 s2 l2' p2') (name, j1)) := by
      rw [List.take_add_one, hj0, List.all_append]; simp
    have hpn : hitJ S (.mk k2 i2 s2 l2' p2') (name, j1) = false → p'.all (hitJ S (.mk k2 i2 s2 l2' p2')) = false := fun h => by
      rw [List.all_eq_false]
      exact ⟨(name, j1), List.mem_of_getElem? hj0, by rw [h]; simp⟩
    have hld0 : ∀ w, HeldT w A (.mk k i s (.slice a l.length cap) (.slice (some ⟨b, o, none⟩) p.length cap') l p) (.mk k i s l' p') → w.cell? ⟨b, nad (nad o (nmu ((q : Nat) : Int).toNat 6)) 0, none⟩ = some (sj name) := fun w h => by
      have := h.2.pair rfl hc0
      rw [nad_eq, nad_eq, nmu_eq, Int.toNat_natCast]; exact this 0 _ rfl
    have hld : ∀ w, HeldT w A (.mk k i s (.slice a l.length cap) (.slice (some ⟨b, o, none⟩) p.length cap') l p) (.mk k i s l' p') → w.rangeAt b (nad (nad o (nmu ((q : Nat) : Int).toNat 6)) 1) c1.cs.toArray.toList := fun w h => by
      have := h.2.pair rfl hc0
      rw [nad_eq, nad_eq, nmu_eq, Int.toNat_natCast]
      intro y u hu
      rw [Nat.add_assoc (o + q * 6), Nat.add_comm 1 y]
      exact this (y + 1) u (by simpa using hu)
    have hcall := fun (g : CT) (gj : JV) (w : World) (h : HeldT w A (.mk k i s (.slice a l.length cap) (.slice (some ⟨b, o, none⟩) p.length cap') l p) (.mk k i s l' p')) (h2 : HeldT w B g gj) => hS c1 j1 g gj A B w hokc ⟨h.1, h.2.kidp hc0 hj0⟩ h2
    refine dr [rs (rdT A (.mk k i s (.slice a l.length cap) (.slice (some ⟨b, o, none⟩) p.length cap') l p) (.mk k i s l' p')), rs (rdT B (.mk k2 i2 s2 (.slice a2 l2.length cap2) (.slice a2' p2.length cap2') l2 p2) (.mk k2 i2 s2 l2' p2')), cl b2 (vcl k i s (.slice a l.length cap) (.slice (some ⟨b, o, none⟩) p.length cap')).toArray TV, cl b3 (vcl k2 i2 s2 (.slice a2 l2.length cap2) (.slice a2' p2.length cap2')).toArray TV] 99 (.t 0 (.t 1 (.t 2 (.t 3 (.t 4 (.t 5 (.t 6 (.t 7 (.t 8 (.t 9 (.t 10 (.n 11 (.n 12 (.t 13 .nil)))))))))))))) tab_ok mixed_ok (by kernel_rfl) (.cons (.cons (.cons (.cons .nil)))) ?_
    refine ldN 3 rfl rfl ?_
    refine ld1 2 rfl rfl ?_
    refine ⟨by omega, by omega, ?_⟩
    refine .mk (sj name) (fun w hs => hld0 w (hs.res (k := 0) rfl)) ?_
    have hg := fun w => rget_any B (.mk k2 i2 s2 (.slice a2 l2.length cap2) (.slice a2' p2.length cap2') l2 p2) (.mk k2 i2 s2 l2' p2') name w
    rcases got_both hcs2 name with ⟨g1, g2⟩ | ⟨g, gj, g1, g2, gcs, gh⟩
    · rw [g1] at hg
      refine czs (fun w hs => hg w (hs.res (k := 1) rfl)) ?_
      intro b7
      refine ⟨.cons (.cons (.cons (.cons (.drop .nil)))), ?_⟩
      refine sN 4 rfl rfl (by simp [Value.oneCell']) ?_ (by kernel_rfl)
      refine ⟨.cons (.cons (.cons (.cons (.drop .nil)))), ?_⟩
      refine dr [rs (rdT A (.mk k i s (.slice a l.length cap) (.slice (some ⟨b, o, none⟩) p.length cap') l p) (.mk k i s l' p')), rs (rdT B (.mk k2 i2 s2 (.slice a2 l2.length cap2) (.slice a2' p2.length cap2') l2 p2) (.mk k2 i2 s2 l2' p2')), cl b2 (vcl k i s (.slice a l.length cap) (.slice (some ⟨b, o, none⟩) p.length cap')).toArray TV, cl b3 (vcl k2 i2 s2 (.slice a2 l2.length cap2) (.slice a2' p2.length cap2')).toArray TV] 99 (.t 0 (.t 1 (.t 2 (.t 3 (.t 4 (.t 5 (.t 6 (.t 7 (.t 8 (.t 9 (.t 10 (.t 11 (.t 12 .nil))))))))))))) tab_ok mixed_ok (by kernel_rfl) (.cons (.cons (.cons (.cons (.drop .nil))))) ?_
      iterate 9 refine cf rfl ?_
      refine ct rfl ?_
      refine ct rfl ?_
      exact rt (congrArg Value.bool (by rw [hpn (by unfold hitJ; rw [g2])]))
    · rw [g1] at hg
      have hhit : hitJ S (.mk k2 i2 s2 l2' p2') (name, j1) = S j1 gj := hit_some g2
      have h5 : g.cs.toArray.size = 5 := by rw [List.size_toArray, CT.cs5]
      refine czs (fun w hs => hg w (hs.res (k := 1) rfl)) ?_
      intro b7
      refine ⟨.cons (.cons (.cons (.cons (.drop .nil)))), ?_⟩
      refine sN 4 rfl (by rw [h5]; rfl) (by simpa using gcs.one) ?_ (by rw [h5]; kernel_rfl)
      refine ⟨.cons (.cons (.cons (.cons (.drop .nil)))), ?_⟩
      refine dr [rs (rdT A (.mk k i s (.slice a l.length cap) (.slice (some ⟨b, o, none⟩) p.length cap') l p) (.mk k i s l' p')), rs (rdT B (.mk k2 i2 s2 (.slice a2 l2.length cap2) (.slice a2' p2.length cap2') l2 p2) (.mk k2 i2 s2 l2' p2')), cl b2 (vcl k i s (.slice a l.length cap) (.slice (some ⟨b, o, none⟩) p.length cap')).toArray TV, cl b3 (vcl k2 i2 s2 (.slice a2 l2.length cap2) (.slice a2' p2.length cap2')).toArray TV, cl b7 g.cs.toArray TV] 99 (.t 0 (.t 1 (.t 2 (.t 3 (.t 4 (.t 5 (.t 6 (.t 7 (.t 8 (.t 9 (.t 10 (.t 11 (.t 12 .nil))))))))))))) tab_ok mixed_ok (by kernel_rfl) (.cons (.cons (.cons (.cons (.cons .nil))))) ?_
      iterate 2 refine ct rfl ?_
      refine ld1 2 rfl rfl ?_
      iterate 2 refine ct rfl ?_
      refine ⟨by omega, by omega, ?_⟩
      iterate 2 refine ct rfl ?_
      refine .mk c1.cs.toArray (by rw [List.size_toArray, CT.cs5]) (fun w hs => hld w (hs.res (k := 0) rfl)) ?_
      refine ct rfl ?_
      refine ldN 4 rfl h5 ?_
      refine ct rfl ?_
      have hcall := hcall g gj
      cases hSj : S j1 gj with
      | true =>
        rw [hSj] at hcall hhit
        refine czs (fun w hs => hcall w (hs.res (k := 0) rfl) (gh B w (hs.res (k := 1) rfl))) ?_
        refine ct rfl ?_
        refine cf rfl ?_
        refine cf rfl ?_
        refine .as ((q + 1 : Nat) : Int) (by simp) (by simp only [mn]; omega) (by simp only [mx]; unfold maxLen at k3; omega) ?_
        exact ⟨q + 1, ⟨by omega, by rw [hp1, hall, hhit]; rfl⟩, by omega, ⟨⟨rfl, rfl, rfl, trivial⟩, .cons (.cons (.cons (.cons (.drop .nil)))), rfl⟩⟩
      | false =>
        rw [hSj] at hcall hhit
        refine czs (fun w hs => hcall w (hs.res (k := 0) rfl) (gh B w (hs.res (k := 1) rfl))) ?_
        refine ct rfl ?_
        refine cf rfl ?_
        refine ct rfl ?_
        exact rt (congrArg Value.bool (by rw [hpn hhit]))
  have hqe : (p'.take q) = p' := List.take_of_length_le (by omega)
  rw [hqe] at hall
  exact rt (congrArg Value.bool hall.symm)
/-- the parts of a good value -/
theorem oks_of {r : Nat} {j : JV} (h : sndD (r + 1) j = true) : j.oks (sndD r) := by
  obtain ⟨k, i, s, l, p⟩ := j
  obtain ⟨h1, h2, _⟩ := snd_kids h
  exact ⟨fun x hx => (h1 x hx).1, fun q hq => (h2 q hq).1⟩
theorem oks_of0 {j : JV} (h : sndD 0 j = true) : j.oks (fun _ => false) := by
  obtain ⟨k, i, s, l, p⟩ := j
  obtain ⟨h1, h2, _⟩ := snd_kids h
  exact ⟨fun x hx => (h1 x hx).1, fun q hq => (h2 q hq).1⟩
theorem same_any : ∀ (r : Nat) (c : CT) (j : JV) (d : CT) (jd : JV) (A B : Nat → Prop) (w : World), sndD r j = true → HeldT w A c j → HeldT w B d jd → Calls Tryd.prog 32 ([.agg c.cs.toArray, .agg d.cs.toArray] : List Value).toArray w fun e w' => e = .returned (.bool (smD r j jd)) ∧ Below w.heap.size w w' := by
  intro r
  induction r with
  | zero => intro c j d jd A B w h; exact same_core (fun _ _ => false) (fun _ => false) (fun _ _ _ _ _ _ _ h => by cases h) c j d jd A B w (oks_of0 h)
  | succ r ih => intro c j d jd A B w h; exact same_core (smD r) (sndD r) ih c j d jd A B w (oks_of h)
theorem rsame_any : ∀ (r : Nat) (c : CT) (j : JV) (d : CT) (jd : JV) (A B : Nat → Prop) (w : World), sndD r j = true → HeldT w A c j → HeldT w B d jd → Calls Tryd.prog 24 ([.agg c.cs.toArray, .agg d.cs.toArray] : List Value).toArray w fun e w' => e = .returned (.bool (smD r j jd)) ∧ Below w.heap.size w w' := by
  intro r
  induction r with
  | zero => intro c j d jd A B w h; exact rsame_core (fun _ _ => false) (fun _ => false) (fun _ _ _ _ _ _ _ h => by cases h) c j d jd A B w (oks_of0 h)
  | succ r ih => intro c j d jd A B w h; exact rsame_core (smD r) (sndD r) ih c j d jd A B w (oks_of h)
end Go.Proofs.YtpegkoklmhccjaaDoor
end
section
namespace Go.Proofs.YtpegkoklmhccjaaDoor
open Go.RowKit Go.Sx
set_option linter.unusedVariables false
def eqP (a b : JV) : Bool := sndD 8 a && sndD 8 b && smD 8 a b
theorem St.rdLT4 {w : World} {A B : Nat → Prop} {c d : CT} {j k : JV} (hw : Laid w) (h : HeldT w A c j) (h2 : HeldT w B d k) : St [] w w [rs laidR, rs (Go.Proofs.YtpegkoklmhccjaaDoor.rdT A c j), rs (Go.Proofs.YtpegkoklmhccjaaDoor.rdT B d k)] := St.reads fun e he => by
  simp only [List.mem_cons, List.not_mem_nil, or_false] at he
  rcases he with rfl | rfl | rfl
  · exact ⟨(rsOk _ w).2 hw, fun k hk => (rsW _ k).1 hk⟩
  · exact ⟨(rsOk _ w).2 h, fun k hk => (rsW _ k).1 hk⟩
  · exact ⟨(rsOk _ w).2 h2, fun k hk => (rsW _ k).1 hk⟩
set_option maxRecDepth 100000 in
set_option maxHeartbeats 4000000 in
theorem equal_any (c : CT) (j : JV) (d : CT) (jd : JV) (A B : Nat → Prop) (w : World) (hw : Laid w) (h : HeldT w A c j) (h2 : HeldT w B d jd) : Calls Tryd.prog 23 ([.agg c.cs.toArray, .agg d.cs.toArray] : List Value).toArray w fun e w' => e = .returned (.bool (eqP j jd)) ∧ Below w.heap.size w w' := by
  have h5 : c.cs.toArray.size = 5 := by rw [List.size_toArray, CT.cs5]
  have h6 : d.cs.toArray.size = 5 := by rw [List.size_toArray, CT.cs5]
  refine enterV tab_ok Tryd.func23 rfl Tryd.ntmps23 rfl (St.rdLT4 hw h h2) ?_
  intro b2 b3
  have ha := sound_any 8 0 rfl c j A
  have hb := sound_any 8 0 rfl d jd B
  unfold eqP
  refine ldN 3 rfl h5 ?_
  cases hja : sndD 8 j with
  | false =>
    rw [hja] at ha
    refine cvs (fun w hs => ha w (hs.res (k := 1) rfl) (hs.res (k := 0) rfl)) ?_
    iterate 2 refine cf rfl ?_
    refine cf rfl ?_
    iterate 3 refine cf rfl ?_
    refine cf rfl ?_
    exact rt rfl
  | true =>
    rw [hja] at ha
    refine cvs (fun w hs => ha w (hs.res (k := 1) rfl) (hs.res (k := 0) rfl)) ?_
    refine ct rfl ?_
    refine ldN 4 rfl h6 ?_
    refine ct rfl ?_
    cases hjb : sndD 8 jd with
    | false =>
      rw [hjb] at hb
      refine cvs (fun w hs => hb w (hs.res (k := 2) rfl) (hs.res (k := 0) rfl)) ?_
      refine ct rfl ?_
      iterate 3 refine cf rfl ?_
      refine cf rfl ?_
      exact rt rfl
    | true =>
      rw [hjb] at hb
      refine cvs (fun w hs => hb w (hs.res (k := 2) rfl) (hs.res (k := 0) rfl)) ?_
      refine ct rfl ?_
      refine ct rfl ?_
      refine ldN 3 rfl h5 ?_
      refine ct rfl ?_
      refine ldN 4 rfl h6 ?_
      refine ct rfl ?_
      refine cvs (fun w hs => same_any 8 c j d jd A B w hja (hs.res (k := 1) rfl) (hs.res (k := 2) rfl)) ?_
      refine ct rfl ?_
      exact rt rfl
set_option maxRecDepth 100000 in
set_option maxHeartbeats 8000000 in
theorem law_equal (A B : Nat → Prop) (c d : CT) (j jd : JV) (w : World) (h : HeldT w A c j) (h2 : HeldT w B d jd) (hw : Laid w) : Calls Tryd.prog 7 ([.agg c.cs.toArray, .agg d.cs.toArray] : List Value).toArray w fun e w' => e = .returned (.bool true) ∧ Below w.heap.size w w' := by
  have hcs := h.2.cs
  have hcs2 := h2.2.cs
  have h5 : c.cs.toArray.size = 5 := by rw [List.size_toArray, CT.cs5]
  have h6 : d.cs.toArray.size = 5 := by rw [List.size_toArray, CT.cs5]
  refine enterV tab_ok Tryd.func7 rfl Tryd.ntmps7 rfl (St.rdLT4 hw h h2) ?_
  intro b2 b3
  refine cvs (fun w hs => alive_any w (hs.res (k := 0) rfl)) ?_
  refine cf rfl ?_
  refine ldN 3 rfl h5 ?_
  refine ce (Φ := fun x : Nat => 1 ≤ x ∧ x ≤ 300 + 1) (v := fun x => .int .i64 (x : Nat)) (fun w hs => many_any hcs A 300 w (by decide) (hs.res (k := 1) rfl)) (fun x hx => ?_)
  by_cases hbig : ((x : Nat) : Int) > 300
  · have g1 : decide (((x : Nat) : Int) > 300) = true := decide_eq_true hbig
    have g2 : (decide (((x : Nat) : Int) > 300) == false) = false := by rw [g1]; rfl
    iterate 3 refine cf g2 ?_
    refine ct g1 ?_
    refine ct rfl ?_
    exact rt rfl
  have g1 : decide (((x : Nat) : Int) > 300) = false := decide_eq_false hbig
  have g2 : (decide (((x : Nat) : Int) > 300) == false) = true := by rw [g1]; rfl
  refine ct g2 ?_
  refine ldN 4 rfl h6 ?_
  refine ct g2 ?_
  refine ce (Φ := fun x : Nat => 1 ≤ x ∧ x ≤ 300 + 1) (v := fun x => .int .i64 (x : Nat)) (fun w hs => many_any hcs2 B 300 w (by decide) (hs.res (k := 2) rfl)) (fun y hy => ?_)
  refine ct g2 ?_
  refine cf g1 ?_
  refine cd (fun hbig2 => ?_) (fun hbig2 => ?_)
  · exact rt rfl
  cases ha : sndD 8 j with
  | false =>
    have hga := fun w h => good_any 8 0 rfl c j A w h
    rw [ha] at hga
    have q1 : eqP j jd = false := by simp [eqP, ha]
    have q2 : eqP j j = false := by simp [eqP, ha]
    have q3 : eqP jd j = false := by simp [eqP, ha]
    have e1 := fun w hw h h2 => equal_any c j d jd A B w hw h h2
    rw [q1] at e1
    have e2 := fun w hw h h2 => equal_any c j c j A A w hw h h2
    rw [q2] at e2
    have e3 := fun w hw h h2 => equal_any d jd c j B A w hw h h2
    rw [q3] at e3
    refine ldN 3 rfl h5 ?_
    refine cvs (fun w hs => hga w (hs.res (k := 1) rfl)) ?_
    iterate 2 refine cf rfl ?_
    refine cf rfl ?_
    refine dr [rs laidR, rs (rdT A c j), rs (rdT B d jd), cl b2 c.cs.toArray TV, cl b3 d.cs.toArray TV] 99 (.t 0 (.t 1 (.t 2 (.t 3 (.t 4 (.t 5 (.t 6 (.t 7 (.t 8 (.t 9 (.t 10 (.t 11 (.t 12 (.t 13 (.t 14 (.t 15 (.t 16 (.t 17 (.t 18 (.t 19 (.t 20 (.t 21 (.t 22 (.t 23 (.t 24 (.t 25 (.t 26 (.t 27 .nil)))))))))))))))))))))))))))) tab_ok mixed_ok (by kernel_rfl) (.cons (.cons (.cons (.cons (.cons .nil))))) ?_
    refine ldN 3 rfl h5 ?_
    refine ldN 4 rfl h6 ?_
    refine czs (fun w hs => e1 w (hs.res (k := 0) rfl) (hs.res (k := 1) rfl) (hs.res (k := 2) rfl)) ?_
    iterate 3 refine cf rfl ?_
    refine cf rfl ?_
    refine ct rfl ?_
    refine ldN 3 rfl h5 ?_
    refine ct rfl ?_
    refine ldN 3 rfl h5 ?_
    refine ct rfl ?_
    refine czs (fun w hs => e2 w (hs.res (k := 0) rfl) (hs.res (k := 1) rfl) (hs.res (k := 1) rfl)) ?_
    refine ct rfl ?_
    refine ldN 3 rfl h5 ?_
    refine ct rfl ?_
    refine czs (fun w hs => hga w (hs.res (k := 1) rfl)) ?_
    refine ct rfl ?_
    refine ct rfl ?_
    refine ct rfl ?_
    refine ldN 4 rfl h6 ?_
    refine ct rfl ?_
    refine ldN 3 rfl h5 ?_
    refine ct rfl ?_
    refine czs (fun w hs => e3 w (hs.res (k := 0) rfl) (hs.res (k := 2) rfl) (hs.res (k := 1) rfl)) ?_
    refine ct rfl ?_
    refine ldN 3 rfl h5 ?_
    refine ct rfl ?_
    refine ldN 4 rfl h6 ?_
    refine ct rfl ?_
    refine czs (fun w hs => e1 w (hs.res (k := 0) rfl) (hs.res (k := 1) rfl) (hs.res (k := 2) rfl)) ?_
    refine ct rfl ?_
    refine ct rfl ?_
    exact rt rfl
  | true =>
    cases hb : sndD 8 jd with
    | false =>
      have hga := fun w h => good_any 8 0 rfl c j A w h
      rw [ha] at hga
      have hgb := fun w h => good_any 8 0 rfl d jd B w h
      rw [hb] at hgb
      have q1 : eqP j jd = false := by simp [eqP, ha, hb]
      have q2 : eqP j j = true := by simp [eqP, ha, smD_refl 8 j ha]
      have q3 : eqP jd j = false := by simp [eqP, ha, hb]
      have e1 := fun w hw h h2 => equal_any c j d jd A B w hw h h2
      rw [q1] at e1
      have e2 := fun w hw h h2 => equal_any c j c j A A w hw h h2
      rw [q2] at e2
      have e3 := fun w hw h h2 => equal_any d jd c j B A w hw h h2
      rw [q3] at e3
      refine ldN 3 rfl h5 ?_
      refine cvs (fun w hs => hga w (hs.res (k := 1) rfl)) ?_
      refine ct rfl ?_
      refine ldN 4 rfl h6 ?_
      refine ct rfl ?_
      refine cvs (fun w hs => hgb w (hs.res (k := 2) rfl)) ?_
      refine ct rfl ?_
      refine dr [rs laidR, rs (rdT A c j), rs (rdT B d jd), cl b2 c.cs.toArray TV, cl b3 d.cs.toArray TV] 99 (.t 0 (.t 1 (.t 2 (.t 3 (.t 4 (.t 5 (.t 6 (.t 7 (.t 8 (.t 9 (.t 10 (.t 11 (.t 12 (.t 13 (.t 14 (.t 15 (.t 16 (.t 17 (.t 18 (.t 19 (.t 20 (.t 21 (.t 22 (.t 23 (.t 24 (.t 25 (.t 26 (.t 27 .nil)))))))))))))))))))))))))))) tab_ok mixed_ok (by kernel_rfl) (.cons (.cons (.cons (.cons (.cons .nil))))) ?_
      refine ldN 3 rfl h5 ?_
      refine ldN 4 rfl h6 ?_
      refine czs (fun w hs => e1 w (hs.res (k := 0) rfl) (hs.res (k := 1) rfl) (hs.res (k := 2) rfl)) ?_
      iterate 3 refine cf rfl ?_
      refine cf rfl ?_
      refine ct rfl ?_
      refine ldN 3 rfl h5 ?_
      refine ct rfl ?_
      refine ldN 3 rfl h5 ?_
      refine ct rfl ?_
      refine czs (fun w hs => e2 w (hs.res (k := 0) rfl) (hs.res (k := 1) rfl) (hs.res (k := 1) rfl)) ?_
      refine ct rfl ?_
      refine ldN 3 rfl h5 ?_
      refine ct rfl ?_
      refine czs (fun w hs => hga w (hs.res (k := 1) rfl)) ?_
      refine ct rfl ?_
      refine ct rfl ?_
      refine ct rfl ?_
      refine ldN 4 rfl h6 ?_
      refine ct rfl ?_
      refine ldN 3 rfl h5 ?_
      refine ct rfl ?_
      refine czs (fun w hs => e3 w (hs.res (k := 0) rfl) (hs.res (k := 2) rfl) (hs.res (k := 1) rfl)) ?_
      refine ct rfl ?_
      refine ldN 3 rfl h5 ?_
      refine ct rfl ?_
      refine ldN 4 rfl h6 ?_
      refine ct rfl ?_
      refine czs (fun w hs => e1 w (hs.res (k := 0) rfl) (hs.res (k := 1) rfl) (hs.res (k := 2) rfl)) ?_
      refine ct rfl ?_
      refine ct rfl ?_
      exact rt rfl
    | true =>
      cases he : smD 8 j jd with
      | false =>
        have hga := fun w h => good_any 8 0 rfl c j A w h
        rw [ha] at hga
        have hgb := fun w h => good_any 8 0 rfl d jd B w h
        rw [hb] at hgb
        have q1 : eqP j jd = false := by simp [eqP, ha, hb, he]
        have q2 : eqP j j = true := by simp [eqP, ha, smD_refl 8 j ha]
        have q3 : eqP jd j = false := by simp [eqP, ha, hb, smD_symm 8 jd j hb ha, he]
        have e1 := fun w hw h h2 => equal_any c j d jd A B w hw h h2
        rw [q1] at e1
        have e2 := fun w hw h h2 => equal_any c j c j A A w hw h h2
        rw [q2] at e2
        have e3 := fun w hw h h2 => equal_any d jd c j B A w hw h h2
        rw [q3] at e3
        refine ldN 3 rfl h5 ?_
        refine cvs (fun w hs => hga w (hs.res (k := 1) rfl)) ?_
        refine ct rfl ?_
        refine ldN 4 rfl h6 ?_
        refine ct rfl ?_
        refine cvs (fun w hs => hgb w (hs.res (k := 2) rfl)) ?_
        refine ct rfl ?_
        refine dr [rs laidR, rs (rdT A c j), rs (rdT B d jd), cl b2 c.cs.toArray TV, cl b3 d.cs.toArray TV] 99 (.t 0 (.t 1 (.t 2 (.t 3 (.t 4 (.t 5 (.t 6 (.t 7 (.t 8 (.t 9 (.t 10 (.t 11 (.t 12 (.t 13 (.t 14 (.t 15 (.t 16 (.t 17 (.t 18 (.t 19 (.t 20 (.t 21 (.t 22 (.t 23 (.t 24 (.t 25 (.t 26 (.t 27 .nil)))))))))))))))))))))))))))) tab_ok mixed_ok (by kernel_rfl) (.cons (.cons (.cons (.cons (.cons .nil))))) ?_
        refine ldN 3 rfl h5 ?_
        refine ldN 4 rfl h6 ?_
        refine czs (fun w hs => e1 w (hs.res (k := 0) rfl) (hs.res (k := 1) rfl) (hs.res (k := 2) rfl)) ?_
        have hsm := fun w h h2 => rsame_any 8 c j d jd A B w ha h h2
        rw [he] at hsm
        refine ct rfl ?_
        refine ldN 3 rfl h5 ?_
        refine ct rfl ?_
        refine ldN 4 rfl h6 ?_
        refine ct rfl ?_
        refine czs (fun w hs => hsm w (hs.res (k := 1) rfl) (hs.res (k := 2) rfl)) ?_
        refine ct rfl ?_
        refine ct rfl ?_
        refine ldN 3 rfl h5 ?_
        refine ct rfl ?_
        refine ldN 3 rfl h5 ?_
        refine ct rfl ?_
        refine czs (fun w hs => e2 w (hs.res (k := 0) rfl) (hs.res (k := 1) rfl) (hs.res (k := 1) rfl)) ?_
        refine ct rfl ?_
        refine ldN 3 rfl h5 ?_
        refine ct rfl ?_
        refine czs (fun w hs => hga w (hs.res (k := 1) rfl)) ?_
        refine ct rfl ?_
        refine ct rfl ?_
        refine ct rfl ?_
        refine ldN 4 rfl h6 ?_
        refine ct rfl ?_
        refine ldN 3 rfl h5 ?_
        refine ct rfl ?_
        refine czs (fun w hs => e3 w (hs.res (k := 0) rfl) (hs.res (k := 2) rfl) (hs.res (k := 1) rfl)) ?_
        refine ct rfl ?_
        refine ldN 3 rfl h5 ?_
        refine ct rfl ?_
        refine ldN 4 rfl h6 ?_
        refine ct rfl ?_
        refine czs (fun w hs => e1 w (hs.res (k := 0) rfl) (hs.res (k := 1) rfl) (hs.res (k := 2) rfl)) ?_
        refine ct rfl ?_
        refine ct rfl ?_
        exact rt rfl
      | true =>
        have hga := fun w h => good_any 8 0 rfl c j A w h
        rw [ha] at hga
        have hgb := fun w h => good_any 8 0 rfl d jd B w h
        rw [hb] at hgb
        have q1 : eqP j jd = true := by simp [eqP, ha, hb, he]
        have q2 : eqP j j = true := by simp [eqP, ha, smD_refl 8 j ha]
        have q3 : eqP jd j = true := by simp [eqP, ha, hb, smD_symm 8 jd j hb ha, he]
        have e1 := fun w hw h h2 => equal_any c j d jd A B w hw h h2
        rw [q1] at e1
        have e2 := fun w hw h h2 => equal_any c j c j A A w hw h h2
        rw [q2] at e2
        have e3 := fun w hw h h2 => equal_any d jd c j B A w hw h h2
        rw [q3] at e3
        refine ldN 3 rfl h5 ?_
        refine cvs (fun w hs => hga w (hs.res (k := 1) rfl)) ?_
        refine ct rfl ?_
        refine ldN 4 rfl h6 ?_
        refine ct rfl ?_
        refine cvs (fun w hs => hgb w (hs.res (k := 2) rfl)) ?_
        refine ct rfl ?_
        refine dr [rs laidR, rs (rdT A c j), rs (rdT B d jd), cl b2 c.cs.toArray TV, cl b3 d.cs.toArray TV] 99 (.t 0 (.t 1 (.t 2 (.t 3 (.t 4 (.t 5 (.t 6 (.t 7 (.t 8 (.t 9 (.t 10 (.t 11 (.t 12 (.t 13 (.t 14 (.t 15 (.t 16 (.t 17 (.t 18 (.t 19 (.t 20 (.t 21 (.t 22 (.t 23 (.t 24 (.t 25 (.t 26 (.t 27 .nil)))))))))))))))))))))))))))) tab_ok mixed_ok (by kernel_rfl) (.cons (.cons (.cons (.cons (.cons .nil))))) ?_
        refine ldN 3 rfl h5 ?_
        refine ldN 4 rfl h6 ?_
        refine czs (fun w hs => e1 w (hs.res (k := 0) rfl) (hs.res (k := 1) rfl) (hs.res (k := 2) rfl)) ?_
        have hsm := fun w h h2 => rsame_any 8 c j d jd A B w ha h h2
        rw [he] at hsm
        refine ct rfl ?_
        refine ldN 3 rfl h5 ?_
        refine ct rfl ?_
        refine ldN 4 rfl h6 ?_
        refine ct rfl ?_
        refine czs (fun w hs => hsm w (hs.res (k := 1) rfl) (hs.res (k := 2) rfl)) ?_
        refine ct rfl ?_
        refine ct rfl ?_
        refine ldN 3 rfl h5 ?_
        refine ct rfl ?_
        refine ldN 3 rfl h5 ?_
        refine ct rfl ?_
        refine czs (fun w hs => e2 w (hs.res (k := 0) rfl) (hs.res (k := 1) rfl) (hs.res (k := 1) rfl)) ?_
        refine ct rfl ?_
        refine ldN 3 rfl h5 ?_
        refine ct rfl ?_
        refine czs (fun w hs => hga w (hs.res (k := 1) rfl)) ?_
        refine ct rfl ?_
        refine ct rfl ?_
        refine ct rfl ?_
        refine ldN 4 rfl h6 ?_
        refine ct rfl ?_
        refine ldN 3 rfl h5 ?_
        refine ct rfl ?_
        refine czs (fun w hs => e3 w (hs.res (k := 0) rfl) (hs.res (k := 2) rfl) (hs.res (k := 1) rfl)) ?_
        refine ct rfl ?_
        refine ldN 3 rfl h5 ?_
        refine ct rfl ?_
        refine ldN 4 rfl h6 ?_
        refine ct rfl ?_
        refine czs (fun w hs => e1 w (hs.res (k := 0) rfl) (hs.res (k := 1) rfl) (hs.res (k := 2) rfl)) ?_
        refine ct rfl ?_
        refine ct rfl ?_
        exact rt rfl
end Go.Proofs.YtpegkoklmhccjaaDoor
end
section
namespace Go.Proofs.YtpegkoklmhccjaaDoor
open Go.ChangeShapes Go.WideShapes Go.ChangeAt Go.RowKit Go.Sx

theorem own : ownKnob Tryd.prog.godebug = none := by kernel_rfl
theorem laidOut : laidOutB Tryd.prog = true := by kernel_rfl
theorem cellsU8 : Tryd.prog.cellsOf 5 = 1 := by kernel_rfl
/-- some bytes by the numbers of their cells -/
theorem bytes_of (f : Nat → Int) (n : Nat) (h : ∀ i, i < n → 0 ≤ f i ∧ f i < 256) : ∃ bs : List UInt8, bs.length = n ∧ ∀ i, i < n → (Lib.byteCells bs)[i]? = some (.int .u8 (f i)) := by
  refine ⟨(List.range n).map fun i => UInt8.ofNat (f i).toNat, by simp, fun i hi => ?_⟩
  have := h i hi
  simp [Lib.byteCells, hi]
  omega
set_option maxRecDepth 100000 in
theorem open_rd {H : Type} {enc : TypeId × Value → H} {w : World} {base : Nat} {spare : Nat → Bool} {held : Bool} {r : Reach} {b0 : Nat} {v : Value} {d : DataW H} {p : List MemPlace}
    (hv : Value.okWide Tryd.prog w r b0 38 v) (h : DataW.Trod enc Tryd.prog w base spare held 38 v d p) : ∃ a bs c, v = .slice a bs.length c ∧ bs.length ≤ c ∧ c ≤ maxLen ∧ (∀ x, a = some x → x.spot = none) ∧ Rd w v (Lib.byteCells bs) := by
  obtain ⟨a0, len, cap, rfl⟩ := okWide_slice Tryd.underlying38 hv
  obtain ⟨fuel, hf⟩ := h
  rcases open_ints Tryd.underlying38 Tryd.underlying5 cellsU8 hf with ⟨hcs, hx⟩ | ⟨a, len', cap', zs, hcs, _, hl, hm, hz, hx, hcell, hwz⟩
  · have e : Value.slice a0 len cap = .slice none 0 0 := by simpa [Value.cells] using hcs
    injection e with e1 e2 e3
    subst e1 e2 e3
    exact ⟨none, [], 0, rfl, Nat.le_refl _, Nat.zero_le _, by simp, none, 0, rfl, fun h => absurd rfl h⟩
  · have e : Value.slice a0 len cap = .slice (some a) len' cap' := by simpa [Value.cells] using hcs
    injection e with e1 e2 e3
    subst e1 e2 e3
    have hlz : len ≤ zs.length := by rw [hz]; split <;> omega
    obtain ⟨bs, hbs, hd⟩ := bytes_of (fun i => zs.getD i 0) len (fun i hi => by
      have hmem : zs.getD i 0 ∈ zs := by
        have : zs.getD i 0 = zs[i]'(by omega) := by simp [List.getD, show i < zs.length by omega]
        rw [this]; exact List.getElem_mem _
      have := bounds_u8 (hwz _ hmem)
      omega)
    have hsp : a.spot = none := by
      have h := hv
      simp only [Value.okWide, Tryd.underlying38, Cell.okWide, Cell.ok, World.has] at h
      exact h.2.2.2.1
    refine ⟨some a, bs, cap, by rw [hbs], by omega, hm, by rintro x hx; obtain rfl := Option.some.inj hx; exact hsp, some a, cap, by rw [Lib.byteCells_length, hbs], fun hne => ?_⟩
    obtain ⟨b, o, sp⟩ := a
    obtain rfl : sp = none := hsp
    have hpos : 0 < len := by
      rcases Nat.eq_zero_or_pos len with h0 | h0
      · rw [h0] at hbs; rw [List.eq_nil_of_length_eq_zero hbs] at hne; exact absurd rfl hne
      · exact h0
    refine ⟨b, o, rfl, ?_, fun j u hu => ?_⟩
    · have := hcell 0 (by omega); exact World.block_lt_of_cell? w _ this
    · have hj : j < len := by have := (List.getElem?_eq_some_iff.1 hu).1; rw [Lib.byteCells_length] at this; omega
      rw [hd j hj] at hu
      rw [← addr_add, hcell j (by omega)]; exact hu
end Go.Proofs.YtpegkoklmhccjaaDoor
end
section
namespace Go.Proofs.YtpegkoklmhccjaaDoor
open Go.ChangeShapes Go.WideShapes Go.ChangeAt Go.RowKit Go.Sx

set_option maxRecDepth 100000 in
theorem open_str {w : World} {r : Reach} {b0 : Nat} {v : Value} (hv : Value.okWide Tryd.prog w r b0 9 v) : ∃ s : List UInt8, v = .string ⟨s.toArray⟩ ∧ s.length ≤ maxLen := by
  obtain ⟨s, rfl⟩ := okWide_string Tryd.underlying9 hv
  refine ⟨s.data.toList, by simp, ?_⟩
  simp only [Value.okWide, Tryd.underlying9, Cell.okWide, Cell.ok] at hv
  have : s.size ≤ maxLen := by simp at hv; unfold maxLen; omega
  exact this
end Go.Proofs.YtpegkoklmhccjaaDoor
end
section
namespace Go.Proofs.YtpegkoklmhccjaaDoor
open Go.ChangeShapes Go.WideShapes Go.ChangeAt Go.RowKit Go.Sx
set_option linter.unusedVariables false

abbrev TVal : Nat := 25
abbrev TVals : Nat := 22
abbrev TPair : Nat := 36
abbrev TPairs : Nat := 23
theorem cellsVal : Tryd.prog.cellsOf TVal = 5 := by kernel_rfl
theorem cellsPair : Tryd.prog.cellsOf TPair = 6 := by kernel_rfl
theorem cellsI : Tryd.prog.cellsOf 3 = 1 := by kernel_rfl
theorem cellsS : Tryd.prog.cellsOf 9 = 1 := by kernel_rfl
theorem cellsVs : Tryd.prog.cellsOf TVals = 1 := by kernel_rfl
theorem cellsPs : Tryd.prog.cellsOf TPairs = 1 := by kernel_rfl
theorem cellsAR : Tryd.prog.cellsOf 87 = 2 := by kernel_rfl
theorem fst_tab : (List.range 256).all (fun i => Go.Pinned.utf8FirstZ.getD i 0 == fstN i) = true := by kernel_rfl
theorem fst_len : Go.Pinned.utf8FirstZ.length = 256 := by kernel_rfl
def arL : List (DataW Unit) := [.agg [.lit (.int .u8 128), .lit (.int .u8 191)], .agg [.lit (.int .u8 160), .lit (.int .u8 191)], .agg [.lit (.int .u8 128), .lit (.int .u8 159)], .agg [.lit (.int .u8 144), .lit (.int .u8 191)], .agg [.lit (.int .u8 128), .lit (.int .u8 143)]] ++ List.replicate 11 (.agg [.lit (.int .u8 0), .lit (.int .u8 0)])
set_option maxRecDepth 100000 in
/-- the tables lie where the program looks -/
theorem laid_of {W : World} (h : laidMetH Tryd.prog [("unicode/utf8.acceptRanges", Rows.laid_unicode_utf8_acceptRanges), ("unicode/utf8.first", Rows.laid_unicode_utf8_first)] W) : Laid W := by
  rw [MakeChecks.laidMetH_plain _ _ _ (by kernel_rfl)] at h
  obtain ⟨ps, ⟨g1, t1, cs1, f1, p1, q1, hg1, ht1, hv1, hd1, ⟨g2, t2, cs2, f2, p2, q2, hg2, ht2, hv2, hd2, _, _⟩, _⟩, _, _⟩ := h
  obtain rfl := Option.some.inj ((show Tryd.prog.globalNamed "unicode/utf8.acceptRanges" = some 1 by kernel_rfl).symm.trans hg1)
  obtain rfl := Option.some.inj ((show Tryd.prog.globalNamed "unicode/utf8.first" = some 0 by kernel_rfl).symm.trans hg2)
  obtain rfl := Option.some.inj ((show (Tryd.prog.globals[1]?).map (·.type) = some 88 by kernel_rfl).symm.trans ht1)
  obtain rfl := Option.some.inj ((show (Tryd.prog.globals[0]?).map (·.type) = some 85 by kernel_rfl).symm.trans ht2)
  have hf : ∀ i, i < 256 → W.cell? ⟨0, i, none⟩ = some (.int .u8 (fstN i : Nat)) := by
    intro r hr
    obtain ⟨xs, m, _, ex, _, hl, hel⟩ := DataW.trod_array Tryd.underlying85 hd2
    have hE := hel r hr
    rw [cellsU8, Nat.mul_one, List.getElem?_eq_getElem (by omega)] at hE
    obtain ⟨z, e1, e2, _⟩ := DataW.trod_int Tryd.underlying5 hE
    have hlen := fst_len
    have e3 : (xs.map (·.1)) = Go.Pinned.utf8FirstZ.map fun (n : Nat) => .lit (.int .u8 (n : Int)) := (DataW.agg.inj (Prod.mk.inj ex).1).symm
    have e4 : (xs.map (·.1))[r]? = (Go.Pinned.utf8FirstZ.map fun (n : Nat) => (DataW.lit (.int .u8 (n : Int)) : DataW Unit))[r]? := by rw [e3]
    rw [List.getElem?_map, List.getElem?_map, List.getElem?_eq_getElem (by omega : r < xs.length), List.getElem?_eq_getElem (by omega : r < Go.Pinned.utf8FirstZ.length), e2] at e4
    have hz : z = ((fstN r : Nat) : Int) := by
      simp only [Option.map_some, Option.some.injEq, DataW.lit.injEq, Lit.int.injEq, true_and] at e4
      have h2 := List.all_eq_true.1 fst_tab r (List.mem_range.2 hr)
      rw [List.getD, List.getElem?_eq_getElem (by omega : r < Go.Pinned.utf8FirstZ.length)] at h2
      rw [e4]
      exact congrArg Int.ofNat (by simpa using h2)
    rw [World.var?_cell hg2 hv2 r, ← hz]
    have : cs2.toList[r]? = some (.int .u8 z) := by
      have h0 : ((cs2.toList.drop r).take 1)[0]? = some (.int .u8 z) := by rw [e1]; rfl
      simpa using h0
    simpa using this
  have ha : ∀ i, i < 32 → W.cell? ⟨1, i, none⟩ = some (.int .u8 (accN i : Nat)) := by
    intro r hr
    obtain ⟨xs, m, _, ex, _, hl, hel⟩ := DataW.trod_array Tryd.underlying88 hd1
    have hE := hel (r / 2) (by omega)
    rw [cellsAR, List.getElem?_eq_getElem (by omega)] at hE
    obtain ⟨ys, k, _, ey, _, hyl, hfs⟩ := DataW.trod_struct Tryd.underlying87 hE
    have hyl : ys.length = 2 := hyl
    have e3 : (xs.map (·.1)) = arL := (DataW.agg.inj (Prod.mk.inj ex).1).symm
    have e4 : (xs.map (·.1))[r / 2]? = arL[r / 2]? := by rw [e3]
    rw [List.getElem?_map, List.getElem?_eq_getElem (by omega : r / 2 < xs.length), ey] at e4
    have g0 : DataW.trod (fun _ => ()) Tryd.prog W 0 (fun _ => true) false k 5 ((((cs1.toList.drop (r / 2 * 2)).take 2).drop 0).take (Tryd.prog.cellsOf 5)) = ys[0]? := hfs 0 _ rfl
    have g1 : DataW.trod (fun _ => ()) Tryd.prog W 0 (fun _ => true) false k 5 ((((cs1.toList.drop (r / 2 * 2)).take 2).drop 1).take (Tryd.prog.cellsOf 5)) = ys[1]? := hfs 1 _ rfl
    rw [cellsU8, List.getElem?_eq_getElem (by omega)] at g0 g1
    obtain ⟨z0, a1, a2, _⟩ := DataW.trod_int Tryd.underlying5 g0
    obtain ⟨z1, b1, b2, _⟩ := DataW.trod_int Tryd.underlying5 g1
    have hys : ys.map (·.1) = [.lit (.int .u8 z0), .lit (.int .u8 z1)] := by
      match ys, hyl with
      | [y0, y1], _ =>
        simp only [List.getElem_cons_zero, List.getElem_cons_succ] at a2 b2
        rw [a2, b2]; rfl
    rw [hys] at e4
    have c0 : cs1.toList[r / 2 * 2]? = some (.int .u8 z0) := by
      have h0 : ((((cs1.toList.drop (r / 2 * 2)).take 2).drop 0).take 1)[0]? = some (.int .u8 z0) := by rw [a1]; rfl
      simpa using h0
    have c1 : cs1.toList[r / 2 * 2 + 1]? = some (.int .u8 z1) := by
      have h0 : ((((cs1.toList.drop (r / 2 * 2)).take 2).drop 1).take 1)[0]? = some (.int .u8 z1) := by rw [b1]; rfl
      simpa using h0
    have tab : (List.range 32).all (fun i => match (arL[i / 2]? : Option (DataW Unit)) with | some (.agg [.lit (.int .u8 x), .lit (.int .u8 y)]) => (if i % 2 = 0 then x else y) == (accN i : Int) | _ => false) = true := by kernel_rfl
    have t1 := List.all_eq_true.1 tab r (List.mem_range.2 hr)
    rw [← e4] at t1
    simp only [Option.map_some, beq_iff_eq] at t1
    rw [World.var?_cell hg1 hv1 r, ← t1]
    rcases Nat.mod_two_eq_zero_or_one r with h0 | h0
    · rw [if_pos h0]
      have : r = r / 2 * 2 := by omega
      rw [this]; simpa using c0
    · rw [if_neg (by omega)]
      have : r = r / 2 * 2 + 1 := by omega
      rw [this]
      simpa using c1
  exact ⟨World.block_lt_of_cell? W _ (hf 0 (by omega)), World.block_lt_of_cell? W _ (ha 0 (by omega)), hf, ha⟩
theorem CT.cs5' (c : CT) : c.cs.length = 5 := by cases c; rfl
open Classical in
theorem chooseL {α : Type} (a0 : α) {n : Nat} {p : Nat → α → Prop} (h : ∀ i, i < n → ∃ a, p i a) : ∃ f : Nat → α, ∀ i, i < n → p i (f i) :=
  ⟨fun i => if hi : i < n then Classical.choose (h i hi) else a0, fun i hi => by
    show p i (if hi : i < n then Classical.choose (h i hi) else a0)
    rw [dif_pos hi]; exact Classical.choose_spec (h i hi)⟩
/-- its numbers and texts are such «as» the program's can be -/
inductive Fit : CT → Prop
  | mk {k i : Int} {s : Bs} {vl vp : Value} {l : List CT} {p : List (Bs × CT)} (hk : -9223372036854775808 ≤ k ∧ k ≤ 9223372036854775807) (hi : -9223372036854775808 ≤ i ∧ i ≤ 9223372036854775807) (hs : s.length ≤ maxLen) (hl : ∀ c, c ∈ l → Fit c) (hn : ∀ q : Bs × CT, q ∈ p → q.1.length ≤ maxLen) (hp : ∀ q : Bs × CT, q ∈ p → Fit q.2) : Fit (.mk k i s vl vp l p)
section
variable {H : Type} {enc : TypeId × Value → H} {w : World} {base : Nat} {spare : Nat → Bool} {held : Bool}
set_option maxRecDepth 100000 in
/-- a row that came in -/
theorem open_rowat {T TS : TypeId} {z fuel : Nat} {α : Type} (a0 : α) (R : α → List Value → Prop) (ht : Tryd.prog.underlying TS = some (.slice T)) (hc : Tryd.prog.cellsOf T = z) (hz : 0 < z) (hR : ∀ a c, R a c → c.length = z)
    (ih : ∀ n, n < fuel → ∀ cs x, DataW.trod enc Tryd.prog w base spare held n T cs = some x → ∃ a, R a cs) {cs : List Value} {x : DataW H × List MemPlace} (h : DataW.trod enc Tryd.prog w base spare held fuel TS cs = some x) :
    ∃ (v : Value) (l : List α) (C : Nat → List Value), cs = [v] ∧ RowAt w (fun k => k < w.heap.size) z l.length C v ∧ ∀ i a, l[i]? = some a → R a (C i) := by
  rcases DataW.trod_slice ht h with ⟨rfl, _⟩ | ⟨a, len, cap, elems, rest, n, rfl, rfl, _, _, hl, hm, hlen, hel, _, _⟩
  · exact ⟨_, [], fun _ => [], rfl, ⟨Nat.zero_le _, none, 0, rfl, fun h => absurd rfl h⟩, fun i a h => by simp at h⟩
  · have each : ∀ i, i < len → ∃ q : List Value × α, w.cells? base (a.add (i * z)) z = some q.1 ∧ R q.2 q.1 := fun i hi => by
      have hE := hel i hi
      rw [List.getElem?_eq_getElem (by omega), Option.bind_eq_some_iff] at hE
      obtain ⟨c, h1, h2⟩ := hE
      obtain ⟨q, hq⟩ := ih n (by omega) c _ h2
      rw [hc] at h1
      exact ⟨(c, q), h1, hq⟩
    obtain ⟨O, hO⟩ := chooseL ([], a0) each
    refine ⟨_, (List.range len).map fun i => (O i).2, fun i => (O i).1, rfl, ⟨by simp; omega, some a, cap, by simp, fun h0 => ?_⟩, fun i q hq => ?_⟩
    · have h0 : 0 < len := by simp at h0; omega
      have hsp : a.spot = none ∧ a.block < w.heap.size := by
        obtain ⟨_, h2, h3⟩ := World.cells?_some (hO 0 h0).1
        have hcell := (h3 0 hz).trans (List.getElem?_eq_getElem (by rw [h2]; omega))
        exact ⟨by have := World.cell?_spot hcell; simpa [Addr.add] using this, by obtain ⟨b, o, sp⟩ := a; have := World.block_lt_of_cell? w _ hcell; simpa [Addr.add] using this⟩
      obtain ⟨b, o, sp⟩ := a
      obtain ⟨rfl, hb⟩ := hsp
      refine ⟨b, o, rfl, hb, fun i hi => ?_⟩
      have hi : i < len := by simpa using hi
      obtain ⟨h1, h2⟩ := hO i hi
      refine ⟨hR _ _ h2, fun y u hu => ?_⟩
      obtain ⟨_, h4, h5⟩ := World.cells?_some h1
      have hy : y < z := by have hz1 : y < (O i).1.length := (List.getElem?_eq_some_iff.1 hu).1; have := hR _ _ h2; omega
      have := (h5 y hy).trans hu
      rw [addr_add, addr_add] at this
      exact this
    · have hi : i < len := by have := (List.getElem?_eq_some_iff.1 hq).1; simpa using this
      have : q = (O i).2 := by simpa [hi] using hq.symm
      rw [this]; exact (hO i hi).2
set_option maxRecDepth 100000 in
theorem open_vf : ∀ (fuel : Nat) (cs : List Value) (x : DataW H × List MemPlace), DataW.trod enc Tryd.prog w base spare held fuel TVal cs = some x → ∃ q : CT × JV, q.1.cs = cs ∧ Rt w (fun k => k < w.heap.size) q.1 q.2 ∧ Fit q.1 := by
  intro fuel
  induction fuel using Nat.strongRecOn with
  | ind fuel ih =>
    intro cs x h
    have hlen0 : cs.length = 5 := by
      obtain ⟨_, _, _, _, hcl, _⟩ := DataW.trod_struct Tryd.underlying25 h
      rw [hcl]; exact cellsVal
    obtain ⟨xs, k, rfl, _, _, hxl, hfs⟩ := DataW.trod_struct Tryd.underlying25 h
    match xs, hxl, cs, hlen0 with
    | [y0, y1, y2, y3, y4], _, [v0, v1, v2, v3, v4], _ =>
      have g0 : DataW.trod enc Tryd.prog w base spare held k 3 (([v0, v1, v2, v3, v4].drop 0).take (Tryd.prog.cellsOf 3)) = some y0 := hfs 0 _ rfl
      have g1 : DataW.trod enc Tryd.prog w base spare held k 3 (([v0, v1, v2, v3, v4].drop 1).take (Tryd.prog.cellsOf 3)) = some y1 := hfs 1 _ rfl
      have g2 : DataW.trod enc Tryd.prog w base spare held k 9 (([v0, v1, v2, v3, v4].drop 2).take (Tryd.prog.cellsOf 9)) = some y2 := hfs 2 _ rfl
      have g3 : DataW.trod enc Tryd.prog w base spare held k TVals (([v0, v1, v2, v3, v4].drop 3).take (Tryd.prog.cellsOf TVals)) = some y3 := hfs 3 _ rfl
      have g4 : DataW.trod enc Tryd.prog w base spare held k TPairs (([v0, v1, v2, v3, v4].drop 4).take (Tryd.prog.cellsOf TPairs)) = some y4 := hfs 4 _ rfl
      rw [cellsI] at g0 g1
      rw [cellsS] at g2
      rw [cellsVs] at g3
      rw [cellsPs] at g4
      obtain ⟨n0, e0, _, w0⟩ := DataW.trod_int Tryd.underlying3 g0
      obtain ⟨n1, e1, _, w1⟩ := DataW.trod_int Tryd.underlying3 g1
      obtain ⟨s2, e2, _, w2⟩ := DataW.trod_string Tryd.underlying9 g2
      obtain ⟨v3', L, C, e3, hr3, hk3⟩ := open_rowat (z := 5) ((.mk 0 0 [] (.bool false) (.bool false) [] [], .mk 0 0 [] [] []) : CT × JV) (fun (q : CT × JV) cs => q.1.cs = cs ∧ Rt w (fun k => k < w.heap.size) q.1 q.2 ∧ Fit q.1) Tryd.underlying22 cellsVal (by decide) (fun q c h => by rw [← h.1]; exact CT.cs5' _) (fun n hn cs x h => ih n (by omega) cs x h) g3
      obtain ⟨v4', M, D, e4, hr4, hk4⟩ := open_rowat (z := 6) (([], .mk 0 0 [] (.bool false) (.bool false) [] [], .mk 0 0 [] [] []) : Bs × CT × JV) (fun (q : Bs × CT × JV) cs => sj q.1 :: q.2.1.cs = cs ∧ Rt w (fun k => k < w.heap.size) q.2.1 q.2.2 ∧ Fit q.2.1 ∧ q.1.length ≤ maxLen) Tryd.underlying23 cellsPair (by decide) (fun q c h => by rw [← h.1, List.length_cons, CT.cs5']) (fun n hn cs x h => by
        have hlen1 : cs.length = 6 := by
          obtain ⟨_, _, _, _, hcl, _⟩ := DataW.trod_struct Tryd.underlying36 h
          rw [hcl]; exact cellsPair
        obtain ⟨xs, k', rfl, _, _, hxl, hfs⟩ := DataW.trod_struct Tryd.underlying36 h
        match xs, hxl with
        | [y0, y1], _ =>
          have g0 : DataW.trod enc Tryd.prog w base spare held k' 9 ((cs.drop 0).take (Tryd.prog.cellsOf 9)) = some y0 := hfs 0 _ rfl
          have g1 : DataW.trod enc Tryd.prog w base spare held k' TVal ((cs.drop 1).take (Tryd.prog.cellsOf TVal)) = some y1 := hfs 1 _ rfl
          rw [cellsS] at g0
          rw [cellsVal] at g1
          obtain ⟨s, e, _, ws⟩ := DataW.trod_string Tryd.underlying9 g0
          obtain ⟨q, hq1, hq2, hq3⟩ := ih k' (by omega) _ _ g1
          refine ⟨(s.data.toList, q.1, q.2), ?_, hq2, hq3, by simpa using ws⟩
          match cs, hlen1 with
          | [c0, c1, c2, c3, c4, c5], _ =>
            rw [hq1]
            simp at e ⊢
            rw [e]) g4
      simp at e0 e1 e2 e3 e4
      subst e0 e1 e2 e3 e4
      refine ⟨(.mk n0 n1 s2.data.toList v3 v4 (L.map (·.1)) (M.map fun q => (q.1, q.2.1)), .mk n0 n1 s2.data.toList (L.map (·.2)) (M.map fun q => (q.1, q.2.2))), by simp [CT.cs, vcl], .mk (by simp) (by simp) (by
          rw [List.length_map]
          exact hr3.ext fun i hi => by
            have h1 : L[i]? = some L[i] := List.getElem?_eq_getElem hi
            unfold CT.nth
            rw [List.getElem?_map, h1]
            exact (hk3 i _ h1).1) (by
          rw [List.length_map]
          exact hr4.ext fun i hi => by
            have h1 : M[i]? = some M[i] := List.getElem?_eq_getElem hi
            unfold CT.pth
            rw [List.getElem?_map, h1]
            exact (hk4 i _ h1).1) (fun n c j h1 h2 => ?_) (fun n c j h1 h2 => ?_) (fun n c j h1 h2 => ?_), .mk (bounds_i64 w0) (bounds_i64 w1) (by simpa using w2) (fun c hc => ?_) (fun q hq => ?_) (fun q hq => ?_)⟩
      · rw [List.getElem?_map, Option.map_eq_some_iff] at h1 h2
        obtain ⟨q, hq, rfl⟩ := h1
        obtain ⟨q', hq', rfl⟩ := h2
        obtain rfl := Option.some.inj (hq.symm.trans hq')
        exact (hk3 n q hq).2.1
      · rw [List.getElem?_map, Option.map_eq_some_iff] at h1 h2
        obtain ⟨q, hq, rfl⟩ := h1
        obtain ⟨q', hq', rfl⟩ := h2
        obtain rfl := Option.some.inj (hq.symm.trans hq')
        rfl
      · rw [List.getElem?_map, Option.map_eq_some_iff] at h1 h2
        obtain ⟨q, hq, rfl⟩ := h1
        obtain ⟨q', hq', rfl⟩ := h2
        obtain rfl := Option.some.inj (hq.symm.trans hq')
        exact (hk4 n q hq).2.1
      · obtain ⟨q, hq, rfl⟩ := List.mem_map.1 hc
        obtain ⟨n, hn, he⟩ := List.mem_iff_getElem.1 hq
        exact (hk3 n q (by rw [List.getElem?_eq_getElem hn, he])).2.2
      · obtain ⟨q', hq', rfl⟩ := List.mem_map.1 hq
        obtain ⟨n, hn, he⟩ := List.mem_iff_getElem.1 hq'
        exact (hk4 n q' (by rw [List.getElem?_eq_getElem hn, he])).2.2.2
      · obtain ⟨q', hq', rfl⟩ := List.mem_map.1 hq
        obtain ⟨n, hn, he⟩ := List.mem_iff_getElem.1 hq'
        exact (hk4 n q' (by rw [List.getElem?_eq_getElem hn, he])).2.2.1
set_option maxRecDepth 100000 in
theorem open_val {r : Reach} {b0 : Nat} {v : Value} {d : DataW H} {p : List MemPlace} (hv : Value.okWide Tryd.prog w r b0 TVal v) (h : DataW.Trod enc Tryd.prog w base spare held TVal v d p) : ∃ c j, v = .agg c.cs.toArray ∧ HeldT w (fun k => k < w.heap.size) c j ∧ Fit c := by
  have hv2 : ∃ cs, v = .agg cs := by
    simp only [Value.okWide, Tryd.underlying25] at hv
    obtain ⟨cs, h1, _⟩ := hv
    exact ⟨cs, h1⟩
  obtain ⟨cs, rfl⟩ := hv2
  obtain ⟨fuel, hf⟩ := h
  obtain ⟨q, h1, h2, h3⟩ := open_vf fuel _ _ hf
  exact ⟨q.1, q.2, by rw [h1]; simp [Value.cells], ⟨fun k hk => hk, h2⟩, h3⟩
end
end Go.Proofs.YtpegkoklmhccjaaDoor
end
