/- Chapter 12: the reader: values. -/
import Derived.Test.YtpegkoklmhccjaaDoorJsR
namespace Go.Proofs.YtpegkoklmhccjaaDoor
open Go.RowKit Go.Sx
set_option linter.unusedVariables false
theorem leaf_end {L : List Ent} {w w' : World} {b : Nat} {d : Int} {u : Bs} {bad : Bool} {o : Option (JV × Bs)} {s : Bs} {k i : Int} {l : Bs} (hs : St [bl b] w w' (cl b (rdC u bad d) TRd :: L)) (hu : u.length ≤ s.length) (ho : (o = none ∧ bad = true) ∨ (o = some (.mk k i l [] [], u) ∧ bad = false)) :
    ∃ x : VO, VF o s x ∧ Value.agg (valC k i l) = .agg x.cs.toArray ∧ Upd b (rdC x.t x.bad d) TRd w w' ∧ ∃ A : Nat → Prop, (∀ k, A k → w.heap.size ≤ k) ∧ Held w' A [(x.j, x.cs)] :=
  ⟨⟨.mk k i l [] [], vcl k i l (.slice none 0 0) (.slice none 0 0), u, bad⟩, ⟨hu, ho⟩, rfl, hs.updU, fun _ => False, fun k h => h.elim, held_leaf ..⟩
theorem held_end {L : List Ent} {w w' : World} {b : Nat} {d : Int} {u : Bs} {bad : Bool} {o : Option (JV × Bs)} {s : Bs} {j : JV} {cs : List Value} {A : Nat → Prop} (hs : St [bl b] w w' (cl b (rdC u bad d) TRd :: L)) (k : Nat) (hk : L[k]? = some (rs (heldR A [(j, cs)]))) (hu : VF o s ⟨j, cs, u, bad⟩) :
    ∃ x : VO, VF o s x ∧ Value.agg cs.toArray = .agg x.cs.toArray ∧ Upd b (rdC x.t x.bad d) TRd w w' ∧ ∃ A : Nat → Prop, (∀ k, A k → w.heap.size ≤ k) ∧ Held w' A [(x.j, x.cs)] :=
  ⟨⟨j, cs, u, bad⟩, hu, rfl, hs.updU, A, fun i hi => St.fresh hs hk i ((rsW _ _).2 hi), hs.res (k := k + 1) (by simpa using hk)⟩
section
variable {b : Nat} {d : Nat}
set_option maxRecDepth 100000 in
set_option maxHeartbeats 4000000 in
theorem value_of {ls os : Bs → Option (JV × Bs)} (hL : ∀ t w, t.length < 100000 → w.heap[b]? = some (.cells (rdC (91 :: t) false d) TRd (0, 0)) → Laid w → ValC 50 [pj b] (ls t) (91 :: t) b d w)
    (hO : ∀ t w, t.length < 100000 → w.heap[b]? = some (.cells (rdC (123 :: t) false d) TRd (0, 0)) → Laid w → ValC 51 [pj b] (os t) (123 :: t) b d w) : VIs (valS ls os) b d := by
  intro s w hl h hw
  have hws := ws_len s
  cases hs : ws s with
  | nil =>
    have : valS ls os s = none := by unfold valS; rw [hs]
    rw [this]; exact value_fail (.inl hs) hl h
  | cons c t =>
    have hc := c.toNat_lt
    rw [hs] at hws
    have hsp : valS ls os s = valT ls os c t := by unfold valS; rw [hs]
    unfold valT at hsp
    refine enterVC tab_ok Tryd.func26 rfl Tryd.ntmps26 rfl (St.rdL h hw) ?_
    intro b2
    have hb := fun w h => blanks_any (b := b) (s := s) (bad := false) (d := d) (w := w) hl h
    rw [hs] at hb
    refine cU1 0 rfl hb ?_
    refine ld1 0 rfl (v := sj (c :: t)) rfl ?_
    iterate 4 refine ct (ne0b c t) ?_
    refine ld1 0 rfl rfl ?_
    refine cf (ne0 c t) ?_
    refine cf rfl ?_
    refine ld1 0 rfl (v := sj (c :: t)) rfl ?_
    refine chL 0 rfl rfl ?_
    refine inl (C := ⟨Tryd.prog, tab, _, [bl b], w, _⟩) tab_ok Tryd.func34 rfl Tryd.ntmps34 rfl ?_
    intro b3
    have hct := hws
    by_cases c110 : c = 110
    · refine ct (ceT 110 rfl c110) ?_
      refine bk ?_
      refine inl (C := ⟨Tryd.prog, tab, _, [bl b], w, _⟩) tab_ok Tryd.func44 rfl Tryd.ntmps44 rfl ?_
      intro b4
      refine ld1 3 rfl rfl ?_
      cases hp : pre [110, 117, 108, 108] (c :: t) with
      | none =>
        refine cU1 0 rfl (fun w h => must_no [110, 117, 108, 108] hp h) ?_
        refine bu (c := valC 0 0 []) rfl ?_
        refine sN 4 rfl rfl (by simp [Value.oneCell']) ?_ (by kernel_rfl)
        refine ldN 4 rfl rfl ?_
        refine bk ?_
        refine sN 2 rfl rfl (by simp [Value.oneCell']) ?_ (by kernel_rfl)
        refine ldN 2 rfl rfl ?_
        exact ⟨fun w' hs => leaf_end hs hct (.inl ⟨by rw [hsp]; rw [if_pos c110]; rw [hp]; rfl, rfl⟩)⟩
      | some u =>
        have hu := pre_len _ _ _ hp
        refine cU1 0 rfl (fun w h => must_yes [110, 117, 108, 108] hp h) ?_
        refine bu (c := valC 0 0 []) rfl ?_
        refine sN 4 rfl rfl (by simp [Value.oneCell']) ?_ (by kernel_rfl)
        refine ldN 4 rfl rfl ?_
        refine bk ?_
        refine sN 2 rfl rfl (by simp [Value.oneCell']) ?_ (by kernel_rfl)
        refine ldN 2 rfl rfl ?_
        exact ⟨fun w' hs => leaf_end hs (by omega) (.inr ⟨by rw [hsp]; rw [if_pos c110]; rw [hp]; rfl, rfl⟩)⟩
    · refine cf (ceF 110 rfl c110) ?_
      by_cases c116 : c = 116
      · refine ct (ceT 116 rfl c116) ?_
        refine bk ?_
        refine inl (C := ⟨Tryd.prog, tab, _, [bl b], w, _⟩) tab_ok Tryd.func46 rfl Tryd.ntmps46 rfl ?_
        intro b4
        refine ld1 3 rfl rfl ?_
        cases hp : pre [116, 114, 117, 101] (c :: t) with
        | none =>
          refine cU1 0 rfl (fun w h => must_no [116, 114, 117, 101] hp h) ?_
          refine bu (c := valC 1 1 []) rfl ?_
          refine sN 4 rfl rfl (by simp [Value.oneCell']) ?_ (by kernel_rfl)
          refine ldN 4 rfl rfl ?_
          refine bk ?_
          refine sN 2 rfl rfl (by simp [Value.oneCell']) ?_ (by kernel_rfl)
          refine ldN 2 rfl rfl ?_
          exact ⟨fun w' hs => leaf_end hs hct (.inl ⟨by rw [hsp]; rw [if_neg c110, if_pos c116]; rw [hp]; rfl, rfl⟩)⟩
        | some u =>
          have hu := pre_len _ _ _ hp
          refine cU1 0 rfl (fun w h => must_yes [116, 114, 117, 101] hp h) ?_
          refine bu (c := valC 1 1 []) rfl ?_
          refine sN 4 rfl rfl (by simp [Value.oneCell']) ?_ (by kernel_rfl)
          refine ldN 4 rfl rfl ?_
          refine bk ?_
          refine sN 2 rfl rfl (by simp [Value.oneCell']) ?_ (by kernel_rfl)
          refine ldN 2 rfl rfl ?_
          exact ⟨fun w' hs => leaf_end hs (by omega) (.inr ⟨by rw [hsp]; rw [if_neg c110, if_pos c116]; rw [hp]; rfl, rfl⟩)⟩
      · refine cf (ceF 116 rfl c116) ?_
        by_cases c102 : c = 102
        · refine ct (ceT 102 rfl c102) ?_
          refine bk ?_
          refine inl (C := ⟨Tryd.prog, tab, _, [bl b], w, _⟩) tab_ok Tryd.func47 rfl Tryd.ntmps47 rfl ?_
          intro b4
          refine ld1 3 rfl rfl ?_
          cases hp : pre [102, 97, 108, 115, 101] (c :: t) with
          | none =>
            refine cU1 0 rfl (fun w h => must_no [102, 97, 108, 115, 101] hp h) ?_
            refine bu (c := valC 1 0 []) rfl ?_
            refine sN 4 rfl rfl (by simp [Value.oneCell']) ?_ (by kernel_rfl)
            refine ldN 4 rfl rfl ?_
            refine bk ?_
            refine sN 2 rfl rfl (by simp [Value.oneCell']) ?_ (by kernel_rfl)
            refine ldN 2 rfl rfl ?_
            exact ⟨fun w' hs => leaf_end hs hct (.inl ⟨by rw [hsp]; rw [if_neg c110, if_neg c116, if_pos c102]; rw [hp]; rfl, rfl⟩)⟩
          | some u =>
            have hu := pre_len _ _ _ hp
            refine cU1 0 rfl (fun w h => must_yes [102, 97, 108, 115, 101] hp h) ?_
            refine bu (c := valC 1 0 []) rfl ?_
            refine sN 4 rfl rfl (by simp [Value.oneCell']) ?_ (by kernel_rfl)
            refine ldN 4 rfl rfl ?_
            refine bk ?_
            refine sN 2 rfl rfl (by simp [Value.oneCell']) ?_ (by kernel_rfl)
            refine ldN 2 rfl rfl ?_
            exact ⟨fun w' hs => leaf_end hs (by omega) (.inr ⟨by rw [hsp]; rw [if_neg c110, if_neg c116, if_pos c102]; rw [hp]; rfl, rfl⟩)⟩
        · refine cf (ceF 102 rfl c102) ?_
          by_cases c34 : c = 34
          · refine ct (ceT 34 rfl c34) ?_
            refine bk ?_
            refine inl (C := ⟨Tryd.prog, tab, _, [bl b], w, _⟩) tab_ok Tryd.func48 rfl Tryd.ntmps48 rfl ?_
            intro b4
            refine ld1 3 rfl rfl ?_
            refine cUs (Φ := TxF (textP (c :: t)) (c :: t)) 0 rfl (fun w hs => text_any (by omega) (hs.nth (k := 0) rfl) (hs.res (k := 1) rfl)) ?_
            rintro ⟨l, u, bd⟩ ⟨hu, hx⟩
            dsimp only at hu hx ⊢
            refine bu (c := valC 3 0 l) rfl ?_
            refine sN 4 rfl rfl (by simp [Value.oneCell']) ?_ (by kernel_rfl)
            refine ldN 4 rfl rfl ?_
            refine bk ?_
            refine sN 2 rfl rfl (by simp [Value.oneCell']) ?_ (by kernel_rfl)
            refine ldN 2 rfl rfl ?_
            refine ⟨fun w' hs => leaf_end hs (by omega) ?_⟩
            rcases hx with ⟨hx, rfl, rfl⟩ | ⟨hx, rfl⟩
            · exact .inl ⟨by rw [hsp]; rw [if_neg c110, if_neg c116, if_neg c102, if_pos c34]; rw [hx]; rfl, rfl⟩
            · exact .inr ⟨by rw [hsp]; rw [if_neg c110, if_neg c116, if_neg c102, if_pos c34]; rw [hx]; rfl, rfl⟩
          · refine cf (ceF 34 rfl c34) ?_
            by_cases c91 : c = 91
            · refine ct (ceT 91 rfl c91) ?_
              refine ld1 3 rfl rfl ?_
              refine bk ?_
              subst c91
              refine cUV 0 rfl rfl (fun w hs => hL t w (by simp at hct; omega) (hs.nth (k := 0) rfl) (hs.res (k := 1) rfl)) (fun x A w0 hx hH => ?_)
              obtain ⟨j, cs, u, bd⟩ := x
              have hcs := hH.2 _ (List.mem_singleton.2 rfl)
              have hc5 := hcs.len
              have hc1 := hcs.one
              obtain ⟨hu, hx⟩ := hx
              dsimp only at hc5 hc1 hu hx ⊢
              refine sN 2 rfl (by rw [List.size_toArray, hc5]; rfl) (by simpa using hc1) ?_ (by rw [List.size_toArray, hc5]; kernel_rfl)
              refine ldN 2 rfl (by rw [List.size_toArray, hc5]) ?_
              exact ⟨fun w' hs => held_end hs 3 rfl ⟨by dsimp only; omega, by rw [hsp]; rw [if_neg (by decide), if_neg (by decide), if_neg (by decide), if_neg (by decide), if_pos rfl]; exact hx⟩⟩
            · refine cf (ceF 91 rfl c91) ?_
              by_cases c123 : c = 123
              · refine ct (ceT 123 rfl c123) ?_
                refine ld1 3 rfl rfl ?_
                refine bk ?_
                subst c123
                refine cUV 0 rfl rfl (fun w hs => hO t w (by simp at hct; omega) (hs.nth (k := 0) rfl) (hs.res (k := 1) rfl)) (fun x A w0 hx hH => ?_)
                obtain ⟨j, cs, u, bd⟩ := x
                have hcs := hH.2 _ (List.mem_singleton.2 rfl)
                have hc5 := hcs.len
                have hc1 := hcs.one
                obtain ⟨hu, hx⟩ := hx
                dsimp only at hc5 hc1 hu hx ⊢
                refine sN 2 rfl (by rw [List.size_toArray, hc5]; rfl) (by simpa using hc1) ?_ (by rw [List.size_toArray, hc5]; kernel_rfl)
                refine ldN 2 rfl (by rw [List.size_toArray, hc5]) ?_
                exact ⟨fun w' hs => held_end hs 3 rfl ⟨by dsimp only; omega, by rw [hsp]; rw [if_neg (by decide), if_neg (by decide), if_neg (by decide), if_neg (by decide), if_neg (by decide), if_pos rfl]; exact hx⟩⟩
              · refine cf (ceF 123 rfl c123) ?_
                refine ld1 3 rfl rfl ?_
                refine bk ?_
                refine cU (Φ := NumF (c :: t)) 0 rfl (fun w h => number_any (by simp) (by omega) h) ?_
                rintro ⟨k, i, u, bd⟩ ⟨hu, hk, hi, hx⟩
                dsimp only at hu hk hi hx ⊢
                refine sN 2 rfl rfl (by simp [Value.oneCell']) ?_ (by kernel_rfl)
                refine ldN 2 rfl rfl ?_
                refine ⟨fun w' hs => leaf_end hs (by omega) ?_⟩
                rcases hx with ⟨rfl, hx⟩ | ⟨rfl, rfl, hx⟩
                · exact .inl ⟨by rw [hsp]; rw [if_neg c110, if_neg c116, if_neg c102, if_neg c34, if_neg c91, if_neg c123]; rw [hx]; rfl, rfl⟩
                · exact .inr ⟨by rw [hsp]; rw [if_neg c110, if_neg c116, if_neg c102, if_neg c34, if_neg c91, if_neg c123]; rw [hx]; rfl, rfl⟩
end
end Go.Proofs.YtpegkoklmhccjaaDoor
