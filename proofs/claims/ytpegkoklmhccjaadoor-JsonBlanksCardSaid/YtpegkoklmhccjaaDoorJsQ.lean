/- Chapter 12: the reader: objects, the walk. -/
import Derived.Test.YtpegkoklmhccjaaDoorJsP
import Derived.Test.YtpegkoklmhccjaaDoorJsM
namespace Go.Proofs.YtpegkoklmhccjaaDoor
open Go.RowKit Go.Sx
set_option linter.unusedVariables false
structure ObJ (o : Option (List (Bs × JV) × Bs)) (V : Bs → Option (JV × Bs)) (t : Bs) (x : ObI) : Prop where
  tl : x.t.length ≤ t.length
  kl : x.bad = false → x.ks.length + x.t.length ≤ t.length
  km : x.ks.length ≤ t.length + 1
  n : x.t.length < x.n
  R : Rw 6 x.ks.length x.r (prX x.ks)
  e : sv x.r x.ks.length = .slice x.a x.ks.length x.cc
  z : ∀ y ∈ x.ks, y.cs.length = 5
  sn : SeenIs x.es x.seen
  ok : (x.bad = true ∧ o = none) ∨ (x.bad = false ∧ o = (prsG V x.seen x.n x.t).map fun p => (x.ks.map (fun q => (q.name, q.j)) ++ p.1, p.2))
/-- what an object's reader gives in the end -/
theorem object_end {L : List Ent} {w w' : World} {b : Nat} {d : Int} {u : Bs} {bad : Bool} {o : Option (JV × Bs)} {s : Bs} {ks : List Pr} {r : Sx.Own} {a : Option Addr} {cc : Nat} {A : Nat → Prop} (hs : St [bl b] w w' (cl b (rdC u bad d) TRd :: L)) (k kr : Nat) (hk : L[k]? = some (rs (heldR A (prK ks)))) (hr : L[kr]? = some (se r (prX ks) TP))
    (hR : Rw 6 ks.length r (prX ks)) (e : sv r ks.length = .slice a ks.length cc) (hz : ∀ y ∈ ks, y.cs.length = 5) (hn : ks.length ≤ maxLen) (hu : u.length ≤ s.length) (ho : (bad = true ∧ o = none) ∨ (bad = false ∧ o = some (.mk 5 0 [] [] (ks.map fun q => (q.name, q.j)), u))) :
    ∃ x : VO, VF o s x ∧ Value.agg #[.int .i64 5, .int .i64 0, sj [], .slice none 0 0, .slice a ks.length cc] = .agg x.cs.toArray ∧ Upd b (rdC x.t x.bad d) TRd w w' ∧ ∃ A : Nat → Prop, (∀ k, A k → w.heap.size ≤ k) ∧ Held w' A [(x.j, x.cs)] := by
  have hH : Held w' A (prK ks) := hs.res (k := k + 1) (by simpa using hk)
  have hW : ∀ i, rowB r i → (se r (prX ks) TP).W i := fun i hi => by
    cases r with
    | none => exact hi.elim
    | some q => obtain rfl : i = q.1 := hi; simp [se]
  refine ⟨⟨.mk 5 0 [] [] (ks.map fun q => (q.name, q.j)), vcl 5 0 [] (.slice none 0 0) (.slice a ks.length cc), u, bad⟩, ⟨hu, ?_⟩, rfl, hs.updU, fun i => A i ∨ rowB r i, fun i hi => ?_, fun i hi => ?_, fun x hx => ?_⟩
  · rcases ho with ⟨h1, h2⟩ | ⟨h1, h2⟩
    · exact .inl ⟨h2, h1⟩
    · exact .inr ⟨h2, h1⟩
  · rcases hi with hi | hi
    · exact St.fresh hs hk i ((rsW _ _).2 hi)
    · exact St.fresh hs hr i (hW i hi)
  · rcases hi with hi | hi
    · exact hH.1 i hi
    · exact hs.ltA (List.mem_cons_of_mem _ (List.mem_of_getElem? hr)) (hW i hi).a
  · obtain rfl : x = _ := by simpa using hx
    refine .mk (fun _ => []) (fun n => ((ks[n]?).map (·.cs)).getD []) (.nil ..) ?_ (fun n j h => by simp at h) (fun n q h => ?_)
    · rw [List.length_map, ← e]
      refine row_at hs (k := kr + 1) (ks := ks.map fun p => sj p.name :: p.cs) (by simpa using hr) hR (by simp) (fun y hy => ?_) (fun i hi => .inr hi) (fun i y hy => ?_) hn
      · obtain ⟨z, h1, rfl⟩ := List.mem_map.1 hy
        simp [hz z h1]
      · rw [List.getElem?_map] at hy
        unfold pcl
        rw [List.getElem?_map]
        cases hq : ks[i]? with
        | none => rw [hq] at hy; cases hy
        | some p => rw [hq] at hy; simpa [hq] using hy
    · rw [List.getElem?_map] at h
      cases hq : ks[n]? with
      | none => rw [hq] at h; cases h
      | some y =>
        rw [hq] at h
        obtain rfl : (y.name, y.j) = q := by simpa using h
        exact (hH.2 (y.j, y.cs) (List.mem_map.2 ⟨y, List.mem_of_getElem? hq, rfl⟩)).to (fun _ h => .inl h) fun _ _ => rfl
section
variable {b : Nat} {t : Bs} {d : Nat} {w : World}
set_option maxRecDepth 100000 in
set_option maxHeartbeats 4000000 in
theorem object_any {V : Bs → Option (JV × Bs)} (hd : d + 1 ≤ 8) (hV : VIs V b ((d + 1 : Nat) : Int)) (hl : t.length < 100000) (h : w.heap[b]? = some (.cells (rdC (123 :: t) false d) TRd (0, 0))) (hw : Laid w) : ValC 51 [pj b] (objG V t) (123 :: t) b d w := by
  refine enterVC tab_ok Tryd.func51 rfl Tryd.ntmps51 rfl (St.rdH h hw) ?_
  intro b1 b2
  refine bu (c := valC 5 0 []) rfl ?_
  intro b3
  refine sN 5 rfl rfl (by simp [Value.oneCell']) ?_ (by kernel_rfl)
  refine mkm (keS : Bs → Value) (fun bm => ?_)
  intro b4
  refine s1 7 rfl (by show 0 < 1; decide) ?_
  refine ld1 3 rfl rfl ?_
  refine inl (C := ⟨Tryd.prog, tab, _, [bl b], w, _⟩) tab_ok Tryd.func66 rfl Tryd.ntmps66 rfl ?_
  intro b5
  refine ld1 8 rfl rfl ?_
  refine ld1 0 rfl rfl ?_
  refine .as ((d + 1 : Nat) : Int) (by omega) (by simp only [mn]; omega) (by simp only [mx]; omega) ?_
  refine s1 0 rfl (by show 2 < 3; decide) ?_
  refine ld1 8 rfl rfl ?_
  have he : eatP 123 (123 :: t) = (true, t) := eat_open 123 (by decide) t
  refine cU1 0 rfl (v := .bool true) (c := rdC t false ((d + 1 : Nat) : Int)) (fun w h => by have := eat_any (s := 123 :: t) 123 (by simp; omega) h; rw [he] at this; exact this) ?_
  iterate 1 refine ct rfl ?_
  refine ld1 8 rfl rfl ?_
  iterate 3 refine ct rfl ?_
  refine ld1 0 rfl rfl ?_
  refine ct rfl ?_
  refine cf rfl ?_
  refine cf (decide_eq_false (by omega)) ?_
  refine ld1 8 rfl rfl ?_
  have hle := eat_len 125 t
  generalize hE : eatP 125 t = E at hle
  obtain ⟨e1, u⟩ := E
  dsimp only at hle
  refine cU1 0 rfl (v := .bool e1) (c := rdC u false ((d + 1 : Nat) : Int)) (fun w h => by have := eat_any (s := t) 125 (by omega) h; rw [hE] at this; exact this) ?_
  cases e1 with
  | true =>
    refine ct rfl ?_
    refine dfl (C := ⟨Tryd.prog, tab, _, [bl b], w, _⟩) tab_ok Tryd.func79 rfl Tryd.ntmps79 rfl rfl ?_
    refine ld1 8 rfl rfl ?_
    refine ld1 0 rfl rfl ?_
    refine .as (d : Int) (by omega) (by simp only [mn]; omega) (by simp only [mx]; omega) ?_
    refine s1 0 rfl (by show 2 < 3; decide) ?_
    refine ⟨rfl, bk ?_⟩
    refine bk ?_
    refine ldN 5 rfl rfl ?_
    refine sN 4 rfl rfl (by simp [Value.oneCell']) ?_ (by kernel_rfl)
    refine ldN 4 rfl rfl ?_

    exact ⟨fun w' hs => object_end hs.deads 1 8 (r := none) (ks := []) rfl rfl (Rw.nil 6) rfl (fun y hy => by simp at hy) (by decide) (by simp; omega) (.inr ⟨rfl, by unfold objG; rw [hE]; rfl⟩)⟩
  | false =>
    refine cf rfl ?_
    have hspec : objG V t = (prsG V [] (u.length + 1) u).map fun p => (.mk 5 0 [] [] p.1, p.2) := by unfold objG; rw [hE]; rfl
    refine lp tab_ok (ObJ (prsG V [] (u.length + 1) u) V u) (fun x => ⟨[(2, .int .u8 125), (3, .func (.func 68) #[] #[pj b1, pj b4, pj b3]), (4, pj b5)], obL b ((d + 1 : Nat) : Int) b1 b2 b3 bm b4 b5 x, [⟨.fn (.func 79) #[pj b5], #[]⟩]⟩) (fun x => cond x.bad 0 (x.n + 1)) ⟨[], none, none, 0, fun _ => False, u, false, u.length + 1, [], [], 0⟩
      ⟨Nat.le_refl _, fun _ => by simp, by simp, by simp, Rw.nil 6, rfl, fun y hy => by simp at hy, fun k => rfl, .inr ⟨rfl, by simp⟩⟩ ⟨⟨rfl, rfl, rfl, trivial⟩, .cons (.cons (.cons (.cons (.cons (.cons (.cons (.cons (.cons (.pad .nil))))))))), rfl⟩ ?_
    rintro ⟨ks, r, a, cc, A, v, bad, n, seen, es, clk⟩ ⟨htl, hkl, hkm0, hn, hR, he2, hz, hsn, hok⟩
    dsimp only at htl hkl hkm0 hn hR he2 hz hsn hok ⊢
    have hkm : ks.length ≤ maxLen := by unfold maxLen; omega
    have hvl : v.length ≤ (123 :: t).length := by simp; omega
    refine ld1 8 rfl rfl ?_
    refine ld1 0 rfl (v := .bool bad) rfl ?_
    rcases hok with ⟨rfl, hq⟩ | ⟨rfl, hq⟩
    · refine cf rfl ?_
      refine dfl (C := ⟨Tryd.prog, tab, _, [bl b], w, _⟩) tab_ok Tryd.func79 rfl Tryd.ntmps79 rfl rfl ?_
      refine ld1 8 rfl rfl ?_
      refine ld1 0 rfl rfl ?_
      refine .as (d : Int) (by omega) (by simp only [mn]; omega) (by simp only [mx]; omega) ?_
      refine s1 0 rfl (by show 2 < 3; decide) ?_
      refine ⟨rfl, bk ?_⟩
      refine bk ?_
      refine ldN 5 rfl rfl ?_
      refine sN 4 rfl rfl (by simp [Value.oneCell']) ?_ (by kernel_rfl)
      refine ldN 4 rfl rfl ?_

      exact ⟨fun w' hs => object_end hs 1 8 rfl rfl hR he2 hz hkm hvl (.inl ⟨rfl, by rw [hspec, hq]; rfl⟩)⟩
    · refine ct rfl ?_
      have hkl' := hkl rfl
      obtain ⟨m, rfl⟩ : ∃ m, n = m + 1 := ⟨n - 1, by omega⟩
      refine CallP.mono (pair_one hV (by omega) (by omega) hR he2 hsn) (fun u' L' hq2 => ?_)
      obtain ⟨name, j, cs, v2, bd, r', a', cc', es', clk', A', ⟨hv2, hx⟩, hc5, hR', he', hsn', rfl, rfl⟩ := hq2
      have hl1 : (ks ++ [(⟨name, j, cs⟩ : Pr)]).length = ks.length + 1 := by simp
      have hkm' : (ks ++ [(⟨name, j, cs⟩ : Pr)]).length ≤ maxLen := by rw [hl1]; unfold maxLen; omega
      rw [← hl1] at hR' he'
      have hz' : ∀ y ∈ ks ++ [(⟨name, j, cs⟩ : Pr)], y.cs.length = 5 := fun y hy => by
        rcases List.mem_append.1 hy with hy | hy
        · exact hz y hy
        · obtain rfl : y = ⟨name, j, cs⟩ := by simpa using hy
          exact hc5
      have hv2l : v2.length ≤ (123 :: t).length := by simp; omega
      refine ld1 8 rfl rfl ?_
      refine ld1 0 rfl (v := .bool bd) rfl ?_
      rcases hx with ⟨rfl, hx⟩ | ⟨rfl, hx⟩
      · iterate 3 refine cf rfl ?_
        iterate 2 refine ct rfl ?_
        refine dfl (C := ⟨Tryd.prog, tab, _, [bl b], w, _⟩) tab_ok Tryd.func79 rfl Tryd.ntmps79 rfl rfl ?_
        refine ld1 8 rfl rfl ?_
        refine ld1 0 rfl rfl ?_
        refine .as (d : Int) (by omega) (by simp only [mn]; omega) (by simp only [mx]; omega) ?_
        refine s1 0 rfl (by show 2 < 3; decide) ?_
        refine ⟨rfl, bk ?_⟩
        refine bk ?_
        refine ldN 5 rfl rfl ?_
        refine sN 4 rfl rfl (by simp [Value.oneCell']) ?_ (by kernel_rfl)
        refine ldN 4 rfl rfl ?_

        exact ⟨fun w' hs => object_end hs 1 8 rfl rfl hR' he' hz' hkm' hv2l (.inl ⟨rfl, by rw [hspec, hq, prsG, hx]; rfl⟩)⟩
      · have hI : prsG V seen (m + 1) v = if (eatP 125 v2).1 then some ([(name, j)], (eatP 125 v2).2) else if (eatP 44 (eatP 125 v2).2).1 then (prsG V (name :: seen) m (eatP 44 (eatP 125 v2).2).2).map fun p => ((name, j) :: p.1, p.2) else none := by rw [prsG, hx]
        have hle2 := eat_len 125 v2
        generalize hE2 : eatP 125 v2 = E at hle2 hI
        obtain ⟨e2, u2⟩ := E
        dsimp only at hle2 hI
        refine ct rfl ?_
        refine ld1 8 rfl rfl ?_
        iterate 2 refine ct rfl ?_
        refine cU1 0 rfl (v := .bool e2) (c := rdC u2 false ((d + 1 : Nat) : Int)) (fun w h => by have := eat_any (s := v2) 125 (by omega) h; rw [hE2] at this; exact this) ?_
        refine cf rfl ?_
        cases e2 with
        | true =>
          refine ct rfl ?_
          refine dfl (C := ⟨Tryd.prog, tab, _, [bl b], w, _⟩) tab_ok Tryd.func79 rfl Tryd.ntmps79 rfl rfl ?_
          refine ld1 8 rfl rfl ?_
          refine ld1 0 rfl rfl ?_
          refine .as (d : Int) (by omega) (by simp only [mn]; omega) (by simp only [mx]; omega) ?_
          refine s1 0 rfl (by show 2 < 3; decide) ?_
          refine ⟨rfl, bk ?_⟩
          refine bk ?_
          refine ldN 5 rfl rfl ?_
          refine sN 4 rfl rfl (by simp [Value.oneCell']) ?_ (by kernel_rfl)
          refine ldN 4 rfl rfl ?_

          exact ⟨fun w' hs => object_end hs 1 8 rfl rfl hR' he' hz' hkm' (by simp; omega) (.inr ⟨rfl, by rw [hspec, hq, hI]; simp⟩)⟩
        | false =>
          refine cf rfl ?_
          refine ld1 8 rfl rfl ?_
          have hle3 := eat_len 44 u2
          have hlt3 := eat_lt 44 u2
          generalize hE3 : eatP 44 u2 = E at hle3 hlt3 hI
          obtain ⟨e3, u3⟩ := E
          dsimp only at hle3 hlt3 hI
          refine cU1 0 rfl (v := .bool e3) (c := rdC u3 false ((d + 1 : Nat) : Int)) (fun w h => by have := eat_any (s := u2) 44 (by omega) h; rw [hE3] at this; exact this) ?_
          cases e3 with
          | true =>
            have hlt := hlt3 rfl
            refine cf rfl ?_
            exact ⟨⟨ks ++ [(⟨name, j, cs⟩ : Pr)], r', a', cc', fun i => A i ∨ A' i, u3, false, m, name :: seen, es', clk'⟩, ⟨by dsimp only; omega, fun _ => by dsimp only; rw [hl1]; omega, by dsimp only; rw [hl1]; omega, by dsimp only; omega, hR', he', hz', hsn', .inr ⟨rfl, by rw [hq, hI]; simp only [List.map_append]; cases prsG V (name :: seen) m u3 <;> simp⟩⟩, by dsimp only [cond]; omega, ⟨rfl, rfl, rfl, trivial⟩, .cons (.cons (.cons (.cons (.cons (.cons (.cons (.cons (.cons (.cons .nil))))))))), rfl⟩
          | false =>
            refine ct rfl ?_
            refine ld1 8 rfl rfl ?_
            refine cU1 0 rfl (fun w h => fail_any h) ?_
            exact ⟨⟨ks ++ [(⟨name, j, cs⟩ : Pr)], r', a', cc', fun i => A i ∨ A' i, u3, true, m + 1, name :: seen, es', clk'⟩, ⟨by dsimp only; omega, (fun h => by cases h), by dsimp only; rw [hl1]; omega, by dsimp only; omega, hR', he', hz', hsn', .inl ⟨rfl, by rw [hq, hI]; rfl⟩⟩, by dsimp only [cond]; omega, ⟨rfl, rfl, rfl, trivial⟩, .cons (.cons (.cons (.cons (.cons (.cons (.cons (.cons (.cons (.cons .nil))))))))), rfl⟩
end
end Go.Proofs.YtpegkoklmhccjaaDoor
