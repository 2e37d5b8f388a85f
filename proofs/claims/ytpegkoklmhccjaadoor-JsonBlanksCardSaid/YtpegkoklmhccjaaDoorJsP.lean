/- Chapter 12: the reader: objects, one pair. -/
import Derived.Test.YtpegkoklmhccjaaDoorJsO
namespace Go.Proofs.YtpegkoklmhccjaaDoor
open Go.RowKit Go.Sx
set_option linter.unusedVariables false
abbrev TP : Nat := 36
abbrev TMb : Nat := 73
theorem undMb : Tryd.prog.underlying TMb = some (.map 9 4) := by kernel_rfl
theorem undSt : Tryd.prog.underlying 9 = some .string := by kernel_rfl
theorem keyMb : KeyOk Tryd.prog 9 keS := keyStr undSt
theorem zeroB : (Tryd.prog.info? 4).bind (·.zero) = some (.bool false) := by kernel_rfl
abbrev zP : Array Value := #[sj [], .int .i64 0, .int .i64 0, sj [], .slice none 0 0, .slice none 0 0]
theorem infoP : (Tryd.prog.info? TP).map (fun i => (i.zero, i.size, i.bytes)) = some (some (.agg zP), 6, 96) := by kernel_rfl
theorem undPs : Tryd.prog.underlying 23 = some (.slice TP) := by kernel_rfl
theorem bsP (w : World) : (Instr.buildSlice 23 1 #[(0, .agg zP)]).run Tryd.prog w = .ok (.slice (some ⟨w.heap.size, 0, none⟩) 1 1) (w.alloc (.cells zP TP)) := by
  obtain ⟨i, hi, hz, hs, hb⟩ := infoOf infoP
  exact run_buildSlice w _ _ 1 _ zP i (.agg zP) undPs hi hz (by rw [hs]; decide) (by rw [hs]; decide) (by rw [hs]; kernel_rfl)
/-- the names that were seen -/
def SeenIs (es : Es Bs) (seen : List Bs) : Prop := ∀ k, (getS k es).getD (.bool false) = .bool (decide (k ∈ seen))
theorem getS_setS (k n : Bs) (v : Value) (clk : Nat) (es : Es Bs) : getS k (setS n v clk es) = if k = n then some v else getS k es := by
  induction es with
  | nil =>
    show getS k [(n, v, clk)] = _
    rw [getS_cons]
  | cons e l ih =>
    unfold setS
    by_cases h : n = e.1
    · rw [if_pos h, getS_cons, getS_cons]
      by_cases h2 : k = n
      · rw [if_pos h2, if_pos h2]
      · rw [if_neg h2, if_neg h2, if_neg (fun h3 => h2 (h3.trans h.symm))]
    · rw [if_neg h, getS_cons, getS_cons, ih]
      by_cases h2 : k = e.1
      · rw [if_pos h2, if_pos h2, if_neg (fun h3 => h (h3.symm.trans h2))]
      · rw [if_neg h2, if_neg h2]
theorem SeenIs.add {es : Es Bs} {seen : List Bs} (h : SeenIs es seen) (n : Bs) (clk : Nat) : SeenIs (setS n (.bool true) clk es) (n :: seen) := fun k => by
  rw [getS_setS]
  by_cases hk : k = n
  · rw [if_pos hk, hk]; simp
  · rw [if_neg hk, h k]; simp [hk]
/-- a pair: its name, its value, the value's cells -/
structure Pr where
  name : Bs
  j : JV
  cs : List Value
abbrev prK (ps : List Pr) : List (JV × List Value) := ps.map fun p => (p.j, p.cs)
abbrev prX (ps : List Pr) : List Value := (ps.map fun p => sj p.name :: p.cs).flatten
structure ObI where
  ks : List Pr
  r : Sx.Own
  a : Option Addr
  cc : Nat
  A : Nat → Prop
  t : Bs
  bad : Bool
  n : Nat
  seen : List Bs
  es : Es Bs
  clk : Nat
def obL (b : Nat) (d : Int) (b1 b2 b3 bm b4 b5 : Nat) (x : ObI) : List Ent := [cl b (rdC x.t x.bad d) TRd, rs laidR, rs (heldR x.A (prK x.ks)), cl b1 #[pj b] 58, cl b2 (valC 0 0 []) TV, cl b3 #[.int .i64 5, .int .i64 0, sj [], .slice none 0 0, .slice x.a x.ks.length x.cc] TV, me bm keS x.es x.clk, cl b4 #[.map (some bm)] TMb, cl b5 #[pj b] 58, se x.r (prX x.ks) TP]
section
variable {b : Nat} {w : World}
theorem prX_app (ks : List Pr) (p : Pr) : prX (ks ++ [p]) = prX ks ++ (sj p.name :: p.cs) := by simp [prX]
theorem prK_app (ks : List Pr) (p : Pr) : prK (ks ++ [p]) = prK ks ++ [(p.j, p.cs)] := by simp [prK]
set_option maxRecDepth 100000 in
set_option maxHeartbeats 4000000 in
/-- one pair of an object -/
theorem pair_one {N : Nat} {F : Option Nat} {V : Bs → Option (JV × Bs)} {D : Int} {b1 b2 b3 bm b4 b5 : Nat} (hV : VIs V b D) {ks : List Pr} {r : Sx.Own} {a : Option Addr} {cc : Nat} {A : Nat → Prop} {v : Bs} {n : Nat} {seen : List Bs} {es : Es Bs} {clk : Nat} (hv : v.length ≤ 100000) (hkl : ks.length ≤ 100000) (hR : Rw 6 ks.length r (prX ks)) (he : sv r ks.length = .slice a ks.length cc) (hsn : SeenIs es seen) :
    CallP ⟨Tryd.prog, tab, N, [bl b], w, F⟩ 68 [pj b1, pj b4, pj b3] (obL b D b1 b2 b3 bm b4 b5 ⟨ks, r, a, cc, A, v, false, n, seen, es, clk⟩) fun u L' => ∃ name j cs v2 bd r' a' cc' es' clk', ∃ A' : Nat → Prop, (v2.length ≤ v.length ∧ ((bd = true ∧ onePr V seen v = none) ∨ (bd = false ∧ onePr V seen v = some (name, j, v2)))) ∧ cs.length = 5 ∧ Rw 6 (ks.length + 1) r' (prX (ks ++ [⟨name, j, cs⟩])) ∧ sv r' (ks.length + 1) = .slice a' (ks.length + 1) cc' ∧ SeenIs es' (name :: seen) ∧ u = .tuple #[] ∧ L' = obL b D b1 b2 b3 bm b4 b5 ⟨ks ++ [⟨name, j, cs⟩], r', a', cc', fun i => A i ∨ A' i, v2, bd, n - 1, name :: seen, es', clk'⟩ := by
  refine inl (C := ⟨Tryd.prog, tab, N, [bl b], w, F⟩) tab_ok Tryd.func68 rfl Tryd.ntmps68 rfl ?_
  have hws := ws_len v
  refine ld1 3 rfl rfl ?_
  refine cU1 0 rfl (fun w h => blanks_any hv h) ?_
  refine ld1 3 rfl rfl ?_
  refine cUs (Φ := TxF (textP (ws v)) (ws v)) 0 rfl (fun w hs => text_any (by omega) (hs.nth (k := 0) rfl) (hs.res (k := 1) rfl)) ?_
  rintro ⟨name, t, bd⟩ ⟨ht, hx⟩
  dsimp only at ht hx ⊢
  refine ld1 7 rfl rfl ?_
  refine lkp (ke := keS) (k := name) 6 rfl undMb keyMb zeroB ?_
  rw [if_neg (by decide), hsn name]
  cases hdn : decide (name ∈ seen) with
  | true =>
    have hone : onePr V seen v = (none : Option (JV × Bs)).map fun p => (name, p.1, p.2) := by
      unfold onePr
      rcases hx with ⟨h1, h2, h3⟩ | ⟨h1, h2⟩
      · rw [h1]; rfl
      · rw [h1]; dsimp only; rw [if_pos (of_decide_eq_true hdn)]; rfl
    iterate 3 refine cf rfl ?_
    refine ct rfl ?_
    refine ct rfl ?_
    refine ld1 3 rfl rfl ?_
    refine cU1 0 rfl (fun w h => fail_any h) ?_
    have hval : ∀ w, w.heap[b]? = some (.cells (rdC t true D) TRd (0, 0)) → Laid w → ValC 26 [pj b] none t b D w := fun w h _ => value_fail (.inr rfl) (by omega) h
    have hlt : t.length ≤ v.length := by omega
    refine ld1 7 rfl rfl ?_
    refine mup (ke := keS) (k := name) 6 rfl undMb keyMb ?_
    refine ld1 3 rfl rfl ?_
    refine cUV 0 rfl rfl (fun w hs => hval w (hs.nth (k := 0) rfl) (hs.res (k := 1) rfl)) (fun x A' w0 hx2 hH => ?_)
    obtain ⟨j, cs, v2, bd3⟩ := x
    have hcs := hH.2 _ (List.mem_singleton.2 rfl)
    have hc5 := hcs.len
    have hc1 := hcs.one
    obtain ⟨hv2, hx2⟩ := hx2
    dsimp only at hc5 hc1 hv2 hx2 ⊢
    have hfin : (bd3 = true ∧ onePr V seen v = none) ∨ (bd3 = false ∧ onePr V seen v = some (name, j, v2)) := by
      rcases hx2 with ⟨k1, k2⟩ | ⟨k1, k2⟩
      · exact .inl ⟨k2, by first | rw [hone, k1]; rfl | (rw [hone]; rfl)⟩
      · exact .inr ⟨k2, by first | rw [hone, k1]; rfl | cases k1⟩
    clear hcs
    obtain ⟨c0, c1, c2, c3, c4, rfl⟩ : ∃ c0 c1 c2 c3 c4, cs = [c0, c1, c2, c3, c4] := by
      match cs, hc5 with
      | [c0, c1, c2, c3, c4], _ => exact ⟨c0, c1, c2, c3, c4, rfl⟩
    intro b6
    refine sN 11 rfl rfl (by simpa using hc1) ?_ (by kernel_rfl)
    refine drs [dead, dead, dead, dead, dead, cl b3 #[.int .i64 5, .int .i64 0, sj [], .slice none 0 0, .slice a ks.length cc] TV, dead, dead, dead, dead, dead, cl b6 #[c0, c1, c2, c3, c4] TV] [8, 9, 10, 11] (.t 0 (.t 1 (.t 2 (.t 3 (.t 4 (.t 5 (.n 6 (.n 7 (.b 8 10 (.b 9 10 (.n 10 (.n 11 .nil)) (.b 9 11 (.n 11 .nil) (.n 9 .nil))) (.b 8 11 (.b 9 11 (.n 11 .nil) (.n 9 .nil)) (.n 8 (.n 9 .nil)))))))))))) tab_ok mixed_ok (by kernel_rfl) (.dead (.dead (.dead (.dead (.dead (.cons (.dead (.dead (.dead (.dead (.dead (.cons .nil)))))))))))) ?_
    refine ld1 5 rfl rfl ?_
    refine ldN 11 rfl rfl ?_
    refine bu (c := #[sj name, c0, c1, c2, c3, c4]) (by kernel_rfl) ?_
    refine .mk _ _ bsP (fun b7 => ?_)
    refine ⟨.dead (.dead (.dead (.dead (.dead (.cons (.dead (.dead (.dead (.dead (.dead (.cons .nil))))))))))), ?_⟩
    refine apV 9 he tab_ok (news := zP.toList) (m := 1) rfl infoP rfl rfl hR (srcE (C := ⟨Tryd.prog, tab, 33, [bl b], w, none⟩) (e' := TP) (tx := 23) (z := 6) rfl tab_ok (src 12 rfl rfl) rfl (by simp [Value.oneCell'])) (by omega) (by unfold maxLen; omega) (by decide) (fun g cap jn hR' => ?_)
    refine ⟨.dead (.dead (.dead (.dead (.dead (.cons (.dead (.dead (.dead (.dead (.dead (.cons .nil))))))))))), ?_⟩
    dsimp only at hR'
    have hRn : Rw 6 (ks.length + 1) (some (g, cap, jn)) (prX (ks ++ [⟨name, j, [c0, c1, c2, c3, c4]⟩])) := by
      have h5 : zP.toList.length = 6 := rfl
      have h6 : (sj name :: [c0, c1, c2, c3, c4]).length = 6 := rfl
      obtain ⟨k1, k2, k3, k4⟩ := hR'
      exact ⟨by rw [prX_app, List.length_append, hR.1, h6]; omega, k2, k3, by rw [List.length_append, List.length_append, h5] at k4; rw [prX_app, List.length_append, List.length_append, h6]; exact k4⟩
    have ho : nad 0 (nmu ((ks.length : Nat) : Int).toNat 6) = (prX ks).length := by rw [nad_eq, nmu_eq, Int.toNat_natCast, Nat.zero_add]; exact hR.1.symm
    have hlen : (ks ++ [(⟨name, j, [c0, c1, c2, c3, c4]⟩ : Pr)]).length = ks.length + 1 := by simp
    have hc6 : (#[sj name, c0, c1, c2, c3, c4] : Array Value).toList.all (·.oneCell') = true := by rw [show (#[sj name, c0, c1, c2, c3, c4] : Array Value).toList = sj name :: [c0, c1, c2, c3, c4] from rfl, List.all_cons, hc1]; rfl
    have hput := row_put (prX ks) zP.toList jn [sj name, c0, c1, c2, c3, c4] _ ho rfl
    have hfit : nad 0 (nmu ((ks.length : Nat) : Int).toNat 6) + (#[sj name, c0, c1, c2, c3, c4] : Array Value).size ≤ (prX ks ++ zP.toList ++ jn).toArray.size := by
      have h5 : zP.toList.length = 6 := rfl
      have h6 : (#[sj name, c0, c1, c2, c3, c4] : Array Value).size = 6 := rfl
      rw [ho, h6, List.size_toArray, List.length_append, List.length_append, h5]; omega
    refine ⟨?_, ?_⟩
    · refine ⟨by omega, by omega, ?_⟩
      refine ⟨?_, ?_⟩
      · refine sP 9 rfl hfit hc6 hput ?_ (by kernel_rfl)
        refine s1 5 rfl (by show 4 < 5; decide) ?_
        exact ⟨fun w' hs => ⟨obL b D b1 b2 b3 bm b4 b5 ⟨ks ++ [⟨name, j, [c0, c1, c2, c3, c4]⟩], some (g, cap, jn), some ⟨g, 0, none⟩, cap, fun i => A i ∨ A' i, v2, bd3, n - 1, name :: seen, _, _⟩, (St.kids hs (k := 2) (j := 10) rfl rfl (by decide)).sub (by unfold obL; dsimp only; rw [prX_app, prK_app, hlen]; exact .cons (.cons (.cons (.cons (.cons (.cons (.cons (.cons (.cons (.cons .nil)))))))))), name, j, [c0, c1, c2, c3, c4], v2, bd3, some (g, cap, jn), some ⟨g, 0, none⟩, cap, _, _, A', ⟨by omega, hfin⟩, rfl, hRn, rfl, hsn.add name clk, rfl, rfl⟩⟩
      · refine ⟨?_, ?_⟩
        · refine sP 9 rfl hfit hc6 hput ?_ (by kernel_rfl)
          refine s1 5 rfl (by show 4 < 5; decide) ?_
          exact ⟨fun w' hs => ⟨obL b D b1 b2 b3 bm b4 b5 ⟨ks ++ [⟨name, j, [c0, c1, c2, c3, c4]⟩], some (g, cap, jn), some ⟨g, 0, none⟩, cap, fun i => A i ∨ A' i, v2, bd3, n - 1, name :: seen, _, _⟩, (St.kids hs (k := 2) (j := 10) rfl rfl (by decide)).sub (by unfold obL; dsimp only; rw [prX_app, prK_app, hlen]; exact .cons (.cons (.cons (.cons (.cons (.cons (.cons (.cons (.cons (.cons .nil)))))))))), name, j, [c0, c1, c2, c3, c4], v2, bd3, some (g, cap, jn), some ⟨g, 0, none⟩, cap, _, _, A', ⟨by omega, hfin⟩, rfl, hRn, rfl, hsn.add name clk, rfl, rfl⟩⟩
        · refine s1 5 rfl (by show 4 < 5; decide) ?_
          refine sP 9 rfl hfit hc6 hput ?_ (by kernel_rfl)
          exact ⟨fun w' hs => ⟨obL b D b1 b2 b3 bm b4 b5 ⟨ks ++ [⟨name, j, [c0, c1, c2, c3, c4]⟩], some (g, cap, jn), some ⟨g, 0, none⟩, cap, fun i => A i ∨ A' i, v2, bd3, n - 1, name :: seen, _, _⟩, (St.kids hs (k := 2) (j := 10) rfl rfl (by decide)).sub (by unfold obL; dsimp only; rw [prX_app, prK_app, hlen]; exact .cons (.cons (.cons (.cons (.cons (.cons (.cons (.cons (.cons (.cons .nil)))))))))), name, j, [c0, c1, c2, c3, c4], v2, bd3, some (g, cap, jn), some ⟨g, 0, none⟩, cap, _, _, A', ⟨by omega, hfin⟩, rfl, hRn, rfl, hsn.add name clk, rfl, rfl⟩⟩
    · refine ⟨?_, ?_⟩
      · refine ⟨by omega, by omega, ?_⟩
        refine ⟨?_, ?_⟩
        · refine sP 9 rfl hfit hc6 hput ?_ (by kernel_rfl)
          refine s1 5 rfl (by show 4 < 5; decide) ?_
          exact ⟨fun w' hs => ⟨obL b D b1 b2 b3 bm b4 b5 ⟨ks ++ [⟨name, j, [c0, c1, c2, c3, c4]⟩], some (g, cap, jn), some ⟨g, 0, none⟩, cap, fun i => A i ∨ A' i, v2, bd3, n - 1, name :: seen, _, _⟩, (St.kids hs (k := 2) (j := 10) rfl rfl (by decide)).sub (by unfold obL; dsimp only; rw [prX_app, prK_app, hlen]; exact .cons (.cons (.cons (.cons (.cons (.cons (.cons (.cons (.cons (.cons .nil)))))))))), name, j, [c0, c1, c2, c3, c4], v2, bd3, some (g, cap, jn), some ⟨g, 0, none⟩, cap, _, _, A', ⟨by omega, hfin⟩, rfl, hRn, rfl, hsn.add name clk, rfl, rfl⟩⟩
        · refine s1 5 rfl (by show 4 < 5; decide) ?_
          refine sP 9 rfl hfit hc6 hput ?_ (by kernel_rfl)
          exact ⟨fun w' hs => ⟨obL b D b1 b2 b3 bm b4 b5 ⟨ks ++ [⟨name, j, [c0, c1, c2, c3, c4]⟩], some (g, cap, jn), some ⟨g, 0, none⟩, cap, fun i => A i ∨ A' i, v2, bd3, n - 1, name :: seen, _, _⟩, (St.kids hs (k := 2) (j := 10) rfl rfl (by decide)).sub (by unfold obL; dsimp only; rw [prX_app, prK_app, hlen]; exact .cons (.cons (.cons (.cons (.cons (.cons (.cons (.cons (.cons (.cons .nil)))))))))), name, j, [c0, c1, c2, c3, c4], v2, bd3, some (g, cap, jn), some ⟨g, 0, none⟩, cap, _, _, A', ⟨by omega, hfin⟩, rfl, hRn, rfl, hsn.add name clk, rfl, rfl⟩⟩
      · refine s1 5 rfl (by show 4 < 5; decide) ?_
        refine ⟨by omega, by omega, ?_⟩
        refine sP 9 rfl hfit hc6 hput ?_ (by kernel_rfl)
        exact ⟨fun w' hs => ⟨obL b D b1 b2 b3 bm b4 b5 ⟨ks ++ [⟨name, j, [c0, c1, c2, c3, c4]⟩], some (g, cap, jn), some ⟨g, 0, none⟩, cap, fun i => A i ∨ A' i, v2, bd3, n - 1, name :: seen, _, _⟩, (St.kids hs (k := 2) (j := 10) rfl rfl (by decide)).sub (by unfold obL; dsimp only; rw [prX_app, prK_app, hlen]; exact .cons (.cons (.cons (.cons (.cons (.cons (.cons (.cons (.cons (.cons .nil)))))))))), name, j, [c0, c1, c2, c3, c4], v2, bd3, some (g, cap, jn), some ⟨g, 0, none⟩, cap, _, _, A', ⟨by omega, hfin⟩, rfl, hRn, rfl, hsn.add name clk, rfl, rfl⟩⟩
  | false =>
    have hnot := of_decide_eq_false hdn
    have hle := eat_len 58 t
    refine ct rfl ?_
    refine ld1 3 rfl rfl ?_
    refine ct rfl ?_
    generalize hE : eatP 58 t = E at hle
    obtain ⟨e1, u⟩ := E
    dsimp only at hle
    refine cU1 0 rfl (v := .bool e1) (c := rdC u bd D) (fun w h => by have := eat_any (s := t) 58 (by omega) h; rw [hE] at this; exact this) ?_
    refine ct rfl ?_
    refine cf rfl ?_
    cases e1 with
    | false =>
      have hone : onePr V seen v = (none : Option (JV × Bs)).map fun p => (name, p.1, p.2) := by
        unfold onePr
        rcases hx with ⟨h1, h2, h3⟩ | ⟨h1, h2⟩
        · rw [h1]; rfl
        · rw [h1]; dsimp only; rw [if_neg hnot, hE]; rfl
      refine ct rfl ?_
      refine ld1 3 rfl rfl ?_
      refine cU1 0 rfl (fun w h => fail_any h) ?_
      have hval : ∀ w, w.heap[b]? = some (.cells (rdC u true D) TRd (0, 0)) → Laid w → ValC 26 [pj b] none u b D w := fun w h _ => value_fail (.inr rfl) (by omega) h
      have hlt : u.length ≤ v.length := by omega
      refine ld1 7 rfl rfl ?_
      refine mup (ke := keS) (k := name) 6 rfl undMb keyMb ?_
      refine ld1 3 rfl rfl ?_
      refine cUV 0 rfl rfl (fun w hs => hval w (hs.nth (k := 0) rfl) (hs.res (k := 1) rfl)) (fun x A' w0 hx2 hH => ?_)
      obtain ⟨j, cs, v2, bd3⟩ := x
      have hcs := hH.2 _ (List.mem_singleton.2 rfl)
      have hc5 := hcs.len
      have hc1 := hcs.one
      obtain ⟨hv2, hx2⟩ := hx2
      dsimp only at hc5 hc1 hv2 hx2 ⊢
      have hfin : (bd3 = true ∧ onePr V seen v = none) ∨ (bd3 = false ∧ onePr V seen v = some (name, j, v2)) := by
        rcases hx2 with ⟨k1, k2⟩ | ⟨k1, k2⟩
        · exact .inl ⟨k2, by first | rw [hone, k1]; rfl | (rw [hone]; rfl)⟩
        · exact .inr ⟨k2, by first | rw [hone, k1]; rfl | cases k1⟩
      clear hcs
      obtain ⟨c0, c1, c2, c3, c4, rfl⟩ : ∃ c0 c1 c2 c3 c4, cs = [c0, c1, c2, c3, c4] := by
        match cs, hc5 with
        | [c0, c1, c2, c3, c4], _ => exact ⟨c0, c1, c2, c3, c4, rfl⟩
      intro b6
      refine sN 11 rfl rfl (by simpa using hc1) ?_ (by kernel_rfl)
      refine drs [dead, dead, dead, dead, dead, cl b3 #[.int .i64 5, .int .i64 0, sj [], .slice none 0 0, .slice a ks.length cc] TV, dead, dead, dead, dead, dead, cl b6 #[c0, c1, c2, c3, c4] TV] [8, 9, 10, 11] (.t 0 (.t 1 (.t 2 (.t 3 (.t 4 (.t 5 (.n 6 (.n 7 (.b 8 10 (.b 9 10 (.n 10 (.n 11 .nil)) (.b 9 11 (.n 11 .nil) (.n 9 .nil))) (.b 8 11 (.b 9 11 (.n 11 .nil) (.n 9 .nil)) (.n 8 (.n 9 .nil)))))))))))) tab_ok mixed_ok (by kernel_rfl) (.dead (.dead (.dead (.dead (.dead (.cons (.dead (.dead (.dead (.dead (.dead (.cons .nil)))))))))))) ?_
      refine ld1 5 rfl rfl ?_
      refine ldN 11 rfl rfl ?_
      refine bu (c := #[sj name, c0, c1, c2, c3, c4]) (by kernel_rfl) ?_
      refine .mk _ _ bsP (fun b7 => ?_)
      refine ⟨.dead (.dead (.dead (.dead (.dead (.cons (.dead (.dead (.dead (.dead (.dead (.cons .nil))))))))))), ?_⟩
      refine apV 9 he tab_ok (news := zP.toList) (m := 1) rfl infoP rfl rfl hR (srcE (C := ⟨Tryd.prog, tab, 33, [bl b], w, none⟩) (e' := TP) (tx := 23) (z := 6) rfl tab_ok (src 12 rfl rfl) rfl (by simp [Value.oneCell'])) (by omega) (by unfold maxLen; omega) (by decide) (fun g cap jn hR' => ?_)
      refine ⟨.dead (.dead (.dead (.dead (.dead (.cons (.dead (.dead (.dead (.dead (.dead (.cons .nil))))))))))), ?_⟩
      dsimp only at hR'
      have hRn : Rw 6 (ks.length + 1) (some (g, cap, jn)) (prX (ks ++ [⟨name, j, [c0, c1, c2, c3, c4]⟩])) := by
        have h5 : zP.toList.length = 6 := rfl
        have h6 : (sj name :: [c0, c1, c2, c3, c4]).length = 6 := rfl
        obtain ⟨k1, k2, k3, k4⟩ := hR'
        exact ⟨by rw [prX_app, List.length_append, hR.1, h6]; omega, k2, k3, by rw [List.length_append, List.length_append, h5] at k4; rw [prX_app, List.length_append, List.length_append, h6]; exact k4⟩
      have ho : nad 0 (nmu ((ks.length : Nat) : Int).toNat 6) = (prX ks).length := by rw [nad_eq, nmu_eq, Int.toNat_natCast, Nat.zero_add]; exact hR.1.symm
      have hlen : (ks ++ [(⟨name, j, [c0, c1, c2, c3, c4]⟩ : Pr)]).length = ks.length + 1 := by simp
      have hc6 : (#[sj name, c0, c1, c2, c3, c4] : Array Value).toList.all (·.oneCell') = true := by rw [show (#[sj name, c0, c1, c2, c3, c4] : Array Value).toList = sj name :: [c0, c1, c2, c3, c4] from rfl, List.all_cons, hc1]; rfl
      have hput := row_put (prX ks) zP.toList jn [sj name, c0, c1, c2, c3, c4] _ ho rfl
      have hfit : nad 0 (nmu ((ks.length : Nat) : Int).toNat 6) + (#[sj name, c0, c1, c2, c3, c4] : Array Value).size ≤ (prX ks ++ zP.toList ++ jn).toArray.size := by
        have h5 : zP.toList.length = 6 := rfl
        have h6 : (#[sj name, c0, c1, c2, c3, c4] : Array Value).size = 6 := rfl
        rw [ho, h6, List.size_toArray, List.length_append, List.length_append, h5]; omega
      refine ⟨?_, ?_⟩
      · refine ⟨by omega, by omega, ?_⟩
        refine ⟨?_, ?_⟩
        · refine sP 9 rfl hfit hc6 hput ?_ (by kernel_rfl)
          refine s1 5 rfl (by show 4 < 5; decide) ?_
          exact ⟨fun w' hs => ⟨obL b D b1 b2 b3 bm b4 b5 ⟨ks ++ [⟨name, j, [c0, c1, c2, c3, c4]⟩], some (g, cap, jn), some ⟨g, 0, none⟩, cap, fun i => A i ∨ A' i, v2, bd3, n - 1, name :: seen, _, _⟩, (St.kids hs (k := 2) (j := 10) rfl rfl (by decide)).sub (by unfold obL; dsimp only; rw [prX_app, prK_app, hlen]; exact .cons (.cons (.cons (.cons (.cons (.cons (.cons (.cons (.cons (.cons .nil)))))))))), name, j, [c0, c1, c2, c3, c4], v2, bd3, some (g, cap, jn), some ⟨g, 0, none⟩, cap, _, _, A', ⟨by omega, hfin⟩, rfl, hRn, rfl, hsn.add name clk, rfl, rfl⟩⟩
        · refine ⟨?_, ?_⟩
          · refine sP 9 rfl hfit hc6 hput ?_ (by kernel_rfl)
            refine s1 5 rfl (by show 4 < 5; decide) ?_
            exact ⟨fun w' hs => ⟨obL b D b1 b2 b3 bm b4 b5 ⟨ks ++ [⟨name, j, [c0, c1, c2, c3, c4]⟩], some (g, cap, jn), some ⟨g, 0, none⟩, cap, fun i => A i ∨ A' i, v2, bd3, n - 1, name :: seen, _, _⟩, (St.kids hs (k := 2) (j := 10) rfl rfl (by decide)).sub (by unfold obL; dsimp only; rw [prX_app, prK_app, hlen]; exact .cons (.cons (.cons (.cons (.cons (.cons (.cons (.cons (.cons (.cons .nil)))))))))), name, j, [c0, c1, c2, c3, c4], v2, bd3, some (g, cap, jn), some ⟨g, 0, none⟩, cap, _, _, A', ⟨by omega, hfin⟩, rfl, hRn, rfl, hsn.add name clk, rfl, rfl⟩⟩
          · refine s1 5 rfl (by show 4 < 5; decide) ?_
            refine sP 9 rfl hfit hc6 hput ?_ (by kernel_rfl)
            exact ⟨fun w' hs => ⟨obL b D b1 b2 b3 bm b4 b5 ⟨ks ++ [⟨name, j, [c0, c1, c2, c3, c4]⟩], some (g, cap, jn), some ⟨g, 0, none⟩, cap, fun i => A i ∨ A' i, v2, bd3, n - 1, name :: seen, _, _⟩, (St.kids hs (k := 2) (j := 10) rfl rfl (by decide)).sub (by unfold obL; dsimp only; rw [prX_app, prK_app, hlen]; exact .cons (.cons (.cons (.cons (.cons (.cons (.cons (.cons (.cons (.cons .nil)))))))))), name, j, [c0, c1, c2, c3, c4], v2, bd3, some (g, cap, jn), some ⟨g, 0, none⟩, cap, _, _, A', ⟨by omega, hfin⟩, rfl, hRn, rfl, hsn.add name clk, rfl, rfl⟩⟩
      · refine ⟨?_, ?_⟩
        · refine ⟨by omega, by omega, ?_⟩
          refine ⟨?_, ?_⟩
          · refine sP 9 rfl hfit hc6 hput ?_ (by kernel_rfl)
            refine s1 5 rfl (by show 4 < 5; decide) ?_
            exact ⟨fun w' hs => ⟨obL b D b1 b2 b3 bm b4 b5 ⟨ks ++ [⟨name, j, [c0, c1, c2, c3, c4]⟩], some (g, cap, jn), some ⟨g, 0, none⟩, cap, fun i => A i ∨ A' i, v2, bd3, n - 1, name :: seen, _, _⟩, (St.kids hs (k := 2) (j := 10) rfl rfl (by decide)).sub (by unfold obL; dsimp only; rw [prX_app, prK_app, hlen]; exact .cons (.cons (.cons (.cons (.cons (.cons (.cons (.cons (.cons (.cons .nil)))))))))), name, j, [c0, c1, c2, c3, c4], v2, bd3, some (g, cap, jn), some ⟨g, 0, none⟩, cap, _, _, A', ⟨by omega, hfin⟩, rfl, hRn, rfl, hsn.add name clk, rfl, rfl⟩⟩
          · refine s1 5 rfl (by show 4 < 5; decide) ?_
            refine sP 9 rfl hfit hc6 hput ?_ (by kernel_rfl)
            exact ⟨fun w' hs => ⟨obL b D b1 b2 b3 bm b4 b5 ⟨ks ++ [⟨name, j, [c0, c1, c2, c3, c4]⟩], some (g, cap, jn), some ⟨g, 0, none⟩, cap, fun i => A i ∨ A' i, v2, bd3, n - 1, name :: seen, _, _⟩, (St.kids hs (k := 2) (j := 10) rfl rfl (by decide)).sub (by unfold obL; dsimp only; rw [prX_app, prK_app, hlen]; exact .cons (.cons (.cons (.cons (.cons (.cons (.cons (.cons (.cons (.cons .nil)))))))))), name, j, [c0, c1, c2, c3, c4], v2, bd3, some (g, cap, jn), some ⟨g, 0, none⟩, cap, _, _, A', ⟨by omega, hfin⟩, rfl, hRn, rfl, hsn.add name clk, rfl, rfl⟩⟩
        · refine s1 5 rfl (by show 4 < 5; decide) ?_
          refine ⟨by omega, by omega, ?_⟩
          refine sP 9 rfl hfit hc6 hput ?_ (by kernel_rfl)
          exact ⟨fun w' hs => ⟨obL b D b1 b2 b3 bm b4 b5 ⟨ks ++ [⟨name, j, [c0, c1, c2, c3, c4]⟩], some (g, cap, jn), some ⟨g, 0, none⟩, cap, fun i => A i ∨ A' i, v2, bd3, n - 1, name :: seen, _, _⟩, (St.kids hs (k := 2) (j := 10) rfl rfl (by decide)).sub (by unfold obL; dsimp only; rw [prX_app, prK_app, hlen]; exact .cons (.cons (.cons (.cons (.cons (.cons (.cons (.cons (.cons (.cons .nil)))))))))), name, j, [c0, c1, c2, c3, c4], v2, bd3, some (g, cap, jn), some ⟨g, 0, none⟩, cap, _, _, A', ⟨by omega, hfin⟩, rfl, hRn, rfl, hsn.add name clk, rfl, rfl⟩⟩
    | true =>
      refine cf rfl ?_
      obtain ⟨o3, hone, hval⟩ : ∃ o3 : Option (JV × Bs), (onePr V seen v = o3.map fun p => (name, p.1, p.2)) ∧ ∀ w, w.heap[b]? = some (.cells (rdC u bd D) TRd (0, 0)) → Laid w → ValC 26 [pj b] o3 u b D w := by
        rcases hx with ⟨h1, h2, rfl⟩ | ⟨h1, rfl⟩
        · exact ⟨none, by unfold onePr; rw [h1]; rfl, fun w h _ => value_fail (.inr rfl) (by omega) h⟩
        · exact ⟨V u, by unfold onePr; rw [h1]; dsimp only; rw [if_neg hnot, hE]; rfl, fun w h hw => hV u w (by omega) h hw⟩
      have hlt : u.length ≤ v.length := by omega
      refine ld1 7 rfl rfl ?_
      refine mup (ke := keS) (k := name) 6 rfl undMb keyMb ?_
      refine ld1 3 rfl rfl ?_
      refine cUV 0 rfl rfl (fun w hs => hval w (hs.nth (k := 0) rfl) (hs.res (k := 1) rfl)) (fun x A' w0 hx2 hH => ?_)
      obtain ⟨j, cs, v2, bd3⟩ := x
      have hcs := hH.2 _ (List.mem_singleton.2 rfl)
      have hc5 := hcs.len
      have hc1 := hcs.one
      obtain ⟨hv2, hx2⟩ := hx2
      dsimp only at hc5 hc1 hv2 hx2 ⊢
      have hfin : (bd3 = true ∧ onePr V seen v = none) ∨ (bd3 = false ∧ onePr V seen v = some (name, j, v2)) := by
        rcases hx2 with ⟨k1, k2⟩ | ⟨k1, k2⟩
        · exact .inl ⟨k2, by first | rw [hone, k1]; rfl | (rw [hone]; rfl)⟩
        · exact .inr ⟨k2, by first | rw [hone, k1]; rfl | cases k1⟩
      clear hcs
      obtain ⟨c0, c1, c2, c3, c4, rfl⟩ : ∃ c0 c1 c2 c3 c4, cs = [c0, c1, c2, c3, c4] := by
        match cs, hc5 with
        | [c0, c1, c2, c3, c4], _ => exact ⟨c0, c1, c2, c3, c4, rfl⟩
      intro b6
      refine sN 11 rfl rfl (by simpa using hc1) ?_ (by kernel_rfl)
      refine drs [dead, dead, dead, dead, dead, cl b3 #[.int .i64 5, .int .i64 0, sj [], .slice none 0 0, .slice a ks.length cc] TV, dead, dead, dead, dead, dead, cl b6 #[c0, c1, c2, c3, c4] TV] [8, 9, 10, 11] (.t 0 (.t 1 (.t 2 (.t 3 (.t 4 (.t 5 (.n 6 (.n 7 (.b 8 10 (.b 9 10 (.n 10 (.n 11 .nil)) (.b 9 11 (.n 11 .nil) (.n 9 .nil))) (.b 8 11 (.b 9 11 (.n 11 .nil) (.n 9 .nil)) (.n 8 (.n 9 .nil)))))))))))) tab_ok mixed_ok (by kernel_rfl) (.dead (.dead (.dead (.dead (.dead (.cons (.dead (.dead (.dead (.dead (.dead (.cons .nil)))))))))))) ?_
      refine ld1 5 rfl rfl ?_
      refine ldN 11 rfl rfl ?_
      refine bu (c := #[sj name, c0, c1, c2, c3, c4]) (by kernel_rfl) ?_
      refine .mk _ _ bsP (fun b7 => ?_)
      refine ⟨.dead (.dead (.dead (.dead (.dead (.cons (.dead (.dead (.dead (.dead (.dead (.cons .nil))))))))))), ?_⟩
      refine apV 9 he tab_ok (news := zP.toList) (m := 1) rfl infoP rfl rfl hR (srcE (C := ⟨Tryd.prog, tab, 33, [bl b], w, none⟩) (e' := TP) (tx := 23) (z := 6) rfl tab_ok (src 12 rfl rfl) rfl (by simp [Value.oneCell'])) (by omega) (by unfold maxLen; omega) (by decide) (fun g cap jn hR' => ?_)
      refine ⟨.dead (.dead (.dead (.dead (.dead (.cons (.dead (.dead (.dead (.dead (.dead (.cons .nil))))))))))), ?_⟩
      dsimp only at hR'
      have hRn : Rw 6 (ks.length + 1) (some (g, cap, jn)) (prX (ks ++ [⟨name, j, [c0, c1, c2, c3, c4]⟩])) := by
        have h5 : zP.toList.length = 6 := rfl
        have h6 : (sj name :: [c0, c1, c2, c3, c4]).length = 6 := rfl
        obtain ⟨k1, k2, k3, k4⟩ := hR'
        exact ⟨by rw [prX_app, List.length_append, hR.1, h6]; omega, k2, k3, by rw [List.length_append, List.length_append, h5] at k4; rw [prX_app, List.length_append, List.length_append, h6]; exact k4⟩
      have ho : nad 0 (nmu ((ks.length : Nat) : Int).toNat 6) = (prX ks).length := by rw [nad_eq, nmu_eq, Int.toNat_natCast, Nat.zero_add]; exact hR.1.symm
      have hlen : (ks ++ [(⟨name, j, [c0, c1, c2, c3, c4]⟩ : Pr)]).length = ks.length + 1 := by simp
      have hc6 : (#[sj name, c0, c1, c2, c3, c4] : Array Value).toList.all (·.oneCell') = true := by rw [show (#[sj name, c0, c1, c2, c3, c4] : Array Value).toList = sj name :: [c0, c1, c2, c3, c4] from rfl, List.all_cons, hc1]; rfl
      have hput := row_put (prX ks) zP.toList jn [sj name, c0, c1, c2, c3, c4] _ ho rfl
      have hfit : nad 0 (nmu ((ks.length : Nat) : Int).toNat 6) + (#[sj name, c0, c1, c2, c3, c4] : Array Value).size ≤ (prX ks ++ zP.toList ++ jn).toArray.size := by
        have h5 : zP.toList.length = 6 := rfl
        have h6 : (#[sj name, c0, c1, c2, c3, c4] : Array Value).size = 6 := rfl
        rw [ho, h6, List.size_toArray, List.length_append, List.length_append, h5]; omega
      refine ⟨?_, ?_⟩
      · refine ⟨by omega, by omega, ?_⟩
        refine ⟨?_, ?_⟩
        · refine sP 9 rfl hfit hc6 hput ?_ (by kernel_rfl)
          refine s1 5 rfl (by show 4 < 5; decide) ?_
          exact ⟨fun w' hs => ⟨obL b D b1 b2 b3 bm b4 b5 ⟨ks ++ [⟨name, j, [c0, c1, c2, c3, c4]⟩], some (g, cap, jn), some ⟨g, 0, none⟩, cap, fun i => A i ∨ A' i, v2, bd3, n - 1, name :: seen, _, _⟩, (St.kids hs (k := 2) (j := 10) rfl rfl (by decide)).sub (by unfold obL; dsimp only; rw [prX_app, prK_app, hlen]; exact .cons (.cons (.cons (.cons (.cons (.cons (.cons (.cons (.cons (.cons .nil)))))))))), name, j, [c0, c1, c2, c3, c4], v2, bd3, some (g, cap, jn), some ⟨g, 0, none⟩, cap, _, _, A', ⟨by omega, hfin⟩, rfl, hRn, rfl, hsn.add name clk, rfl, rfl⟩⟩
        · refine ⟨?_, ?_⟩
          · refine sP 9 rfl hfit hc6 hput ?_ (by kernel_rfl)
            refine s1 5 rfl (by show 4 < 5; decide) ?_
            exact ⟨fun w' hs => ⟨obL b D b1 b2 b3 bm b4 b5 ⟨ks ++ [⟨name, j, [c0, c1, c2, c3, c4]⟩], some (g, cap, jn), some ⟨g, 0, none⟩, cap, fun i => A i ∨ A' i, v2, bd3, n - 1, name :: seen, _, _⟩, (St.kids hs (k := 2) (j := 10) rfl rfl (by decide)).sub (by unfold obL; dsimp only; rw [prX_app, prK_app, hlen]; exact .cons (.cons (.cons (.cons (.cons (.cons (.cons (.cons (.cons (.cons .nil)))))))))), name, j, [c0, c1, c2, c3, c4], v2, bd3, some (g, cap, jn), some ⟨g, 0, none⟩, cap, _, _, A', ⟨by omega, hfin⟩, rfl, hRn, rfl, hsn.add name clk, rfl, rfl⟩⟩
          · refine s1 5 rfl (by show 4 < 5; decide) ?_
            refine sP 9 rfl hfit hc6 hput ?_ (by kernel_rfl)
            exact ⟨fun w' hs => ⟨obL b D b1 b2 b3 bm b4 b5 ⟨ks ++ [⟨name, j, [c0, c1, c2, c3, c4]⟩], some (g, cap, jn), some ⟨g, 0, none⟩, cap, fun i => A i ∨ A' i, v2, bd3, n - 1, name :: seen, _, _⟩, (St.kids hs (k := 2) (j := 10) rfl rfl (by decide)).sub (by unfold obL; dsimp only; rw [prX_app, prK_app, hlen]; exact .cons (.cons (.cons (.cons (.cons (.cons (.cons (.cons (.cons (.cons .nil)))))))))), name, j, [c0, c1, c2, c3, c4], v2, bd3, some (g, cap, jn), some ⟨g, 0, none⟩, cap, _, _, A', ⟨by omega, hfin⟩, rfl, hRn, rfl, hsn.add name clk, rfl, rfl⟩⟩
      · refine ⟨?_, ?_⟩
        · refine ⟨by omega, by omega, ?_⟩
          refine ⟨?_, ?_⟩
          · refine sP 9 rfl hfit hc6 hput ?_ (by kernel_rfl)
            refine s1 5 rfl (by show 4 < 5; decide) ?_
            exact ⟨fun w' hs => ⟨obL b D b1 b2 b3 bm b4 b5 ⟨ks ++ [⟨name, j, [c0, c1, c2, c3, c4]⟩], some (g, cap, jn), some ⟨g, 0, none⟩, cap, fun i => A i ∨ A' i, v2, bd3, n - 1, name :: seen, _, _⟩, (St.kids hs (k := 2) (j := 10) rfl rfl (by decide)).sub (by unfold obL; dsimp only; rw [prX_app, prK_app, hlen]; exact .cons (.cons (.cons (.cons (.cons (.cons (.cons (.cons (.cons (.cons .nil)))))))))), name, j, [c0, c1, c2, c3, c4], v2, bd3, some (g, cap, jn), some ⟨g, 0, none⟩, cap, _, _, A', ⟨by omega, hfin⟩, rfl, hRn, rfl, hsn.add name clk, rfl, rfl⟩⟩
          · refine s1 5 rfl (by show 4 < 5; decide) ?_
            refine sP 9 rfl hfit hc6 hput ?_ (by kernel_rfl)
            exact ⟨fun w' hs => ⟨obL b D b1 b2 b3 bm b4 b5 ⟨ks ++ [⟨name, j, [c0, c1, c2, c3, c4]⟩], some (g, cap, jn), some ⟨g, 0, none⟩, cap, fun i => A i ∨ A' i, v2, bd3, n - 1, name :: seen, _, _⟩, (St.kids hs (k := 2) (j := 10) rfl rfl (by decide)).sub (by unfold obL; dsimp only; rw [prX_app, prK_app, hlen]; exact .cons (.cons (.cons (.cons (.cons (.cons (.cons (.cons (.cons (.cons .nil)))))))))), name, j, [c0, c1, c2, c3, c4], v2, bd3, some (g, cap, jn), some ⟨g, 0, none⟩, cap, _, _, A', ⟨by omega, hfin⟩, rfl, hRn, rfl, hsn.add name clk, rfl, rfl⟩⟩
        · refine s1 5 rfl (by show 4 < 5; decide) ?_
          refine ⟨by omega, by omega, ?_⟩
          refine sP 9 rfl hfit hc6 hput ?_ (by kernel_rfl)
          exact ⟨fun w' hs => ⟨obL b D b1 b2 b3 bm b4 b5 ⟨ks ++ [⟨name, j, [c0, c1, c2, c3, c4]⟩], some (g, cap, jn), some ⟨g, 0, none⟩, cap, fun i => A i ∨ A' i, v2, bd3, n - 1, name :: seen, _, _⟩, (St.kids hs (k := 2) (j := 10) rfl rfl (by decide)).sub (by unfold obL; dsimp only; rw [prX_app, prK_app, hlen]; exact .cons (.cons (.cons (.cons (.cons (.cons (.cons (.cons (.cons (.cons .nil)))))))))), name, j, [c0, c1, c2, c3, c4], v2, bd3, some (g, cap, jn), some ⟨g, 0, none⟩, cap, _, _, A', ⟨by omega, hfin⟩, rfl, hRn, rfl, hsn.add name clk, rfl, rfl⟩⟩
end
end Go.Proofs.YtpegkoklmhccjaaDoor
