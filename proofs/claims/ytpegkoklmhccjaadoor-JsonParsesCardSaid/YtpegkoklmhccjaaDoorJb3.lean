/- What the laws of chapter 12 share: the engine, the program's json and the reference's, with Check and Good. -/
import Derived.Laws.BytesArg
import Derived.Laws.IdiomStrings
import Derived.Laws.MakeOwn
import Derived.Great.BuildSlice
import Derived.Lib.ConvBytes
import Derived.Test.YtpegkoklmhccjaaDoorJb2
section
namespace Go.Proofs.YtpegkoklmhccjaaDoor
open Go.RowKit Go.Sx
set_option linter.unusedVariables false
abbrev TP : Nat := 36
abbrev TMb : Nat := 73
theorem undMb : Tryd.prog.underlying TMb = some (.map 9 4) := by kernel_rfl
theorem undSt : Tryd.prog.underlying 9 = some .string := by kernel_rfl
theorem keyMb : KeyOk Tryd.prog 9 keS := keyStr undSt
theorem zeroB : (Tryd.prog.info? 4).bind (·.zero) = some (.bool false) := by kernel_rfl
abbrev zP : Array Value := #[sj [], .int .i64 0, .int .i64 0, sj [], .slice none 0 0, .slice none 0 0]
theorem infoP : (Tryd.prog.info? TP).map (fun i => (i.zero, i.size, i.bytes)) = some (some (.agg zP), 6, 96) := by kernel_rfl
theorem undPs : Tryd.prog.underlying 23 = some (.slice TP) := by kernel_rfl
theorem bsP (w : World) : (Instr.buildSlice 23 1 #[(0, .agg zP)]).run Tryd.prog w = .ok (.slice (some ⟨w.heap.size, 0, none⟩) 1 1) (w.alloc (.cells zP TP)) := by
  obtain ⟨i, hi, hz, hs, hb⟩ := infoOf infoP
  exact run_buildSlice w _ _ 1 _ zP i (.agg zP) undPs hi hz (by rw [hs]; decide) (by rw [hs]; decide) (by rw [hs]; kernel_rfl)
/-- the names that were seen -/
def SeenIs (es : Es Bs) (seen : List Bs) : Prop := ∀ k, (getS k es).getD (.bool false) = .bool (decide (k ∈ seen))
theorem getS_setS (k n : Bs) (v : Value) (clk : Nat) (es : Es Bs) : getS k (setS n v clk es) = if k = n then some v else getS k es := by
  induction es with
  | nil =>
    show getS k [(n, v, clk)] = _
    rw [getS_cons]
  | cons e l ih =>
    unfold setS
    by_cases h : n = e.1
    · rw [if_pos h, getS_cons, getS_cons]
      by_cases h2 : k = n
      · rw [if_pos h2, if_pos h2]
      · rw [if_neg h2, if_neg h2, if_neg (fun h3 => h2 (h3.trans h.symm))]
    · rw [if_neg h, getS_cons, getS_cons, ih]
      by_cases h2 : k = e.1
      · rw [if_pos h2, if_pos h2, if_neg (fun h3 => h (h3.symm.trans h2))]
      · rw [if_neg h2, if_neg h2]
theorem SeenIs.add {es : Es Bs} {seen : List Bs} (h : SeenIs es seen) (n : Bs) (clk : Nat) : SeenIs (setS n (.bool true) clk es) (n :: seen) := fun k => by
  rw [getS_setS]
  by_cases hk : k = n
  · rw [if_pos hk, hk]; simp
  · rw [if_neg hk, h k]; simp [hk]
/-- a pair: its name, its value, the value's cells -/
structure Pr where
  name : Bs
  j : JV
  cs : List Value
abbrev prK (ps : List Pr) : List (JV × List Value) := ps.map fun p => (p.j, p.cs)
abbrev prX (ps : List Pr) : List Value := (ps.map fun p => sj p.name :: p.cs).flatten
structure ObI where
  ks : List Pr
  r : Sx.Own
  a : Option Addr
  cc : Nat
  A : Nat → Prop
  t : Bs
  bad : Bool
  n : Nat
  seen : List Bs
  es : Es Bs
  clk : Nat
def obL (b : Nat) (d : Int) (b1 b2 b3 bm b4 b5 : Nat) (x : ObI) : List Ent := [cl b (rdC x.t x.bad d) TRd, rs laidR, rs (heldR x.A (prK x.ks)), cl b1 #[pj b] 58, cl b2 (valC 0 0 []) TV, cl b3 #[.int .i64 5, .int .i64 0, sj [], .slice none 0 0, .slice x.a x.ks.length x.cc] TV, me bm keS x.es x.clk, cl b4 #[.map (some bm)] TMb, cl b5 #[pj b] 58, se x.r (prX x.ks) TP]
section
variable {b : Nat} {w : World}
theorem prX_app (ks : List Pr) (p : Pr) : prX (ks ++ [p]) = prX ks ++ (sj p.name :: p.cs) := by simp [prX]
theorem prK_app (ks : List Pr) (p : Pr) : prK (ks ++ [p]) = prK ks ++ [(p.j, p.cs)] := by simp [prK]
set_option maxRecDepth 100000 in
set_option maxHeartbeats 4000000 in
/-- one pair of an object -/
theorem pair_one {N : Nat} {F : Option Nat} {V : Bs → Option (JV × Bs)} {D : Int} {b1 b2 b3 bm b4 b5 : Nat} (hV : VIs V b D) {ks : List Pr} {r : Sx.Own} {a : Option Addr} {cc : Nat} {A : Nat → Prop} {v : Bs} {n : Nat} {seen : List Bs} {es : Es Bs} {clk : Nat} (hv : v.length ≤ 100000) (hkl : ks.length ≤ 100000) (hR : Rw 6 ks.length r (prX ks)) (he : sv r ks.length = .slice a ks.length cc) (hsn : SeenIs es seen) :
    CallP ⟨Tryd.prog, tab, N, [bl b], w, F⟩ 68 [pj b1, pj b4, pj b3] (obL b D b1 b2 b3 bm b4 b5 ⟨ks, r, a, cc, A, v, false, n, seen, es, clk⟩) fun u L' => ∃ name j cs v2 bd r' a' cc' es' clk', ∃ A' : Nat → Prop, (v2.length ≤ v.length ∧ ((bd = true ∧ onePr V seen v = none) ∨ (bd = false ∧ onePr V seen v = some (name, j, v2)))) ∧ cs.length = 5 ∧ Rw 6 (ks.length + 1) r' (prX (ks ++ [⟨name, j, cs⟩])) ∧ sv r' (ks.length + 1) = .slice a' (ks.length + 1) cc' ∧ SeenIs es' (name :: seen) ∧ u = .tuple #[] ∧ L' = obL b D b1 b2 b3 bm b4 b5 ⟨ks ++ [⟨name, j, cs⟩], r', a', cc', fun i => A i ∨ A' i, v2, bd, n - 1, name :: seen, es', clk'⟩ := by
  refine inl (C := ⟨Tryd.prog, tab, N, [bl b], w, F⟩) tab_ok Tryd.func68 rfl Tryd.ntmps68 rfl ?_
  have hws := ws_len v
  refine ld1 3 rfl rfl ?_
  refine cU1 0 rfl (fun w h => blanks_any hv h) ?_
  refine ld1 3 rfl rfl ?_
  refine cUs (Φ := TxF (textP (ws v)) (ws v)) 0 rfl (fun w hs => text_any (by omega) (hs.nth (k := 0) rfl) (hs.res (k := 1) rfl)) ?_
  rintro ⟨name, t, bd⟩ ⟨ht, hx⟩
  dsimp only at ht hx ⊢
  refine ld1 7 rfl rfl ?_
  refine lkp (ke := keS) (k := name) 6 rfl undMb keyMb zeroB ?_
  rw [if_neg (by decide), hsn name]
  cases hdn : decide (name ∈ seen) with
  | true =>
    have hone : onePr V seen v = (none : Option (JV × Bs)).map fun p => (name, p.1, p.2) := by
      unfold onePr
      rcases hx with ⟨h1, h2, h3⟩ | ⟨h1, h2⟩
      · rw [h1]; rfl
      · rw [h1]; dsimp only; rw [if_pos (of_decide_eq_true hdn)]; rfl
    iterate 3 refine cf rfl ?_
    refine ct rfl ?_
    refine ct rfl ?_
    refine ld1 3 rfl rfl ?_
    refine cU1 0 rfl (fun w h => fail_any h) ?_
    have hval : ∀ w, w.heap[b]? = some (.cells (rdC t true D) TRd (0, 0)) → Laid w → ValC 26 [pj b] none t b D w := fun w h _ => value_fail (.inr rfl) (by omega) h
    have hlt : t.length ≤ v.length := by omega
    refine ld1 7 rfl rfl ?_
    refine mup (ke := keS) (k := name) 6 rfl undMb keyMb ?_
    refine ld1 3 rfl rfl ?_
    refine cUV 0 rfl rfl (fun w hs => hval w (hs.nth (k := 0) rfl) (hs.res (k := 1) rfl)) (fun x A' w0 hx2 hH => ?_)
    obtain ⟨j, cs, v2, bd3⟩ := x
    have hcs := hH.2 _ (List.mem_singleton.2 rfl)
    have hc5 := hcs.len
    have hc1 := hcs.one
    obtain ⟨hv2, hx2⟩ := hx2
    dsimp only at hc5 hc1 hv2 hx2 ⊢
    have hfin : (bd3 = true ∧ onePr V seen v = none) ∨ (bd3 = false ∧ onePr V seen v = some (name, j, v2)) := by
      rcases hx2 with ⟨k1, k2⟩ | ⟨k1, k2⟩
      · exact .inl ⟨k2, by first | rw [hone, k1]; rfl | (rw [hone]; rfl)⟩
      · exact .inr ⟨k2, by first | rw [hone, k1]; rfl | cases k1⟩
    clear hcs
    obtain ⟨c0, c1, c2, c3, c4, rfl⟩ : ∃ c0 c1 c2 c3 c4, cs = [c0, c1, c2, c3, c4] := by
      match cs, hc5 with
      | [c0, c1, c2, c3, c4], _ => exact ⟨c0, c1, c2, c3, c4, rfl⟩
    intro b6
    refine sN 11 rfl rfl (by simpa using hc1) ?_ (by kernel_rfl)
    refine drs [dead, dead, dead, dead, dead, cl b3 #[.int .i64 5, .int .i64 0, sj [], .slice none 0 0, .slice a ks.length cc] TV, dead, dead, dead, dead, dead, cl b6 #[c0, c1, c2, c3, c4] TV] [8, 9, 10, 11] (.t 0 (.t 1 (.t 2 (.t 3 (.t 4 (.t 5 (.n 6 (.n 7 (.b 8 10 (.b 9 10 (.n 10 (.n 11 .nil)) (.b 9 11 (.n 11 .nil) (.n 9 .nil))) (.b 8 11 (.b 9 11 (.n 11 .nil) (.n 9 .nil)) (.n 8 (.n 9 .nil)))))))))))) tab_ok mixed_ok (by kernel_rfl) (.dead (.dead (.dead (.dead (.dead (.cons (.dead (.dead (.dead (.dead (.dead (.cons .nil)))))))))))) ?_
    refine ld1 5 rfl rfl ?_
    refine ldN 11 rfl rfl ?_
    refine bu (c := #[sj name, c0, c1, c2, c3, c4]) (by kernel_rfl) ?_
    refine .mk _ _ bsP (fun b7 => ?_)
    refine ⟨.dead (.dead (.dead (.dead (.dead (.cons (.dead (.dead (.dead (.dead (.dead (.cons .nil))))))))))), ?_⟩
    refine apV 9 he tab_ok (news := zP.toList) (m := 1) rfl infoP rfl rfl hR (srcE (C := ⟨Tryd.prog, tab, 33, [bl b], w, none⟩) (e' := TP) (tx := 23) (z := 6) rfl tab_ok (src 12 rfl rfl) rfl (by simp [Value.oneCell'])) (by omega) (by unfold maxLen; omega) (by decide) (fun g cap jn hR' => ?_)
    refine ⟨.dead (.dead (.dead (.dead (.dead (.cons (.dead (.dead (.dead (.dead (.dead (.cons .nil))))))))))), ?_⟩
    dsimp only at hR'
    have hRn : Rw 6 (ks.length + 1) (some (g, cap, jn)) (prX (ks ++ [⟨name, j, [c0, c1, c2, c3, c4]⟩])) := by
      have h5 : zP.toList.length = 6 := rfl
      have h6 : (sj name :: [c0, c1, c2, c3, c4]).length = 6 := rfl
      obtain ⟨k1, k2, k3, k4⟩ := hR'
      exact ⟨by rw [prX_app, List.length_append, hR.1, h6]; omega, k2, k3, by rw [List.length_append, List.length_append, h5] at k4; rw [prX_app, List.length_append, List.length_append, h6]; exact k4⟩
    have ho : nad 0 (nmu ((ks.length : Nat) : Int).toNat 6) = (prX ks).length := by rw [nad_eq, nmu_eq, Int.toNat_natCast, Nat.zero_add]; exact hR.1.symm
    have hlen : (ks ++ [(⟨name, j, [c0, c1, c2, c3, c4]⟩ : Pr)]).length = ks.length + 1 := by simp
    have hc6 : (#[sj name, c0, c1, c2, c3, c4] : Array Value).toList.all (·.oneCell') = true := by rw [show (#[sj name, c0, c1, c2, c3, c4] : Array Value).toList = sj name :: [c0, c1, c2, c3, c4] from rfl, List.all_cons, hc1]; rfl
    have hput := row_put (prX ks) zP.toList jn [sj name, c0, c1, c2, c3, c4] _ ho rfl
    have hfit : nad 0 (nmu ((ks.length : Nat) : Int).toNat 6) + (#[sj name, c0, c1, c2, c3, c4] : Array Value).size ≤ (prX ks ++ zP.toList ++ jn).toArray.size := by
      have h5 : zP.toList.length = 6 := rfl
      have h6 : (#[sj name, c0, c1, c2, c3, c4] : Array Value).size = 6 := rfl
      rw [ho, h6, List.size_toArray, List.length_append, List.length_append, h5]; omega
    refine ⟨?_, ?_⟩
    · refine ⟨by omega, by omega, ?_⟩
      refine ⟨?_, ?_⟩
      · refine sP 9 rfl hfit hc6 hput ?_ (by kernel_rfl)
        refine s1 5 rfl (by show 4 < 5; decide) ?_
        exact ⟨fun w' hs => ⟨obL b D b1 b2 b3 bm b4 b5 ⟨ks ++ [⟨name, j, [c0, c1, c2, c3, c4]⟩], some (g, cap, jn), some ⟨g, 0, none⟩, cap, fun i => A i ∨ A' i, v2, bd3, n - 1, name :: seen, _, _⟩, (St.kids hs (k := 2) (j := 10) rfl rfl (by decide)).sub (by unfold obL; dsimp only; rw [prX_app, prK_app, hlen]; exact .cons (.cons (.cons (.cons (.cons (.cons (.cons (.cons (.cons (.cons .nil)))))))))), name, j, [c0, c1, c2, c3, c4], v2, bd3, some (g, cap, jn), some ⟨g, 0, none⟩, cap, _, _, A', ⟨by omega, hfin⟩, rfl, hRn, rfl, hsn.add name clk, rfl, rfl⟩⟩
      · refine ⟨?_, ?_⟩
        · refine sP 9 rfl hfit hc6 hput ?_ (by kernel_rfl)
          refine s1 5 rfl (by show 4 < 5; decide) ?_
          exact ⟨fun w' hs => ⟨obL b D b1 b2 b3 bm b4 b5 ⟨ks ++ [⟨name, j, [c0, c1, c2, c3, c4]⟩], some (g, cap, jn), some ⟨g, 0, none⟩, cap, fun i => A i ∨ A' i, v2, bd3, n - 1, name :: seen, _, _⟩, (St.kids hs (k := 2) (j := 10) rfl rfl (by decide)).sub (by unfold obL; dsimp only; rw [prX_app, prK_app, hlen]; exact .cons (.cons (.cons (.cons (.cons (.cons (.cons (.cons (.cons (.cons .nil)))))))))), name, j, [c0, c1, c2, c3, c4], v2, bd3, some (g, cap, jn), some ⟨g, 0, none⟩, cap, _, _, A', ⟨by omega, hfin⟩, rfl, hRn, rfl, hsn.add name clk, rfl, rfl⟩⟩
        · refine s1 5 rfl (by show 4 < 5; decide) ?_
          refine sP 9 rfl hfit hc6 hput ?_ (by kernel_rfl)
          exact ⟨fun w' hs => ⟨obL b D b1 b2 b3 bm b4 b5 ⟨ks ++ [⟨name, j, [c0, c1, c2, c3, c4]⟩], some (g, cap, jn), some ⟨g, 0, none⟩, cap, fun i => A i ∨ A' i, v2, bd3, n - 1, name :: seen, _, _⟩, (St.kids hs (k := 2) (j := 10) rfl rfl (by decide)).sub (by unfold obL; dsimp only; rw [prX_app, prK_app, hlen]; exact .cons (.cons (.cons (.cons (.cons (.cons (.cons (.cons (.cons (.cons .nil)))))))))), name, j, [c0, c1, c2, c3, c4], v2, bd3, some (g, cap, jn), some ⟨g, 0, none⟩, cap, _, _, A', ⟨by omega, hfin⟩, rfl, hRn, rfl, hsn.add name clk, rfl, rfl⟩⟩
    · refine ⟨?_, ?_⟩
      · refine ⟨by omega, by omega, ?_⟩
        refine ⟨?_, ?_⟩
        · refine sP 9 rfl hfit hc6 hput ?_ (by kernel_rfl)
          refine s1 5 rfl (by show 4 < 5; decide) ?_
          exact ⟨fun w' hs => ⟨obL b D b1 b2 b3 bm b4 b5 ⟨ks ++ [⟨name, j, [c0, c1, c2, c3, c4]⟩], some (g, cap, jn), some ⟨g, 0, none⟩, cap, fun i => A i ∨ A' i, v2, bd3, n - 1, name :: seen, _, _⟩, (St.kids hs (k := 2) (j := 10) rfl rfl (by decide)).sub (by unfold obL; dsimp only; rw [prX_app, prK_app, hlen]; exact .cons (.cons (.cons (.cons (.cons (.cons (.cons (.cons (.cons (.cons .nil)))))))))), name, j, [c0, c1, c2, c3, c4], v2, bd3, some (g, cap, jn), some ⟨g, 0, none⟩, cap, _, _, A', ⟨by omega, hfin⟩, rfl, hRn, rfl, hsn.add name clk, rfl, rfl⟩⟩
        · refine s1 5 rfl (by show 4 < 5; decide) ?_
          refine sP 9 rfl hfit hc6 hput ?_ (by kernel_rfl)
          exact ⟨fun w' hs => ⟨obL b D b1 b2 b3 bm b4 b5 ⟨ks ++ [⟨name, j, [c0, c1, c2, c3, c4]⟩], some (g, cap, jn), some ⟨g, 0, none⟩, cap, fun i => A i ∨ A' i, v2, bd3, n - 1, name :: seen, _, _⟩, (St.kids hs (k := 2) (j := 10) rfl rfl (by decide)).sub (by unfold obL; dsimp only; rw [prX_app, prK_app, hlen]; exact .cons (.cons (.cons (.cons (.cons (.cons (.cons (.cons (.cons (.cons .nil)))))))))), name, j, [c0, c1, c2, c3, c4], v2, bd3, some (g, cap, jn), some ⟨g, 0, none⟩, cap, _, _, A', ⟨by omega, hfin⟩, rfl, hRn, rfl, hsn.add name clk, rfl, rfl⟩⟩
      · refine s1 5 rfl (by show 4 < 5; decide) ?_
        refine ⟨by omega, by omega, ?_⟩
        refine sP 9 rfl hfit hc6 hput ?_ (by kernel_rfl)
        exact ⟨fun w' hs => ⟨obL b D b1 b2 b3 bm b4 b5 ⟨ks ++ [⟨name, j, [c0, c1, c2, c3, c4]⟩], some (g, cap, jn), some ⟨g, 0, none⟩, cap, fun i => A i ∨ A' i, v2, bd3, n - 1, name :: seen, _, _⟩, (St.kids hs (k := 2) (j := 10) rfl rfl (by decide)).sub (by unfold obL; dsimp only; rw [prX_app, prK_app, hlen]; exact .cons (.cons (.cons (.cons (.cons (.cons (.cons (.cons (.cons (.cons .nil)))))))))), name, j, [c0, c1, c2, c3, c4], v2, bd3, some (g, cap, jn), some ⟨g, 0, none⟩, cap, _, _, A', ⟨by omega, hfin⟩, rfl, hRn, rfl, hsn.add name clk, rfl, rfl⟩⟩
  | false =>
    have hnot := of_decide_eq_false hdn
    have hle := eat_len 58 t
    refine ct rfl ?_
    refine ld1 3 rfl rfl ?_
    refine ct rfl ?_
    generalize hE : eatP 58 t = E at hle
    obtain ⟨e1, u⟩ := E
    dsimp only at hle
    refine cU1 0 rfl (v := .bool e1) (c := rdC u bd D) (fun w h => by have := eat_any (s := t) 58 (by omega) h; rw [hE] at this; exact this) ?_
    refine ct rfl ?_
    refine cf rfl ?_
    cases e1 with
    | false =>
      have hone : onePr V seen v = (none : Option (JV × Bs)).map fun p => (name, p.1, p.2) := by
        unfold onePr
        rcases hx with ⟨h1, h2, h3⟩ | ⟨h1, h2⟩
        · rw [h1]; rfl
        · rw [h1]; dsimp only; rw [if_neg hnot, hE]; rfl
      refine ct rfl ?_
      refine ld1 3 rfl rfl ?_
      refine cU1 0 rfl (fun w h => fail_any h) ?_
      have hval : ∀ w, w.heap[b]? = some (.cells (rdC u true D) TRd (0, 0)) → Laid w → ValC 26 [pj b] none u b D w := fun w h _ => value_fail (.inr rfl) (by omega) h
      have hlt : u.length ≤ v.length := by omega
      refine ld1 7 rfl rfl ?_
      refine mup (ke := keS) (k := name) 6 rfl undMb keyMb ?_
      refine ld1 3 rfl rfl ?_
      refine cUV 0 rfl rfl (fun w hs => hval w (hs.nth (k := 0) rfl) (hs.res (k := 1) rfl)) (fun x A' w0 hx2 hH => ?_)
      obtain ⟨j, cs, v2, bd3⟩ := x
      have hcs := hH.2 _ (List.mem_singleton.2 rfl)
      have hc5 := hcs.len
      have hc1 := hcs.one
      obtain ⟨hv2, hx2⟩ := hx2
      dsimp only at hc5 hc1 hv2 hx2 ⊢
      have hfin : (bd3 = true ∧ onePr V seen v = none) ∨ (bd3 = false ∧ onePr V seen v = some (name, j, v2)) := by
        rcases hx2 with ⟨k1, k2⟩ | ⟨k1, k2⟩
        · exact .inl ⟨k2, by first | rw [hone, k1]; rfl | (rw [hone]; rfl)⟩
        · exact .inr ⟨k2, by first | rw [hone, k1]; rfl | cases k1⟩
      clear hcs
      obtain ⟨c0, c1, c2, c3, c4, rfl⟩ : ∃ c0 c1 c2 c3 c4, cs = [c0, c1, c2, c3, c4] := by
        match cs, hc5 with
        | [c0, c1, c2, c3, c4], _ => exact ⟨c0, c1, c2, c3, c4, rfl⟩
      intro b6
      refine sN 11 rfl rfl (by simpa using hc1) ?_ (by kernel_rfl)
      refine drs [dead, dead, dead, dead, dead, cl b3 #[.int .i64 5, .int .i64 0, sj [], .slice none 0 0, .slice a ks.length cc] TV, dead, dead, dead, dead, dead, cl b6 #[c0, c1, c2, c3, c4] TV] [8, 9, 10, 11] (.t 0 (.t 1 (.t 2 (.t 3 (.t 4 (.t 5 (.n 6 (.n 7 (.b 8 10 (.b 9 10 (.n 10 (.n 11 .nil)) (.b 9 11 (.n 11 .nil) (.n 9 .nil))) (.b 8 11 (.b 9 11 (.n 11 .nil) (.n 9 .nil)) (.n 8 (.n 9 .nil)))))))))))) tab_ok mixed_ok (by kernel_rfl) (.dead (.dead (.dead (.dead (.dead (.cons (.dead (.dead (.dead (.dead (.dead (.cons .nil)))))))))))) ?_
      refine ld1 5 rfl rfl ?_
      refine ldN 11 rfl rfl ?_
      refine bu (c := #[sj name, c0, c1, c2, c3, c4]) (by kernel_rfl) ?_
      refine .mk _ _ bsP (fun b7 => ?_)
      refine ⟨.dead (.dead (.dead (.dead (.dead (.cons (.dead (.dead (.dead (.dead (.dead (.cons .nil))))))))))), ?_⟩
      refine apV 9 he tab_ok (news := zP.toList) (m := 1) rfl infoP rfl rfl hR (srcE (C := ⟨Tryd.prog, tab, 33, [bl b], w, none⟩) (e' := TP) (tx := 23) (z := 6) rfl tab_ok (src 12 rfl rfl) rfl (by simp [Value.oneCell'])) (by omega) (by unfold maxLen; omega) (by decide) (fun g cap jn hR' => ?_)
      refine ⟨.dead (.dead (.dead (.dead (.dead (.cons (.dead (.dead (.dead (.dead (.dead (.cons .nil))))))))))), ?_⟩
      dsimp only at hR'
      have hRn : Rw 6 (ks.length + 1) (some (g, cap, jn)) (prX (ks ++ [⟨name, j, [c0, c1, c2, c3, c4]⟩])) := by
        have h5 : zP.toList.length = 6 := rfl
        have h6 : (sj name :: [c0, c1, c2, c3, c4]).length = 6 := rfl
        obtain ⟨k1, k2, k3, k4⟩ := hR'
        exact ⟨by rw [prX_app, List.length_append, hR.1, h6]; omega, k2, k3, by rw [List.length_append, List.length_append, h5] at k4; rw [prX_app, List.length_append, List.length_append, h6]; exact k4⟩
      have ho : nad 0 (nmu ((ks.length : Nat) : Int).toNat 6) = (prX ks).length := by rw [nad_eq, nmu_eq, Int.toNat_natCast, Nat.zero_add]; exact hR.1.symm
      have hlen : (ks ++ [(⟨name, j, [c0, c1, c2, c3, c4]⟩ : Pr)]).length = ks.length + 1 := by simp
      have hc6 : (#[sj name, c0, c1, c2, c3, c4] : Array Value).toList.all (·.oneCell') = true := by rw [show (#[sj name, c0, c1, c2, c3, c4] : Array Value).toList = sj name :: [c0, c1, c2, c3, c4] from rfl, List.all_cons, hc1]; rfl
      have hput := row_put (prX ks) zP.toList jn [sj name, c0, c1, c2, c3, c4] _ ho rfl
      have hfit : nad 0 (nmu ((ks.length : Nat) : Int).toNat 6) + (#[sj name, c0, c1, c2, c3, c4] : Array Value).size ≤ (prX ks ++ zP.toList ++ jn).toArray.size := by
        have h5 : zP.toList.length = 6 := rfl
        have h6 : (#[sj name, c0, c1, c2, c3, c4] : Array Value).size = 6 := rfl
        rw [ho, h6, List.size_toArray, List.length_append, List.length_append, h5]; omega
      refine ⟨?_, ?_⟩
      · refine ⟨by omega, by omega, ?_⟩
        refine ⟨?_, ?_⟩
        · refine sP 9 rfl hfit hc6 hput ?_ (by kernel_rfl)
          refine s1 5 rfl (by show 4 < 5; decide) ?_
          exact ⟨fun w' hs => ⟨obL b D b1 b2 b3 bm b4 b5 ⟨ks ++ [⟨name, j, [c0, c1, c2, c3, c4]⟩], some (g, cap, jn), some ⟨g, 0, none⟩, cap, fun i => A i ∨ A' i, v2, bd3, n - 1, name :: seen, _, _⟩, (St.kids hs (k := 2) (j := 10) rfl rfl (by decide)).sub (by unfold obL; dsimp only; rw [prX_app, prK_app, hlen]; exact .cons (.cons (.cons (.cons (.cons (.cons (.cons (.cons (.cons (.cons .nil)))))))))), name, j, [c0, c1, c2, c3, c4], v2, bd3, some (g, cap, jn), some ⟨g, 0, none⟩, cap, _, _, A', ⟨by omega, hfin⟩, rfl, hRn, rfl, hsn.add name clk, rfl, rfl⟩⟩
        · refine ⟨?_, ?_⟩
          · refine sP 9 rfl hfit hc6 hput ?_ (by kernel_rfl)
            refine s1 5 rfl (by show 4 < 5; decide) ?_
            exact ⟨fun w' hs => ⟨obL b D b1 b2 b3 bm b4 b5 ⟨ks ++ [⟨name, j, [c0, c1, c2, c3, c4]⟩], some (g, cap, jn), some ⟨g, 0, none⟩, cap, fun i => A i ∨ A' i, v2, bd3, n - 1, name :: seen, _, _⟩, (St.kids hs (k := 2) (j := 10) rfl rfl (by decide)).sub (by unfold obL; dsimp only; rw [prX_app, prK_app, hlen]; exact .cons (.cons (.cons (.cons (.cons (.cons (.cons (.cons (.cons (.cons .nil)))))))))), name, j, [c0, c1, c2, c3, c4], v2, bd3, some (g, cap, jn), some ⟨g, 0, none⟩, cap, _, _, A', ⟨by omega, hfin⟩, rfl, hRn, rfl, hsn.add name clk, rfl, rfl⟩⟩
          · refine s1 5 rfl (by show 4 < 5; decide) ?_
            refine sP 9 rfl hfit hc6 hput ?_ (by kernel_rfl)
            exact ⟨fun w' hs => ⟨obL b D b1 b2 b3 bm b4 b5 ⟨ks ++ [⟨name, j, [c0, c1, c2, c3, c4]⟩], some (g, cap, jn), some ⟨g, 0, none⟩, cap, fun i => A i ∨ A' i, v2, bd3, n - 1, name :: seen, _, _⟩, (St.kids hs (k := 2) (j := 10) rfl rfl (by decide)).sub (by unfold obL; dsimp only; rw [prX_app, prK_app, hlen]; exact .cons (.cons (.cons (.cons (.cons (.cons (.cons (.cons (.cons (.cons .nil)))))))))), name, j, [c0, c1, c2, c3, c4], v2, bd3, some (g, cap, jn), some ⟨g, 0, none⟩, cap, _, _, A', ⟨by omega, hfin⟩, rfl, hRn, rfl, hsn.add name clk, rfl, rfl⟩⟩
      · refine ⟨?_, ?_⟩
        · refine ⟨by omega, by omega, ?_⟩
          refine ⟨?_, ?_⟩
          · refine sP 9 rfl hfit hc6 hput ?_ (by kernel_rfl)
            refine s1 5 rfl (by show 4 < 5; decide) ?_
            exact ⟨fun w' hs => ⟨obL b D b1 b2 b3 bm b4 b5 ⟨ks ++ [⟨name, j, [c0, c1, c2, c3, c4]⟩], some (g, cap, jn), some ⟨g, 0, none⟩, cap, fun i => A i ∨ A' i, v2, bd3, n - 1, name :: seen, _, _⟩, (St.kids hs (k := 2) (j := 10) rfl rfl (by decide)).sub (by unfold obL; dsimp only; rw [prX_app, prK_app, hlen]; exact .cons (.cons (.cons (.cons (.cons (.cons (.cons (.cons (.cons (.cons .nil)))))))))), name, j, [c0, c1, c2, c3, c4], v2, bd3, some (g, cap, jn), some ⟨g, 0, none⟩, cap, _, _, A', ⟨by omega, hfin⟩, rfl, hRn, rfl, hsn.add name clk, rfl, rfl⟩⟩
          · refine s1 5 rfl (by show 4 < 5; decide) ?_
            refine sP 9 rfl hfit hc6 hput ?_ (by kernel_rfl)
            exact ⟨fun w' hs => ⟨obL b D b1 b2 b3 bm b4 b5 ⟨ks ++ [⟨name, j, [c0, c1, c2, c3, c4]⟩], some (g, cap, jn), some ⟨g, 0, none⟩, cap, fun i => A i ∨ A' i, v2, bd3, n - 1, name :: seen, _, _⟩, (St.kids hs (k := 2) (j := 10) rfl rfl (by decide)).sub (by unfold obL; dsimp only; rw [prX_app, prK_app, hlen]; exact .cons (.cons (.cons (.cons (.cons (.cons (.cons (.cons (.cons (.cons .nil)))))))))), name, j, [c0, c1, c2, c3, c4], v2, bd3, some (g, cap, jn), some ⟨g, 0, none⟩, cap, _, _, A', ⟨by omega, hfin⟩, rfl, hRn, rfl, hsn.add name clk, rfl, rfl⟩⟩
        · refine s1 5 rfl (by show 4 < 5; decide) ?_
          refine ⟨by omega, by omega, ?_⟩
          refine sP 9 rfl hfit hc6 hput ?_ (by kernel_rfl)
          exact ⟨fun w' hs => ⟨obL b D b1 b2 b3 bm b4 b5 ⟨ks ++ [⟨name, j, [c0, c1, c2, c3, c4]⟩], some (g, cap, jn), some ⟨g, 0, none⟩, cap, fun i => A i ∨ A' i, v2, bd3, n - 1, name :: seen, _, _⟩, (St.kids hs (k := 2) (j := 10) rfl rfl (by decide)).sub (by unfold obL; dsimp only; rw [prX_app, prK_app, hlen]; exact .cons (.cons (.cons (.cons (.cons (.cons (.cons (.cons (.cons (.cons .nil)))))))))), name, j, [c0, c1, c2, c3, c4], v2, bd3, some (g, cap, jn), some ⟨g, 0, none⟩, cap, _, _, A', ⟨by omega, hfin⟩, rfl, hRn, rfl, hsn.add name clk, rfl, rfl⟩⟩
    | true =>
      refine cf rfl ?_
      obtain ⟨o3, hone, hval⟩ : ∃ o3 : Option (JV × Bs), (onePr V seen v = o3.map fun p => (name, p.1, p.2)) ∧ ∀ w, w.heap[b]? = some (.cells (rdC u bd D) TRd (0, 0)) → Laid w → ValC 26 [pj b] o3 u b D w := by
        rcases hx with ⟨h1, h2, rfl⟩ | ⟨h1, rfl⟩
        · exact ⟨none, by unfold onePr; rw [h1]; rfl, fun w h _ => value_fail (.inr rfl) (by omega) h⟩
        · exact ⟨V u, by unfold onePr; rw [h1]; dsimp only; rw [if_neg hnot, hE]; rfl, fun w h hw => hV u w (by omega) h hw⟩
      have hlt : u.length ≤ v.length := by omega
      refine ld1 7 rfl rfl ?_
      refine mup (ke := keS) (k := name) 6 rfl undMb keyMb ?_
      refine ld1 3 rfl rfl ?_
      refine cUV 0 rfl rfl (fun w hs => hval w (hs.nth (k := 0) rfl) (hs.res (k := 1) rfl)) (fun x A' w0 hx2 hH => ?_)
      obtain ⟨j, cs, v2, bd3⟩ := x
      have hcs := hH.2 _ (List.mem_singleton.2 rfl)
      have hc5 := hcs.len
      have hc1 := hcs.one
      obtain ⟨hv2, hx2⟩ := hx2
      dsimp only at hc5 hc1 hv2 hx2 ⊢
      have hfin : (bd3 = true ∧ onePr V seen v = none) ∨ (bd3 = false ∧ onePr V seen v = some (name, j, v2)) := by
        rcases hx2 with ⟨k1, k2⟩ | ⟨k1, k2⟩
        · exact .inl ⟨k2, by first | rw [hone, k1]; rfl | (rw [hone]; rfl)⟩
        · exact .inr ⟨k2, by first | rw [hone, k1]; rfl | cases k1⟩
      clear hcs
      obtain ⟨c0, c1, c2, c3, c4, rfl⟩ : ∃ c0 c1 c2 c3 c4, cs = [c0, c1, c2, c3, c4] := by
        match cs, hc5 with
        | [c0, c1, c2, c3, c4], _ => exact ⟨c0, c1, c2, c3, c4, rfl⟩
      intro b6
      refine sN 11 rfl rfl (by simpa using hc1) ?_ (by kernel_rfl)
      refine drs [dead, dead, dead, dead, dead, cl b3 #[.int .i64 5, .int .i64 0, sj [], .slice none 0 0, .slice a ks.length cc] TV, dead, dead, dead, dead, dead, cl b6 #[c0, c1, c2, c3, c4] TV] [8, 9, 10, 11] (.t 0 (.t 1 (.t 2 (.t 3 (.t 4 (.t 5 (.n 6 (.n 7 (.b 8 10 (.b 9 10 (.n 10 (.n 11 .nil)) (.b 9 11 (.n 11 .nil) (.n 9 .nil))) (.b 8 11 (.b 9 11 (.n 11 .nil) (.n 9 .nil)) (.n 8 (.n 9 .nil)))))))))))) tab_ok mixed_ok (by kernel_rfl) (.dead (.dead (.dead (.dead (.dead (.cons (.dead (.dead (.dead (.dead (.dead (.cons .nil)))))))))))) ?_
      refine ld1 5 rfl rfl ?_
      refine ldN 11 rfl rfl ?_
      refine bu (c := #[sj name, c0, c1, c2, c3, c4]) (by kernel_rfl) ?_
      refine .mk _ _ bsP (fun b7 => ?_)
      refine ⟨.dead (.dead (.dead (.dead (.dead (.cons (.dead (.dead (.dead (.dead (.dead (.cons .nil))))))))))), ?_⟩
      refine apV 9 he tab_ok (news := zP.toList) (m := 1) rfl infoP rfl rfl hR (srcE (C := ⟨Tryd.prog, tab, 33, [bl b], w, none⟩) (e' := TP) (tx := 23) (z := 6) rfl tab_ok (src 12 rfl rfl) rfl (by simp [Value.oneCell'])) (by omega) (by unfold maxLen; omega) (by decide) (fun g cap jn hR' => ?_)
      refine ⟨.dead (.dead (.dead (.dead (.dead (.cons (.dead (.dead (.dead (.dead (.dead (.cons .nil))))))))))), ?_⟩
      dsimp only at hR'
      have hRn : Rw 6 (ks.length + 1) (some (g, cap, jn)) (prX (ks ++ [⟨name, j, [c0, c1, c2, c3, c4]⟩])) := by
        have h5 : zP.toList.length = 6 := rfl
        have h6 : (sj name :: [c0, c1, c2, c3, c4]).length = 6 := rfl
        obtain ⟨k1, k2, k3, k4⟩ := hR'
        exact ⟨by rw [prX_app, List.length_append, hR.1, h6]; omega, k2, k3, by rw [List.length_append, List.length_append, h5] at k4; rw [prX_app, List.length_append, List.length_append, h6]; exact k4⟩
      have ho : nad 0 (nmu ((ks.length : Nat) : Int).toNat 6) = (prX ks).length := by rw [nad_eq, nmu_eq, Int.toNat_natCast, Nat.zero_add]; exact hR.1.symm
      have hlen : (ks ++ [(⟨name, j, [c0, c1, c2, c3, c4]⟩ : Pr)]).length = ks.length + 1 := by simp
      have hc6 : (#[sj name, c0, c1, c2, c3, c4] : Array Value).toList.all (·.oneCell') = true := by rw [show (#[sj name, c0, c1, c2, c3, c4] : Array Value).toList = sj name :: [c0, c1, c2, c3, c4] from rfl, List.all_cons, hc1]; rfl
      have hput := row_put (prX ks) zP.toList jn [sj name, c0, c1, c2, c3, c4] _ ho rfl
      have hfit : nad 0 (nmu ((ks.length : Nat) : Int).toNat 6) + (#[sj name, c0, c1, c2, c3, c4] : Array Value).size ≤ (prX ks ++ zP.toList ++ jn).toArray.size := by
        have h5 : zP.toList.length = 6 := rfl
        have h6 : (#[sj name, c0, c1, c2, c3, c4] : Array Value).size = 6 := rfl
        rw [ho, h6, List.size_toArray, List.length_append, List.length_append, h5]; omega
      refine ⟨?_, ?_⟩
      · refine ⟨by omega, by omega, ?_⟩
        refine ⟨?_, ?_⟩
        · refine sP 9 rfl hfit hc6 hput ?_ (by kernel_rfl)
          refine s1 5 rfl (by show 4 < 5; decide) ?_
          exact ⟨fun w' hs => ⟨obL b D b1 b2 b3 bm b4 b5 ⟨ks ++ [⟨name, j, [c0, c1, c2, c3, c4]⟩], some (g, cap, jn), some ⟨g, 0, none⟩, cap, fun i => A i ∨ A' i, v2, bd3, n - 1, name :: seen, _, _⟩, (St.kids hs (k := 2) (j := 10) rfl rfl (by decide)).sub (by unfold obL; dsimp only; rw [prX_app, prK_app, hlen]; exact .cons (.cons (.cons (.cons (.cons (.cons (.cons (.cons (.cons (.cons .nil)))))))))), name, j, [c0, c1, c2, c3, c4], v2, bd3, some (g, cap, jn), some ⟨g, 0, none⟩, cap, _, _, A', ⟨by omega, hfin⟩, rfl, hRn, rfl, hsn.add name clk, rfl, rfl⟩⟩
        · refine ⟨?_, ?_⟩
          · refine sP 9 rfl hfit hc6 hput ?_ (by kernel_rfl)
            refine s1 5 rfl (by show 4 < 5; decide) ?_
            exact ⟨fun w' hs => ⟨obL b D b1 b2 b3 bm b4 b5 ⟨ks ++ [⟨name, j, [c0, c1, c2, c3, c4]⟩], some (g, cap, jn), some ⟨g, 0, none⟩, cap, fun i => A i ∨ A' i, v2, bd3, n - 1, name :: seen, _, _⟩, (St.kids hs (k := 2) (j := 10) rfl rfl (by decide)).sub (by unfold obL; dsimp only; rw [prX_app, prK_app, hlen]; exact .cons (.cons (.cons (.cons (.cons (.cons (.cons (.cons (.cons (.cons .nil)))))))))), name, j, [c0, c1, c2, c3, c4], v2, bd3, some (g, cap, jn), some ⟨g, 0, none⟩, cap, _, _, A', ⟨by omega, hfin⟩, rfl, hRn, rfl, hsn.add name clk, rfl, rfl⟩⟩
          · refine s1 5 rfl (by show 4 < 5; decide) ?_
            refine sP 9 rfl hfit hc6 hput ?_ (by kernel_rfl)
            exact ⟨fun w' hs => ⟨obL b D b1 b2 b3 bm b4 b5 ⟨ks ++ [⟨name, j, [c0, c1, c2, c3, c4]⟩], some (g, cap, jn), some ⟨g, 0, none⟩, cap, fun i => A i ∨ A' i, v2, bd3, n - 1, name :: seen, _, _⟩, (St.kids hs (k := 2) (j := 10) rfl rfl (by decide)).sub (by unfold obL; dsimp only; rw [prX_app, prK_app, hlen]; exact .cons (.cons (.cons (.cons (.cons (.cons (.cons (.cons (.cons (.cons .nil)))))))))), name, j, [c0, c1, c2, c3, c4], v2, bd3, some (g, cap, jn), some ⟨g, 0, none⟩, cap, _, _, A', ⟨by omega, hfin⟩, rfl, hRn, rfl, hsn.add name clk, rfl, rfl⟩⟩
      · refine ⟨?_, ?_⟩
        · refine ⟨by omega, by omega, ?_⟩
          refine ⟨?_, ?_⟩
          · refine sP 9 rfl hfit hc6 hput ?_ (by kernel_rfl)
            refine s1 5 rfl (by show 4 < 5; decide) ?_
            exact ⟨fun w' hs => ⟨obL b D b1 b2 b3 bm b4 b5 ⟨ks ++ [⟨name, j, [c0, c1, c2, c3, c4]⟩], some (g, cap, jn), some ⟨g, 0, none⟩, cap, fun i => A i ∨ A' i, v2, bd3, n - 1, name :: seen, _, _⟩, (St.kids hs (k := 2) (j := 10) rfl rfl (by decide)).sub (by unfold obL; dsimp only; rw [prX_app, prK_app, hlen]; exact .cons (.cons (.cons (.cons (.cons (.cons (.cons (.cons (.cons (.cons .nil)))))))))), name, j, [c0, c1, c2, c3, c4], v2, bd3, some (g, cap, jn), some ⟨g, 0, none⟩, cap, _, _, A', ⟨by omega, hfin⟩, rfl, hRn, rfl, hsn.add name clk, rfl, rfl⟩⟩
          · refine s1 5 rfl (by show 4 < 5; decide) ?_
            refine sP 9 rfl hfit hc6 hput ?_ (by kernel_rfl)
            exact ⟨fun w' hs => ⟨obL b D b1 b2 b3 bm b4 b5 ⟨ks ++ [⟨name, j, [c0, c1, c2, c3, c4]⟩], some (g, cap, jn), some ⟨g, 0, none⟩, cap, fun i => A i ∨ A' i, v2, bd3, n - 1, name :: seen, _, _⟩, (St.kids hs (k := 2) (j := 10) rfl rfl (by decide)).sub (by unfold obL; dsimp only; rw [prX_app, prK_app, hlen]; exact .cons (.cons (.cons (.cons (.cons (.cons (.cons (.cons (.cons (.cons .nil)))))))))), name, j, [c0, c1, c2, c3, c4], v2, bd3, some (g, cap, jn), some ⟨g, 0, none⟩, cap, _, _, A', ⟨by omega, hfin⟩, rfl, hRn, rfl, hsn.add name clk, rfl, rfl⟩⟩
        · refine s1 5 rfl (by show 4 < 5; decide) ?_
          refine ⟨by omega, by omega, ?_⟩
          refine sP 9 rfl hfit hc6 hput ?_ (by kernel_rfl)
          exact ⟨fun w' hs => ⟨obL b D b1 b2 b3 bm b4 b5 ⟨ks ++ [⟨name, j, [c0, c1, c2, c3, c4]⟩], some (g, cap, jn), some ⟨g, 0, none⟩, cap, fun i => A i ∨ A' i, v2, bd3, n - 1, name :: seen, _, _⟩, (St.kids hs (k := 2) (j := 10) rfl rfl (by decide)).sub (by unfold obL; dsimp only; rw [prX_app, prK_app, hlen]; exact .cons (.cons (.cons (.cons (.cons (.cons (.cons (.cons (.cons (.cons .nil)))))))))), name, j, [c0, c1, c2, c3, c4], v2, bd3, some (g, cap, jn), some ⟨g, 0, none⟩, cap, _, _, A', ⟨by omega, hfin⟩, rfl, hRn, rfl, hsn.add name clk, rfl, rfl⟩⟩
end
end Go.Proofs.YtpegkoklmhccjaaDoor
end
section
namespace Go.Proofs.YtpegkoklmhccjaaDoor
open Go.RowKit Go.Sx
set_option linter.unusedVariables false
theorem eat_lt (c : UInt8) (s : Bs) (h : (eatP c s).1 = true) : (eatP c s).2.length < s.length := by
  have hw := ws_len s
  unfold eatP at h ⊢
  cases hs : ws s with
  | nil => rw [hs] at h; cases h
  | cons x t =>
    rw [hs] at h hw
    dsimp only at h ⊢
    split
    · simp at hw; dsimp only; omega
    · rename_i hx; rw [if_neg hx] at h; cases h
section
variable {b : Nat} {t : Bs} {d : Nat} {w : World}
set_option maxRecDepth 100000 in
theorem list_any {V : Bs → Option (JV × Bs)} (hd : d + 1 ≤ 8) (hV : VIs V b ((d + 1 : Nat) : Int)) (hl : t.length < 100000) (h : w.heap[b]? = some (.cells (rdC (91 :: t) false d) TRd (0, 0))) (hw : Laid w) : ValC 50 [pj b] (lstG V t) (91 :: t) b d w := by
  refine enterVC tab_ok Tryd.func50 rfl Tryd.ntmps50 rfl (St.rdH h hw) ?_
  intro b1 b2
  refine bu (c := valC 4 0 []) rfl ?_
  intro b3
  refine sN 5 rfl rfl (by simp [Value.oneCell']) ?_ (by kernel_rfl)
  refine ld1 3 rfl rfl ?_
  refine inl (C := ⟨Tryd.prog, tab, _, [bl b], w, _⟩) tab_ok Tryd.func66 rfl Tryd.ntmps66 rfl ?_
  intro b4
  refine ld1 6 rfl rfl ?_
  refine ld1 0 rfl rfl ?_
  refine .as ((d + 1 : Nat) : Int) (by omega) (by simp only [mn]; omega) (by simp only [mx]; omega) ?_
  refine s1 0 rfl (by show 2 < 3; decide) ?_
  refine ld1 6 rfl rfl ?_
  have he : eatP 91 (91 :: t) = (true, t) := eat_open 91 (by decide) t
  refine cU1 0 rfl (v := .bool true) (c := rdC t false ((d + 1 : Nat) : Int)) (fun w h => by have := eat_any (s := 91 :: t) 91 (by simp; omega) h; rw [he] at this; exact this) ?_
  iterate 1 refine ct rfl ?_
  refine ld1 6 rfl rfl ?_
  iterate 3 refine ct rfl ?_
  refine ld1 0 rfl rfl ?_
  refine ct rfl ?_
  refine cf rfl ?_
  refine cf (decide_eq_false (by omega)) ?_
  refine ld1 6 rfl rfl ?_
  have hle := eat_len 93 t
  generalize hE : eatP 93 t = E at hle
  obtain ⟨e1, u⟩ := E
  dsimp only at hle
  refine cU1 0 rfl (v := .bool e1) (c := rdC u false ((d + 1 : Nat) : Int)) (fun w h => by have := eat_any (s := t) 93 (by omega) h; rw [hE] at this; exact this) ?_
  cases e1 with
  | true =>
    refine ct rfl ?_
    refine dfl (C := ⟨Tryd.prog, tab, _, [bl b], w, _⟩) tab_ok Tryd.func79 rfl Tryd.ntmps79 rfl rfl ?_
    refine ld1 6 rfl rfl ?_
    refine ld1 0 rfl rfl ?_
    refine .as (d : Int) (by omega) (by simp only [mn]; omega) (by simp only [mx]; omega) ?_
    refine s1 0 rfl (by show 2 < 3; decide) ?_
    refine ⟨rfl, bk ?_⟩
    refine bk ?_
    refine ldN 5 rfl rfl ?_
    refine sN 4 rfl rfl (by simp [Value.oneCell']) ?_ (by kernel_rfl)
    refine ldN 4 rfl rfl ?_

    exact ⟨fun w' hs => list_end hs.deads 1 6 (r := none) (ks := []) rfl rfl (Rw.nil 5) rfl (fun y hy => by simp at hy) (by decide) (by simp; omega) (.inr ⟨rfl, by unfold lstG; rw [hE]; rfl⟩)⟩
  | false =>
    refine cf rfl ?_
    have hspec : lstG V t = (itmG V (u.length + 1) u).map fun p => (.mk 4 0 [] p.1 [], p.2) := by unfold lstG; rw [hE]; rfl
    refine lp tab_ok (LsJ (itmG V (u.length + 1) u) V u) (fun x => ⟨[(2, .int .u8 93), (3, .func (.func 67) #[] #[pj b1, pj b3]), (4, pj b4)], lsL b ((d + 1 : Nat) : Int) b1 b2 b3 b4 x, [⟨.fn (.func 79) #[pj b4], #[]⟩]⟩) (fun x => cond x.bad 0 (x.n + 1)) ⟨[], none, none, 0, fun _ => False, u, false, u.length + 1⟩
      ⟨Nat.le_refl _, fun _ => by simp, by simp, by simp, Rw.nil 5, rfl, fun y hy => by simp at hy, .inr ⟨rfl, by simp⟩⟩ ⟨⟨rfl, rfl, rfl, trivial⟩, .cons (.cons (.cons (.cons (.cons (.cons (.cons (.pad .nil))))))), rfl⟩ ?_
    rintro ⟨ks, r, a, cc, A, v, bad, n⟩ ⟨htl, hkl, hkm0, hn, hR, he2, hz, hok⟩
    dsimp only at htl hkl hkm0 hn hR he2 hz hok ⊢
    have hkm : ks.length ≤ maxLen := by unfold maxLen; omega
    have hvl : v.length ≤ (91 :: t).length := by simp; omega
    refine ld1 6 rfl rfl ?_
    refine ld1 0 rfl (v := .bool bad) rfl ?_
    rcases hok with ⟨rfl, hq⟩ | ⟨rfl, hq⟩
    · refine cf rfl ?_
      refine dfl (C := ⟨Tryd.prog, tab, _, [bl b], w, _⟩) tab_ok Tryd.func79 rfl Tryd.ntmps79 rfl rfl ?_
      refine ld1 6 rfl rfl ?_
      refine ld1 0 rfl rfl ?_
      refine .as (d : Int) (by omega) (by simp only [mn]; omega) (by simp only [mx]; omega) ?_
      refine s1 0 rfl (by show 2 < 3; decide) ?_
      refine ⟨rfl, bk ?_⟩
      refine bk ?_
      refine ldN 5 rfl rfl ?_
      refine sN 4 rfl rfl (by simp [Value.oneCell']) ?_ (by kernel_rfl)
      refine ldN 4 rfl rfl ?_

      exact ⟨fun w' hs => list_end hs 1 6 rfl rfl hR he2 hz hkm hvl (.inl ⟨rfl, by rw [hspec, hq]; rfl⟩)⟩
    · refine ct rfl ?_
      have hkl' := hkl rfl
      obtain ⟨m, rfl⟩ : ∃ m, n = m + 1 := ⟨n - 1, by omega⟩
      refine CallP.mono (list_one hV (by omega) (by omega) hR he2) (fun u' L' hq2 => ?_)
      obtain ⟨j, cs, v2, bd, r', a', cc', A', ⟨hv2, hx⟩, hc5, hR', he', rfl, rfl⟩ := hq2
      dsimp only at hv2 hx
      have hl1 : (ks ++ [(j, cs)]).length = ks.length + 1 := by simp
      have hkm' : (ks ++ [(j, cs)]).length ≤ maxLen := by rw [hl1]; unfold maxLen; omega
      rw [← hl1] at hR' he'
      have hz' : ∀ y ∈ ks ++ [(j, cs)], y.2.length = 5 := fun y hy => by
        rcases List.mem_append.1 hy with hy | hy
        · exact hz y hy
        · obtain rfl : y = (j, cs) := by simpa using hy
          exact hc5
      have hv2l : v2.length ≤ (91 :: t).length := by simp; omega
      refine ld1 6 rfl rfl ?_
      refine ld1 0 rfl (v := .bool bd) rfl ?_
      rcases hx with ⟨hx, rfl⟩ | ⟨hx, rfl⟩
      · iterate 3 refine cf rfl ?_
        iterate 2 refine ct rfl ?_
        refine dfl (C := ⟨Tryd.prog, tab, _, [bl b], w, _⟩) tab_ok Tryd.func79 rfl Tryd.ntmps79 rfl rfl ?_
        refine ld1 6 rfl rfl ?_
        refine ld1 0 rfl rfl ?_
        refine .as (d : Int) (by omega) (by simp only [mn]; omega) (by simp only [mx]; omega) ?_
        refine s1 0 rfl (by show 2 < 3; decide) ?_
        refine ⟨rfl, bk ?_⟩
        refine bk ?_
        refine ldN 5 rfl rfl ?_
        refine sN 4 rfl rfl (by simp [Value.oneCell']) ?_ (by kernel_rfl)
        refine ldN 4 rfl rfl ?_

        exact ⟨fun w' hs => list_end hs 1 6 rfl rfl hR' he' hz' hkm' hv2l (.inl ⟨rfl, by rw [hspec, hq, itmG, hx]; rfl⟩)⟩
      · have hI : itmG V (m + 1) v = if (eatP 93 v2).1 then some ([j], (eatP 93 v2).2) else if (eatP 44 (eatP 93 v2).2).1 then (itmG V m (eatP 44 (eatP 93 v2).2).2).map fun p => (j :: p.1, p.2) else none := by rw [itmG, hx]
        have hle2 := eat_len 93 v2
        generalize hE2 : eatP 93 v2 = E at hle2 hI
        obtain ⟨e2, u2⟩ := E
        dsimp only at hle2 hI
        refine ct rfl ?_
        refine ld1 6 rfl rfl ?_
        iterate 2 refine ct rfl ?_
        refine cU1 0 rfl (v := .bool e2) (c := rdC u2 false ((d + 1 : Nat) : Int)) (fun w h => by have := eat_any (s := v2) 93 (by omega) h; rw [hE2] at this; exact this) ?_
        refine cf rfl ?_
        cases e2 with
        | true =>
          refine ct rfl ?_
          refine dfl (C := ⟨Tryd.prog, tab, _, [bl b], w, _⟩) tab_ok Tryd.func79 rfl Tryd.ntmps79 rfl rfl ?_
          refine ld1 6 rfl rfl ?_
          refine ld1 0 rfl rfl ?_
          refine .as (d : Int) (by omega) (by simp only [mn]; omega) (by simp only [mx]; omega) ?_
          refine s1 0 rfl (by show 2 < 3; decide) ?_
          refine ⟨rfl, bk ?_⟩
          refine bk ?_
          refine ldN 5 rfl rfl ?_
          refine sN 4 rfl rfl (by simp [Value.oneCell']) ?_ (by kernel_rfl)
          refine ldN 4 rfl rfl ?_

          exact ⟨fun w' hs => list_end hs 1 6 rfl rfl hR' he' hz' hkm' (by simp; omega) (.inr ⟨rfl, by rw [hspec, hq, hI]; simp⟩)⟩
        | false =>
          refine cf rfl ?_
          refine ld1 6 rfl rfl ?_
          have hle3 := eat_len 44 u2
          have hlt3 := eat_lt 44 u2
          generalize hE3 : eatP 44 u2 = E at hle3 hlt3 hI
          obtain ⟨e3, u3⟩ := E
          dsimp only at hle3 hlt3 hI
          refine cU1 0 rfl (v := .bool e3) (c := rdC u3 false ((d + 1 : Nat) : Int)) (fun w h => by have := eat_any (s := u2) 44 (by omega) h; rw [hE3] at this; exact this) ?_
          cases e3 with
          | true =>
            have hlt := hlt3 rfl
            refine cf rfl ?_
            exact ⟨⟨ks ++ [(j, cs)], r', a', cc', fun i => A i ∨ A' i, u3, false, m⟩, ⟨by dsimp only; omega, fun _ => by dsimp only; rw [hl1]; omega, by dsimp only; rw [hl1]; omega, by dsimp only; omega, hR', he', hz', .inr ⟨rfl, by rw [hq, hI]; simp only [List.map_append]; cases itmG V m u3 <;> simp⟩⟩, by dsimp only [cond]; omega, ⟨rfl, rfl, rfl, trivial⟩, .cons (.cons (.cons (.cons (.cons (.cons (.cons (.cons .nil))))))), rfl⟩
          | false =>
            refine ct rfl ?_
            refine ld1 6 rfl rfl ?_
            refine cU1 0 rfl (fun w h => fail_any h) ?_
            exact ⟨⟨ks ++ [(j, cs)], r', a', cc', fun i => A i ∨ A' i, u3, true, m + 1⟩, ⟨by dsimp only; omega, (fun h => by cases h), by dsimp only; rw [hl1]; omega, by dsimp only; omega, hR', he', hz', .inl ⟨rfl, by rw [hq, hI]; rfl⟩⟩, by dsimp only [cond]; omega, ⟨rfl, rfl, rfl, trivial⟩, .cons (.cons (.cons (.cons (.cons (.cons (.cons (.cons .nil))))))), rfl⟩
end
end Go.Proofs.YtpegkoklmhccjaaDoor
end
section
namespace Go.Proofs.YtpegkoklmhccjaaDoor
open Go.RowKit Go.Sx
set_option linter.unusedVariables false
structure ObJ (o : Option (List (Bs × JV) × Bs)) (V : Bs → Option (JV × Bs)) (t : Bs) (x : ObI) : Prop where
  tl : x.t.length ≤ t.length
  kl : x.bad = false → x.ks.length + x.t.length ≤ t.length
  km : x.ks.length ≤ t.length + 1
  n : x.t.length < x.n
  R : Rw 6 x.ks.length x.r (prX x.ks)
  e : sv x.r x.ks.length = .slice x.a x.ks.length x.cc
  z : ∀ y ∈ x.ks, y.cs.length = 5
  sn : SeenIs x.es x.seen
  ok : (x.bad = true ∧ o = none) ∨ (x.bad = false ∧ o = (prsG V x.seen x.n x.t).map fun p => (x.ks.map (fun q => (q.name, q.j)) ++ p.1, p.2))
/-- what an object's reader gives in the end -/
theorem object_end {L : List Ent} {w w' : World} {b : Nat} {d : Int} {u : Bs} {bad : Bool} {o : Option (JV × Bs)} {s : Bs} {ks : List Pr} {r : Sx.Own} {a : Option Addr} {cc : Nat} {A : Nat → Prop} (hs : St [bl b] w w' (cl b (rdC u bad d) TRd :: L)) (k kr : Nat) (hk : L[k]? = some (rs (heldR A (prK ks)))) (hr : L[kr]? = some (se r (prX ks) TP))
    (hR : Rw 6 ks.length r (prX ks)) (e : sv r ks.length = .slice a ks.length cc) (hz : ∀ y ∈ ks, y.cs.length = 5) (hn : ks.length ≤ maxLen) (hu : u.length ≤ s.length) (ho : (bad = true ∧ o = none) ∨ (bad = false ∧ o = some (.mk 5 0 [] [] (ks.map fun q => (q.name, q.j)), u))) :
    ∃ x : VO, VF o s x ∧ Value.agg #[.int .i64 5, .int .i64 0, sj [], .slice none 0 0, .slice a ks.length cc] = .agg x.cs.toArray ∧ Upd b (rdC x.t x.bad d) TRd w w' ∧ ∃ A : Nat → Prop, (∀ k, A k → w.heap.size ≤ k) ∧ Held w' A [(x.j, x.cs)] := by
  have hH : Held w' A (prK ks) := hs.res (k := k + 1) (by simpa using hk)
  have hW : ∀ i, rowB r i → (se r (prX ks) TP).W i := fun i hi => by
    cases r with
    | none => exact hi.elim
    | some q => obtain rfl : i = q.1 := hi; simp [se]
  refine ⟨⟨.mk 5 0 [] [] (ks.map fun q => (q.name, q.j)), vcl 5 0 [] (.slice none 0 0) (.slice a ks.length cc), u, bad⟩, ⟨hu, ?_⟩, rfl, hs.updU, fun i => A i ∨ rowB r i, fun i hi => ?_, fun i hi => ?_, fun x hx => ?_⟩
  · rcases ho with ⟨h1, h2⟩ | ⟨h1, h2⟩
    · exact .inl ⟨h2, h1⟩
    · exact .inr ⟨h2, h1⟩
  · rcases hi with hi | hi
    · exact St.fresh hs hk i ((rsW _ _).2 hi)
    · exact St.fresh hs hr i (hW i hi)
  · rcases hi with hi | hi
    · exact hH.1 i hi
    · exact hs.ltA (List.mem_cons_of_mem _ (List.mem_of_getElem? hr)) (hW i hi).a
  · obtain rfl : x = _ := by simpa using hx
    refine .mk (fun _ => []) (fun n => ((ks[n]?).map (·.cs)).getD []) (.nil ..) ?_ (fun n j h => by simp at h) (fun n q h => ?_)
    · rw [List.length_map, ← e]
      refine row_at hs (k := kr + 1) (ks := ks.map fun p => sj p.name :: p.cs) (by simpa using hr) hR (by simp) (fun y hy => ?_) (fun i hi => .inr hi) (fun i y hy => ?_) hn
      · obtain ⟨z, h1, rfl⟩ := List.mem_map.1 hy
        simp [hz z h1]
      · rw [List.getElem?_map] at hy
        unfold pcl
        rw [List.getElem?_map]
        cases hq : ks[i]? with
        | none => rw [hq] at hy; cases hy
        | some p => rw [hq] at hy; simpa [hq] using hy
    · rw [List.getElem?_map] at h
      cases hq : ks[n]? with
      | none => rw [hq] at h; cases h
      | some y =>
        rw [hq] at h
        obtain rfl : (y.name, y.j) = q := by simpa using h
        exact (hH.2 (y.j, y.cs) (List.mem_map.2 ⟨y, List.mem_of_getElem? hq, rfl⟩)).to (fun _ h => .inl h) fun _ _ => rfl
section
variable {b : Nat} {t : Bs} {d : Nat} {w : World}
set_option maxRecDepth 100000 in
set_option maxHeartbeats 4000000 in
theorem object_any {V : Bs → Option (JV × Bs)} (hd : d + 1 ≤ 8) (hV : VIs V b ((d + 1 : Nat) : Int)) (hl : t.length < 100000) (h : w.heap[b]? = some (.cells (rdC (123 :: t) false d) TRd (0, 0))) (hw : Laid w) : ValC 51 [pj b] (objG V t) (123 :: t) b d w := by
  refine enterVC tab_ok Tryd.func51 rfl Tryd.ntmps51 rfl (St.rdH h hw) ?_
  intro b1 b2
  refine bu (c := valC 5 0 []) rfl ?_
  intro b3
  refine sN 5 rfl rfl (by simp [Value.oneCell']) ?_ (by kernel_rfl)
  refine mkm (keS : Bs → Value) (fun bm => ?_)
  intro b4
  refine s1 7 rfl (by show 0 < 1; decide) ?_
  refine ld1 3 rfl rfl ?_
  refine inl (C := ⟨Tryd.prog, tab, _, [bl b], w, _⟩) tab_ok Tryd.func66 rfl Tryd.ntmps66 rfl ?_
  intro b5
  refine ld1 8 rfl rfl ?_
  refine ld1 0 rfl rfl ?_
  refine .as ((d + 1 : Nat) : Int) (by omega) (by simp only [mn]; omega) (by simp only [mx]; omega) ?_
  refine s1 0 rfl (by show 2 < 3; decide) ?_
  refine ld1 8 rfl rfl ?_
  have he : eatP 123 (123 :: t) = (true, t) := eat_open 123 (by decide) t
  refine cU1 0 rfl (v := .bool true) (c := rdC t false ((d + 1 : Nat) : Int)) (fun w h => by have := eat_any (s := 123 :: t) 123 (by simp; omega) h; rw [he] at this; exact this) ?_
  iterate 1 refine ct rfl ?_
  refine ld1 8 rfl rfl ?_
  iterate 3 refine ct rfl ?_
  refine ld1 0 rfl rfl ?_
  refine ct rfl ?_
  refine cf rfl ?_
  refine cf (decide_eq_false (by omega)) ?_
  refine ld1 8 rfl rfl ?_
  have hle := eat_len 125 t
  generalize hE : eatP 125 t = E at hle
  obtain ⟨e1, u⟩ := E
  dsimp only at hle
  refine cU1 0 rfl (v := .bool e1) (c := rdC u false ((d + 1 : Nat) : Int)) (fun w h => by have := eat_any (s := t) 125 (by omega) h; rw [hE] at this; exact this) ?_
  cases e1 with
  | true =>
    refine ct rfl ?_
    refine dfl (C := ⟨Tryd.prog, tab, _, [bl b], w, _⟩) tab_ok Tryd.func79 rfl Tryd.ntmps79 rfl rfl ?_
    refine ld1 8 rfl rfl ?_
    refine ld1 0 rfl rfl ?_
    refine .as (d : Int) (by omega) (by simp only [mn]; omega) (by simp only [mx]; omega) ?_
    refine s1 0 rfl (by show 2 < 3; decide) ?_
    refine ⟨rfl, bk ?_⟩
    refine bk ?_
    refine ldN 5 rfl rfl ?_
    refine sN 4 rfl rfl (by simp [Value.oneCell']) ?_ (by kernel_rfl)
    refine ldN 4 rfl rfl ?_

    exact ⟨fun w' hs => object_end hs.deads 1 8 (r := none) (ks := []) rfl rfl (Rw.nil 6) rfl (fun y hy => by simp at hy) (by decide) (by simp; omega) (.inr ⟨rfl, by unfold objG; rw [hE]; rfl⟩)⟩
  | false =>
    refine cf rfl ?_
    have hspec : objG V t = (prsG V [] (u.length + 1) u).map fun p => (.mk 5 0 [] [] p.1, p.2) := by unfold objG; rw [hE]; rfl
    refine lp tab_ok (ObJ (prsG V [] (u.length + 1) u) V u) (fun x => ⟨[(2, .int .u8 125), (3, .func (.func 68) #[] #[pj b1, pj b4, pj b3]), (4, pj b5)], obL b ((d + 1 : Nat) : Int) b1 b2 b3 bm b4 b5 x, [⟨.fn (.func 79) #[pj b5], #[]⟩]⟩) (fun x => cond x.bad 0 (x.n + 1)) ⟨[], none, none, 0, fun _ => False, u, false, u.length + 1, [], [], 0⟩
      ⟨Nat.le_refl _, fun _ => by simp, by simp, by simp, Rw.nil 6, rfl, fun y hy => by simp at hy, fun k => rfl, .inr ⟨rfl, by simp⟩⟩ ⟨⟨rfl, rfl, rfl, trivial⟩, .cons (.cons (.cons (.cons (.cons (.cons (.cons (.cons (.cons (.pad .nil))))))))), rfl⟩ ?_
    rintro ⟨ks, r, a, cc, A, v, bad, n, seen, es, clk⟩ ⟨htl, hkl, hkm0, hn, hR, he2, hz, hsn, hok⟩
    dsimp only at htl hkl hkm0 hn hR he2 hz hsn hok ⊢
    have hkm : ks.length ≤ maxLen := by unfold maxLen; omega
    have hvl : v.length ≤ (123 :: t).length := by simp; omega
    refine ld1 8 rfl rfl ?_
    refine ld1 0 rfl (v := .bool bad) rfl ?_
    rcases hok with ⟨rfl, hq⟩ | ⟨rfl, hq⟩
    · refine cf rfl ?_
      refine dfl (C := ⟨Tryd.prog, tab, _, [bl b], w, _⟩) tab_ok Tryd.func79 rfl Tryd.ntmps79 rfl rfl ?_
      refine ld1 8 rfl rfl ?_
      refine ld1 0 rfl rfl ?_
      refine .as (d : Int) (by omega) (by simp only [mn]; omega) (by simp only [mx]; omega) ?_
      refine s1 0 rfl (by show 2 < 3; decide) ?_
      refine ⟨rfl, bk ?_⟩
      refine bk ?_
      refine ldN 5 rfl rfl ?_
      refine sN 4 rfl rfl (by simp [Value.oneCell']) ?_ (by kernel_rfl)
      refine ldN 4 rfl rfl ?_

      exact ⟨fun w' hs => object_end hs 1 8 rfl rfl hR he2 hz hkm hvl (.inl ⟨rfl, by rw [hspec, hq]; rfl⟩)⟩
    · refine ct rfl ?_
      have hkl' := hkl rfl
      obtain ⟨m, rfl⟩ : ∃ m, n = m + 1 := ⟨n - 1, by omega⟩
      refine CallP.mono (pair_one hV (by omega) (by omega) hR he2 hsn) (fun u' L' hq2 => ?_)
      obtain ⟨name, j, cs, v2, bd, r', a', cc', es', clk', A', ⟨hv2, hx⟩, hc5, hR', he', hsn', rfl, rfl⟩ := hq2
      have hl1 : (ks ++ [(⟨name, j, cs⟩ : Pr)]).length = ks.length + 1 := by simp
      have hkm' : (ks ++ [(⟨name, j, cs⟩ : Pr)]).length ≤ maxLen := by rw [hl1]; unfold maxLen; omega
      rw [← hl1] at hR' he'
      have hz' : ∀ y ∈ ks ++ [(⟨name, j, cs⟩ : Pr)], y.cs.length = 5 := fun y hy => by
        rcases List.mem_append.1 hy with hy | hy
        · exact hz y hy
        · obtain rfl : y = ⟨name, j, cs⟩ := by simpa using hy
          exact hc5
      have hv2l : v2.length ≤ (123 :: t).length := by simp; omega
      refine ld1 8 rfl rfl ?_
      refine ld1 0 rfl (v := .bool bd) rfl ?_
      rcases hx with ⟨rfl, hx⟩ | ⟨rfl, hx⟩
      · iterate 3 refine cf rfl ?_
        iterate 2 refine ct rfl ?_
        refine dfl (C := ⟨Tryd.prog, tab, _, [bl b], w, _⟩) tab_ok Tryd.func79 rfl Tryd.ntmps79 rfl rfl ?_
        refine ld1 8 rfl rfl ?_
        refine ld1 0 rfl rfl ?_
        refine .as (d : Int) (by omega) (by simp only [mn]; omega) (by simp only [mx]; omega) ?_
        refine s1 0 rfl (by show 2 < 3; decide) ?_
        refine ⟨rfl, bk ?_⟩
        refine bk ?_
        refine ldN 5 rfl rfl ?_
        refine sN 4 rfl rfl (by simp [Value.oneCell']) ?_ (by kernel_rfl)
        refine ldN 4 rfl rfl ?_

        exact ⟨fun w' hs => object_end hs 1 8 rfl rfl hR' he' hz' hkm' hv2l (.inl ⟨rfl, by rw [hspec, hq, prsG, hx]; rfl⟩)⟩
      · have hI : prsG V seen (m + 1) v = if (eatP 125 v2).1 then some ([(name, j)], (eatP 125 v2).2) else if (eatP 44 (eatP 125 v2).2).1 then (prsG V (name :: seen) m (eatP 44 (eatP 125 v2).2).2).map fun p => ((name, j) :: p.1, p.2) else none := by rw [prsG, hx]
        have hle2 := eat_len 125 v2
        generalize hE2 : eatP 125 v2 = E at hle2 hI
        obtain ⟨e2, u2⟩ := E
        dsimp only at hle2 hI
        refine ct rfl ?_
        refine ld1 8 rfl rfl ?_
        iterate 2 refine ct rfl ?_
        refine cU1 0 rfl (v := .bool e2) (c := rdC u2 false ((d + 1 : Nat) : Int)) (fun w h => by have := eat_any (s := v2) 125 (by omega) h; rw [hE2] at this; exact this) ?_
        refine cf rfl ?_
        cases e2 with
        | true =>
          refine ct rfl ?_
          refine dfl (C := ⟨Tryd.prog, tab, _, [bl b], w, _⟩) tab_ok Tryd.func79 rfl Tryd.ntmps79 rfl rfl ?_
          refine ld1 8 rfl rfl ?_
          refine ld1 0 rfl rfl ?_
          refine .as (d : Int) (by omega) (by simp only [mn]; omega) (by simp only [mx]; omega) ?_
          refine s1 0 rfl (by show 2 < 3; decide) ?_
          refine ⟨rfl, bk ?_⟩
          refine bk ?_
          refine ldN 5 rfl rfl ?_
          refine sN 4 rfl rfl (by simp [Value.oneCell']) ?_ (by kernel_rfl)
          refine ldN 4 rfl rfl ?_

          exact ⟨fun w' hs => object_end hs 1 8 rfl rfl hR' he' hz' hkm' (by simp; omega) (.inr ⟨rfl, by rw [hspec, hq, hI]; simp⟩)⟩
        | false =>
          refine cf rfl ?_
          refine ld1 8 rfl rfl ?_
          have hle3 := eat_len 44 u2
          have hlt3 := eat_lt 44 u2
          generalize hE3 : eatP 44 u2 = E at hle3 hlt3 hI
          obtain ⟨e3, u3⟩ := E
          dsimp only at hle3 hlt3 hI
          refine cU1 0 rfl (v := .bool e3) (c := rdC u3 false ((d + 1 : Nat) : Int)) (fun w h => by have := eat_any (s := u2) 44 (by omega) h; rw [hE3] at this; exact this) ?_
          cases e3 with
          | true =>
            have hlt := hlt3 rfl
            refine cf rfl ?_
            exact ⟨⟨ks ++ [(⟨name, j, cs⟩ : Pr)], r', a', cc', fun i => A i ∨ A' i, u3, false, m, name :: seen, es', clk'⟩, ⟨by dsimp only; omega, fun _ => by dsimp only; rw [hl1]; omega, by dsimp only; rw [hl1]; omega, by dsimp only; omega, hR', he', hz', hsn', .inr ⟨rfl, by rw [hq, hI]; simp only [List.map_append]; cases prsG V (name :: seen) m u3 <;> simp⟩⟩, by dsimp only [cond]; omega, ⟨rfl, rfl, rfl, trivial⟩, .cons (.cons (.cons (.cons (.cons (.cons (.cons (.cons (.cons (.cons .nil))))))))), rfl⟩
          | false =>
            refine ct rfl ?_
            refine ld1 8 rfl rfl ?_
            refine cU1 0 rfl (fun w h => fail_any h) ?_
            exact ⟨⟨ks ++ [(⟨name, j, cs⟩ : Pr)], r', a', cc', fun i => A i ∨ A' i, u3, true, m + 1, name :: seen, es', clk'⟩, ⟨by dsimp only; omega, (fun h => by cases h), by dsimp only; rw [hl1]; omega, by dsimp only; omega, hR', he', hz', hsn', .inl ⟨rfl, by rw [hq, hI]; rfl⟩⟩, by dsimp only [cond]; omega, ⟨rfl, rfl, rfl, trivial⟩, .cons (.cons (.cons (.cons (.cons (.cons (.cons (.cons (.cons (.cons .nil))))))))), rfl⟩
end
end Go.Proofs.YtpegkoklmhccjaaDoor
end
section
namespace Go.Proofs.YtpegkoklmhccjaaDoor
open Go.RowKit Go.Sx
set_option linter.unusedVariables false
section
variable {b : Nat} {t : Bs} {d : Nat} {w : World}
set_option maxRecDepth 100000 in
theorem list_deep (hd : d = 8) (hl : t.length < 100000) (h : w.heap[b]? = some (.cells (rdC (91 :: t) false d) TRd (0, 0))) (hw : Laid w) : ValC 50 [pj b] none (91 :: t) b d w := by
  refine enterVC tab_ok Tryd.func50 rfl Tryd.ntmps50 rfl (St.rdH h hw) ?_
  intro b1 b2
  refine bu (c := valC 4 0 []) rfl ?_
  intro b3
  refine sN 5 rfl rfl (by simp [Value.oneCell']) ?_ (by kernel_rfl)
  refine ld1 3 rfl rfl ?_
  refine inl (C := ⟨Tryd.prog, tab, _, [bl b], w, _⟩) tab_ok Tryd.func66 rfl Tryd.ntmps66 rfl ?_
  intro b4
  refine ld1 6 rfl rfl ?_
  refine ld1 0 rfl rfl ?_
  refine .as ((d + 1 : Nat) : Int) (by omega) (by simp only [mn]; omega) (by simp only [mx]; omega) ?_
  refine s1 0 rfl (by show 2 < 3; decide) ?_
  refine ld1 6 rfl rfl ?_
  have he : eatP 91 (91 :: t) = (true, t) := eat_open 91 (by decide) t
  refine cU1 0 rfl (v := .bool true) (c := rdC t false ((d + 1 : Nat) : Int)) (fun w h => by have := eat_any (s := 91 :: t) 91 (by simp; omega) h; rw [he] at this; exact this) ?_
  iterate 1 refine ct rfl ?_
  refine ld1 6 rfl rfl ?_
  iterate 3 refine ct rfl ?_
  refine ld1 0 rfl rfl ?_
  refine ct rfl ?_
  refine cf rfl ?_
  refine ct (decide_eq_true (by omega)) ?_
  refine ld1 6 rfl rfl ?_
  refine cU1 0 rfl (fun w h => fail_any h) ?_
  refine ld1 6 rfl rfl ?_
  have hle := eat_len 93 t
  generalize hE : eatP 93 t = E at hle
  obtain ⟨e1, u⟩ := E
  dsimp only at hle
  refine cU1 0 rfl (v := .bool e1) (c := rdC u true ((d + 1 : Nat) : Int)) (fun w h => by have := eat_any (s := t) 93 (by omega) h; rw [hE] at this; exact this) ?_
  cases e1 with
  | true =>
    refine ct rfl ?_
    refine dfl (C := ⟨Tryd.prog, tab, _, [bl b], w, _⟩) tab_ok Tryd.func79 rfl Tryd.ntmps79 rfl rfl ?_
    refine ld1 6 rfl rfl ?_
    refine ld1 0 rfl rfl ?_
    refine .as (d : Int) (by omega) (by simp only [mn]; omega) (by simp only [mx]; omega) ?_
    refine s1 0 rfl (by show 2 < 3; decide) ?_
    refine ⟨rfl, bk ?_⟩
    refine bk ?_
    refine ldN 5 rfl rfl ?_
    refine sN 4 rfl rfl (by simp [Value.oneCell']) ?_ (by kernel_rfl)
    refine ldN 4 rfl rfl ?_

    exact ⟨fun w' hs => list_end hs.deads 1 6 (r := none) (ks := []) rfl rfl (Rw.nil 5) rfl (fun y hy => by simp at hy) (by decide) (by simp; omega) (.inl ⟨rfl, rfl⟩)⟩
  | false =>
    refine cf rfl ?_
    refine lp tab_ok (fun _ : Unit => True) (fun _ => ⟨[(4, pj b4)], [cl b (rdC u true ((d + 1 : Nat) : Int)) TRd, rs laidR, rs (heldR (fun _ => False) []), cl b1 #[pj b] 58, cl b2 (valC 0 0 []) TV, cl b3 (valC 4 0 []) TV, cl b4 #[pj b] 58], [⟨.fn (.func 79) #[pj b4], #[]⟩]⟩) (fun _ => 0) () trivial ⟨⟨rfl, trivial⟩, .cons (.cons (.cons (.cons (.cons (.cons (.cons .nil)))))), rfl⟩ ?_
    rintro ⟨⟩ _
    refine ld1 6 rfl rfl ?_
    refine ld1 0 rfl (v := .bool true) rfl ?_
    refine cf rfl ?_
    refine dfl (C := ⟨Tryd.prog, tab, _, [bl b], w, _⟩) tab_ok Tryd.func79 rfl Tryd.ntmps79 rfl rfl ?_
    refine ld1 6 rfl rfl ?_
    refine ld1 0 rfl rfl ?_
    refine .as (d : Int) (by omega) (by simp only [mn]; omega) (by simp only [mx]; omega) ?_
    refine s1 0 rfl (by show 2 < 3; decide) ?_
    refine ⟨rfl, bk ?_⟩
    refine bk ?_
    refine ldN 5 rfl rfl ?_
    refine sN 4 rfl rfl (by simp [Value.oneCell']) ?_ (by kernel_rfl)
    refine ldN 4 rfl rfl ?_

    exact ⟨fun w' hs => list_end hs.deads 1 6 (r := none) (ks := []) rfl rfl (Rw.nil 5) rfl (fun y hy => by simp at hy) (by decide) (by simp; omega) (.inl ⟨rfl, rfl⟩)⟩
end
section
variable {b : Nat} {t : Bs} {d : Nat} {w : World}
set_option maxRecDepth 100000 in
set_option maxHeartbeats 4000000 in
theorem object_deep (hd : d = 8) (hl : t.length < 100000) (h : w.heap[b]? = some (.cells (rdC (123 :: t) false d) TRd (0, 0))) (hw : Laid w) : ValC 51 [pj b] none (123 :: t) b d w := by
  refine enterVC tab_ok Tryd.func51 rfl Tryd.ntmps51 rfl (St.rdH h hw) ?_
  intro b1 b2
  refine bu (c := valC 5 0 []) rfl ?_
  intro b3
  refine sN 5 rfl rfl (by simp [Value.oneCell']) ?_ (by kernel_rfl)
  refine mkm (keS : Bs → Value) (fun bm => ?_)
  intro b4
  refine s1 7 rfl (by show 0 < 1; decide) ?_
  refine ld1 3 rfl rfl ?_
  refine inl (C := ⟨Tryd.prog, tab, _, [bl b], w, _⟩) tab_ok Tryd.func66 rfl Tryd.ntmps66 rfl ?_
  intro b5
  refine ld1 8 rfl rfl ?_
  refine ld1 0 rfl rfl ?_
  refine .as ((d + 1 : Nat) : Int) (by omega) (by simp only [mn]; omega) (by simp only [mx]; omega) ?_
  refine s1 0 rfl (by show 2 < 3; decide) ?_
  refine ld1 8 rfl rfl ?_
  have he : eatP 123 (123 :: t) = (true, t) := eat_open 123 (by decide) t
  refine cU1 0 rfl (v := .bool true) (c := rdC t false ((d + 1 : Nat) : Int)) (fun w h => by have := eat_any (s := 123 :: t) 123 (by simp; omega) h; rw [he] at this; exact this) ?_
  iterate 1 refine ct rfl ?_
  refine ld1 8 rfl rfl ?_
  iterate 3 refine ct rfl ?_
  refine ld1 0 rfl rfl ?_
  refine ct rfl ?_
  refine cf rfl ?_
  refine ct (decide_eq_true (by omega)) ?_
  refine ld1 8 rfl rfl ?_
  refine cU1 0 rfl (fun w h => fail_any h) ?_
  refine ld1 8 rfl rfl ?_
  have hle := eat_len 125 t
  generalize hE : eatP 125 t = E at hle
  obtain ⟨e1, u⟩ := E
  dsimp only at hle
  refine cU1 0 rfl (v := .bool e1) (c := rdC u true ((d + 1 : Nat) : Int)) (fun w h => by have := eat_any (s := t) 125 (by omega) h; rw [hE] at this; exact this) ?_
  cases e1 with
  | true =>
    refine ct rfl ?_
    refine dfl (C := ⟨Tryd.prog, tab, _, [bl b], w, _⟩) tab_ok Tryd.func79 rfl Tryd.ntmps79 rfl rfl ?_
    refine ld1 8 rfl rfl ?_
    refine ld1 0 rfl rfl ?_
    refine .as (d : Int) (by omega) (by simp only [mn]; omega) (by simp only [mx]; omega) ?_
    refine s1 0 rfl (by show 2 < 3; decide) ?_
    refine ⟨rfl, bk ?_⟩
    refine bk ?_
    refine ldN 5 rfl rfl ?_
    refine sN 4 rfl rfl (by simp [Value.oneCell']) ?_ (by kernel_rfl)
    refine ldN 4 rfl rfl ?_

    exact ⟨fun w' hs => object_end hs.deads 1 8 (r := none) (ks := []) rfl rfl (Rw.nil 6) rfl (fun y hy => by simp at hy) (by decide) (by simp; omega) (.inl ⟨rfl, rfl⟩)⟩
  | false =>
    refine cf rfl ?_
    refine lp tab_ok (fun _ : Unit => True) (fun _ => ⟨[(4, pj b5)], [cl b (rdC u true ((d + 1 : Nat) : Int)) TRd, rs laidR, rs (heldR (fun _ => False) []), cl b1 #[pj b] 58, cl b2 (valC 0 0 []) TV, cl b3 (valC 5 0 []) TV, me bm (keS : Bs → Value) [] 0, cl b4 #[.map (some bm)] TMb, cl b5 #[pj b] 58], [⟨.fn (.func 79) #[pj b5], #[]⟩]⟩) (fun _ => 0) () trivial ⟨⟨rfl, trivial⟩, .cons (.cons (.cons (.cons (.cons (.cons (.cons (.cons (.cons .nil)))))))), rfl⟩ ?_
    rintro ⟨⟩ _
    refine ld1 8 rfl rfl ?_
    refine ld1 0 rfl (v := .bool true) rfl ?_
    refine cf rfl ?_
    refine dfl (C := ⟨Tryd.prog, tab, _, [bl b], w, _⟩) tab_ok Tryd.func79 rfl Tryd.ntmps79 rfl rfl ?_
    refine ld1 8 rfl rfl ?_
    refine ld1 0 rfl rfl ?_
    refine .as (d : Int) (by omega) (by simp only [mn]; omega) (by simp only [mx]; omega) ?_
    refine s1 0 rfl (by show 2 < 3; decide) ?_
    refine ⟨rfl, bk ?_⟩
    refine bk ?_
    refine ldN 5 rfl rfl ?_
    refine sN 4 rfl rfl (by simp [Value.oneCell']) ?_ (by kernel_rfl)
    refine ldN 4 rfl rfl ?_

    exact ⟨fun w' hs => object_end hs.deads 1 8 (r := none) (ks := []) rfl rfl (Rw.nil 6) rfl (fun y hy => by simp at hy) (by decide) (by simp; omega) (.inl ⟨rfl, rfl⟩)⟩
end
end Go.Proofs.YtpegkoklmhccjaaDoor
end
section
namespace Go.Proofs.YtpegkoklmhccjaaDoor
open Go.RowKit Go.Sx
set_option linter.unusedVariables false
theorem leaf_end {L : List Ent} {w w' : World} {b : Nat} {d : Int} {u : Bs} {bad : Bool} {o : Option (JV × Bs)} {s : Bs} {k i : Int} {l : Bs} (hs : St [bl b] w w' (cl b (rdC u bad d) TRd :: L)) (hu : u.length ≤ s.length) (ho : (o = none ∧ bad = true) ∨ (o = some (.mk k i l [] [], u) ∧ bad = false)) :
    ∃ x : VO, VF o s x ∧ Value.agg (valC k i l) = .agg x.cs.toArray ∧ Upd b (rdC x.t x.bad d) TRd w w' ∧ ∃ A : Nat → Prop, (∀ k, A k → w.heap.size ≤ k) ∧ Held w' A [(x.j, x.cs)] :=
  ⟨⟨.mk k i l [] [], vcl k i l (.slice none 0 0) (.slice none 0 0), u, bad⟩, ⟨hu, ho⟩, rfl, hs.updU, fun _ => False, fun k h => h.elim, held_leaf ..⟩
theorem held_end {L : List Ent} {w w' : World} {b : Nat} {d : Int} {u : Bs} {bad : Bool} {o : Option (JV × Bs)} {s : Bs} {j : JV} {cs : List Value} {A : Nat → Prop} (hs : St [bl b] w w' (cl b (rdC u bad d) TRd :: L)) (k : Nat) (hk : L[k]? = some (rs (heldR A [(j, cs)]))) (hu : VF o s ⟨j, cs, u, bad⟩) :
    ∃ x : VO, VF o s x ∧ Value.agg cs.toArray = .agg x.cs.toArray ∧ Upd b (rdC x.t x.bad d) TRd w w' ∧ ∃ A : Nat → Prop, (∀ k, A k → w.heap.size ≤ k) ∧ Held w' A [(x.j, x.cs)] :=
  ⟨⟨j, cs, u, bad⟩, hu, rfl, hs.updU, A, fun i hi => St.fresh hs hk i ((rsW _ _).2 hi), hs.res (k := k + 1) (by simpa using hk)⟩
section
variable {b : Nat} {d : Nat}
set_option maxRecDepth 100000 in
set_option maxHeartbeats 4000000 in
theorem value_of {ls os : Bs → Option (JV × Bs)} (hL : ∀ t w, t.length < 100000 → w.heap[b]? = some (.cells (rdC (91 :: t) false d) TRd (0, 0)) → Laid w → ValC 50 [pj b] (ls t) (91 :: t) b d w)
    (hO : ∀ t w, t.length < 100000 → w.heap[b]? = some (.cells (rdC (123 :: t) false d) TRd (0, 0)) → Laid w → ValC 51 [pj b] (os t) (123 :: t) b d w) : VIs (valS ls os) b d := by
  intro s w hl h hw
  have hws := ws_len s
  cases hs : ws s with
  | nil =>
    have : valS ls os s = none := by unfold valS; rw [hs]
    rw [this]; exact value_fail (.inl hs) hl h
  | cons c t =>
    have hc := c.toNat_lt
    rw [hs] at hws
    have hsp : valS ls os s = valT ls os c t := by unfold valS; rw [hs]
    unfold valT at hsp
    refine enterVC tab_ok Tryd.func26 rfl Tryd.ntmps26 rfl (St.rdL h hw) ?_
    intro b2
    have hb := fun w h => blanks_any (b := b) (s := s) (bad := false) (d := d) (w := w) hl h
    rw [hs] at hb
    refine cU1 0 rfl hb ?_
    refine ld1 0 rfl (v := sj (c :: t)) rfl ?_
    iterate 4 refine ct (ne0b c t) ?_
    refine ld1 0 rfl rfl ?_
    refine cf (ne0 c t) ?_
    refine cf rfl ?_
    refine ld1 0 rfl (v := sj (c :: t)) rfl ?_
    refine chL 0 rfl rfl ?_
    refine inl (C := ⟨Tryd.prog, tab, _, [bl b], w, _⟩) tab_ok Tryd.func34 rfl Tryd.ntmps34 rfl ?_
    intro b3
    have hct := hws
    by_cases c110 : c = 110
    · refine ct (ceT 110 rfl c110) ?_
      refine bk ?_
      refine inl (C := ⟨Tryd.prog, tab, _, [bl b], w, _⟩) tab_ok Tryd.func44 rfl Tryd.ntmps44 rfl ?_
      intro b4
      refine ld1 3 rfl rfl ?_
      cases hp : pre [110, 117, 108, 108] (c :: t) with
      | none =>
        refine cU1 0 rfl (fun w h => must_no [110, 117, 108, 108] hp h) ?_
        refine bu (c := valC 0 0 []) rfl ?_
        refine sN 4 rfl rfl (by simp [Value.oneCell']) ?_ (by kernel_rfl)
        refine ldN 4 rfl rfl ?_
        refine bk ?_
        refine sN 2 rfl rfl (by simp [Value.oneCell']) ?_ (by kernel_rfl)
        refine ldN 2 rfl rfl ?_
        exact ⟨fun w' hs => leaf_end hs hct (.inl ⟨by rw [hsp]; rw [if_pos c110]; rw [hp]; rfl, rfl⟩)⟩
      | some u =>
        have hu := pre_len _ _ _ hp
        refine cU1 0 rfl (fun w h => must_yes [110, 117, 108, 108] hp h) ?_
        refine bu (c := valC 0 0 []) rfl ?_
        refine sN 4 rfl rfl (by simp [Value.oneCell']) ?_ (by kernel_rfl)
        refine ldN 4 rfl rfl ?_
        refine bk ?_
        refine sN 2 rfl rfl (by simp [Value.oneCell']) ?_ (by kernel_rfl)
        refine ldN 2 rfl rfl ?_
        exact ⟨fun w' hs => leaf_end hs (by omega) (.inr ⟨by rw [hsp]; rw [if_pos c110]; rw [hp]; rfl, rfl⟩)⟩
    · refine cf (ceF 110 rfl c110) ?_
      by_cases c116 : c = 116
      · refine ct (ceT 116 rfl c116) ?_
        refine bk ?_
        refine inl (C := ⟨Tryd.prog, tab, _, [bl b], w, _⟩) tab_ok Tryd.func46 rfl Tryd.ntmps46 rfl ?_
        intro b4
        refine ld1 3 rfl rfl ?_
        cases hp : pre [116, 114, 117, 101] (c :: t) with
        | none =>
          refine cU1 0 rfl (fun w h => must_no [116, 114, 117, 101] hp h) ?_
          refine bu (c := valC 1 1 []) rfl ?_
          refine sN 4 rfl rfl (by simp [Value.oneCell']) ?_ (by kernel_rfl)
          refine ldN 4 rfl rfl ?_
          refine bk ?_
          refine sN 2 rfl rfl (by simp [Value.oneCell']) ?_ (by kernel_rfl)
          refine ldN 2 rfl rfl ?_
          exact ⟨fun w' hs => leaf_end hs hct (.inl ⟨by rw [hsp]; rw [if_neg c110, if_pos c116]; rw [hp]; rfl, rfl⟩)⟩
        | some u =>
          have hu := pre_len _ _ _ hp
          refine cU1 0 rfl (fun w h => must_yes [116, 114, 117, 101] hp h) ?_
          refine bu (c := valC 1 1 []) rfl ?_
          refine sN 4 rfl rfl (by simp [Value.oneCell']) ?_ (by kernel_rfl)
          refine ldN 4 rfl rfl ?_
          refine bk ?_
          refine sN 2 rfl rfl (by simp [Value.oneCell']) ?_ (by kernel_rfl)
          refine ldN 2 rfl rfl ?_
          exact ⟨fun w' hs => leaf_end hs (by omega) (.inr ⟨by rw [hsp]; rw [if_neg c110, if_pos c116]; rw [hp]; rfl, rfl⟩)⟩
      · refine cf (ceF 116 rfl c116) ?_
        by_cases c102 : c = 102
        · refine ct (ceT 102 rfl c102) ?_
          refine bk ?_
          refine inl (C := ⟨Tryd.prog, tab, _, [bl b], w, _⟩) tab_ok Tryd.func47 rfl Tryd.ntmps47 rfl ?_
          intro b4
          refine ld1 3 rfl rfl ?_
          cases hp : pre [102, 97, 108, 115, 101] (c :: t) with
          | none =>
            refine cU1 0 rfl (fun w h => must_no [102, 97, 108, 115, 101] hp h) ?_
            refine bu (c := valC 1 0 []) rfl ?_
            refine sN 4 rfl rfl (by simp [Value.oneCell']) ?_ (by kernel_rfl)
            refine ldN 4 rfl rfl ?_
            refine bk ?_
            refine sN 2 rfl rfl (by simp [Value.oneCell']) ?_ (by kernel_rfl)
            refine ldN 2 rfl rfl ?_
            exact ⟨fun w' hs => leaf_end hs hct (.inl ⟨by rw [hsp]; rw [if_neg c110, if_neg c116, if_pos c102]; rw [hp]; rfl, rfl⟩)⟩
          | some u =>
            have hu := pre_len _ _ _ hp
            refine cU1 0 rfl (fun w h => must_yes [102, 97, 108, 115, 101] hp h) ?_
            refine bu (c := valC 1 0 []) rfl ?_
            refine sN 4 rfl rfl (by simp [Value.oneCell']) ?_ (by kernel_rfl)
            refine ldN 4 rfl rfl ?_
            refine bk ?_
            refine sN 2 rfl rfl (by simp [Value.oneCell']) ?_ (by kernel_rfl)
            refine ldN 2 rfl rfl ?_
            exact ⟨fun w' hs => leaf_end hs (by omega) (.inr ⟨by rw [hsp]; rw [if_neg c110, if_neg c116, if_pos c102]; rw [hp]; rfl, rfl⟩)⟩
        · refine cf (ceF 102 rfl c102) ?_
          by_cases c34 : c = 34
          · refine ct (ceT 34 rfl c34) ?_
            refine bk ?_
            refine inl (C := ⟨Tryd.prog, tab, _, [bl b], w, _⟩) tab_ok Tryd.func48 rfl Tryd.ntmps48 rfl ?_
            intro b4
            refine ld1 3 rfl rfl ?_
            refine cUs (Φ := TxF (textP (c :: t)) (c :: t)) 0 rfl (fun w hs => text_any (by omega) (hs.nth (k := 0) rfl) (hs.res (k := 1) rfl)) ?_
            rintro ⟨l, u, bd⟩ ⟨hu, hx⟩
            dsimp only at hu hx ⊢
            refine bu (c := valC 3 0 l) rfl ?_
            refine sN 4 rfl rfl (by simp [Value.oneCell']) ?_ (by kernel_rfl)
            refine ldN 4 rfl rfl ?_
            refine bk ?_
            refine sN 2 rfl rfl (by simp [Value.oneCell']) ?_ (by kernel_rfl)
            refine ldN 2 rfl rfl ?_
            refine ⟨fun w' hs => leaf_end hs (by omega) ?_⟩
            rcases hx with ⟨hx, rfl, rfl⟩ | ⟨hx, rfl⟩
            · exact .inl ⟨by rw [hsp]; rw [if_neg c110, if_neg c116, if_neg c102, if_pos c34]; rw [hx]; rfl, rfl⟩
            · exact .inr ⟨by rw [hsp]; rw [if_neg c110, if_neg c116, if_neg c102, if_pos c34]; rw [hx]; rfl, rfl⟩
          · refine cf (ceF 34 rfl c34) ?_
            by_cases c91 : c = 91
            · refine ct (ceT 91 rfl c91) ?_
              refine ld1 3 rfl rfl ?_
              refine bk ?_
              subst c91
              refine cUV 0 rfl rfl (fun w hs => hL t w (by simp at hct; omega) (hs.nth (k := 0) rfl) (hs.res (k := 1) rfl)) (fun x A w0 hx hH => ?_)
              obtain ⟨j, cs, u, bd⟩ := x
              have hcs := hH.2 _ (List.mem_singleton.2 rfl)
              have hc5 := hcs.len
              have hc1 := hcs.one
              obtain ⟨hu, hx⟩ := hx
              dsimp only at hc5 hc1 hu hx ⊢
              refine sN 2 rfl (by rw [List.size_toArray, hc5]; rfl) (by simpa using hc1) ?_ (by rw [List.size_toArray, hc5]; kernel_rfl)
              refine ldN 2 rfl (by rw [List.size_toArray, hc5]) ?_
              exact ⟨fun w' hs => held_end hs 3 rfl ⟨by dsimp only; omega, by rw [hsp]; rw [if_neg (by decide), if_neg (by decide), if_neg (by decide), if_neg (by decide), if_pos rfl]; exact hx⟩⟩
            · refine cf (ceF 91 rfl c91) ?_
              by_cases c123 : c = 123
              · refine ct (ceT 123 rfl c123) ?_
                refine ld1 3 rfl rfl ?_
                refine bk ?_
                subst c123
                refine cUV 0 rfl rfl (fun w hs => hO t w (by simp at hct; omega) (hs.nth (k := 0) rfl) (hs.res (k := 1) rfl)) (fun x A w0 hx hH => ?_)
                obtain ⟨j, cs, u, bd⟩ := x
                have hcs := hH.2 _ (List.mem_singleton.2 rfl)
                have hc5 := hcs.len
                have hc1 := hcs.one
                obtain ⟨hu, hx⟩ := hx
                dsimp only at hc5 hc1 hu hx ⊢
                refine sN 2 rfl (by rw [List.size_toArray, hc5]; rfl) (by simpa using hc1) ?_ (by rw [List.size_toArray, hc5]; kernel_rfl)
                refine ldN 2 rfl (by rw [List.size_toArray, hc5]) ?_
                exact ⟨fun w' hs => held_end hs 3 rfl ⟨by dsimp only; omega, by rw [hsp]; rw [if_neg (by decide), if_neg (by decide), if_neg (by decide), if_neg (by decide), if_neg (by decide), if_pos rfl]; exact hx⟩⟩
              · refine cf (ceF 123 rfl c123) ?_
                refine ld1 3 rfl rfl ?_
                refine bk ?_
                refine cU (Φ := NumF (c :: t)) 0 rfl (fun w h => number_any (by simp) (by omega) h) ?_
                rintro ⟨k, i, u, bd⟩ ⟨hu, hk, hi, hx⟩
                dsimp only at hu hk hi hx ⊢
                refine sN 2 rfl rfl (by simp [Value.oneCell']) ?_ (by kernel_rfl)
                refine ldN 2 rfl rfl ?_
                refine ⟨fun w' hs => leaf_end hs (by omega) ?_⟩
                rcases hx with ⟨rfl, hx⟩ | ⟨rfl, rfl, hx⟩
                · exact .inl ⟨by rw [hsp]; rw [if_neg c110, if_neg c116, if_neg c102, if_neg c34, if_neg c91, if_neg c123]; rw [hx]; rfl, rfl⟩
                · exact .inr ⟨by rw [hsp]; rw [if_neg c110, if_neg c116, if_neg c102, if_neg c34, if_neg c91, if_neg c123]; rw [hx]; rfl, rfl⟩
end
end Go.Proofs.YtpegkoklmhccjaaDoor
end
section
namespace Go.Proofs.YtpegkoklmhccjaaDoor
open Go.RowKit Go.Sx
set_option linter.unusedVariables false

theorem undST : Tryd.prog.underlying 9 = some .string := by kernel_rfl
theorem undU8 : Tryd.prog.underlying 5 = some (.int .u8) := by kernel_rfl
abbrev VS (l : List UInt8) : Value := .string ⟨l.toArray⟩
/-- an error by its number -/
def ErrN (n : Nat) : Value := .iface 46 (.int .i64 n)
/-- an error or none -/
def errV (n : Nat) : Value := if n = 0 then .nilIface else ErrN n
theorem errV0 : errV 0 = .nilIface := rfl
theorem errVs (n : Nat) (h : n ≠ 0) : errV n = ErrN n := if_neg h
theorem size_mk (l : List UInt8) : (ByteArray.mk l.toArray).size = l.length := by simp [ByteArray.size]
theorem bs2 (x y : Int) (w : World) : (Instr.buildSlice 38 2 #[(0, .int .u8 x), (1, .int .u8 y)]).run Tryd.prog w = .ok (.slice (some ⟨w.heap.size, 0, none⟩) 2 2) (w.alloc (.cells #[.int .u8 x, .int .u8 y] 5)) := by
  obtain ⟨i, hi, hz, hs, hb⟩ := infoOf info5
  exact run_buildSlice w _ _ 2 _ #[.int .u8 x, .int .u8 y] i (.int .u8 0) und22 hi hz (by rw [hs]; decide) (by rw [hs]; decide) (by rw [hs]; kernel_rfl)
theorem bsl0 (w : World) : (Instr.buildSlice 38 0 #[]).run Tryd.prog w = .ok (.slice (some ⟨w.heap.size, 0, none⟩) 0 0) (w.alloc (.cells #[] 5)) := by
  obtain ⟨i, hi, hz, hs, hb⟩ := infoOf info5
  simp [Instr.buildSlice, run_underlying und22, sizeOf, typeInfo, hi, newRow, Instr.fill]
  exact congrArg (fun c => w.alloc (.cells c 5)) (Array.ext' (by simp))
theorem madeU8 (w : World) {P : Program} {t e : TypeId} (ht : P.underlying t = some (.slice e)) (hi : (P.info? e).map (fun i => (i.zero, i.size, i.bytes)) = some (some (.int .u8 0), 1, 1)) (l c : Nat) (hlc : l ≤ c) (hc : c ≤ 100000000) :
    (Instr.makeSlice t (.int .i64 (l : Int)) (.int .i64 (c : Int))).run P w = .ok (.slice (some ⟨w.heap.size, 0, none⟩) l c) (w.alloc (.cells (List.replicate c (.int .u8 0)).toArray e)) := by
  obtain ⟨i, hi, hz, hs, hb⟩ := infoOf hi
  have h := run_make (P := P) w t e i _ ht hi hz .i64 .i64 (l : Int) (c : Int) (by omega) (by omega) (by rw [hb]; omega) (by omega)
  rw [hs] at h
  simp only [Int.toNat_natCast, Nat.mul_one] at h
  rw [h]
  congr 2
  simp only [madeCells]
  congr 1
  apply Array.ext
  · simp
  · intro i h1 h2
    simp [Value.cells, Nat.mod_one]
theorem one8 (l : List UInt8) : ∀ u ∈ Lib.byteCells l, u.oneCell' = true := by
  intro u hu
  obtain ⟨b, _, rfl⟩ := List.mem_map.1 hu
  rfl
theorem rd_at {w : World} {v : Value} {xs : List Value} (h : Rd w v xs) (hx : xs ≠ []) : ∃ b o c, v = .slice (some ⟨b, o, none⟩) xs.length c ∧ b < w.heap.size ∧ ∀ j u, xs[j]? = some u → w.cell? ⟨b, o + j, none⟩ = some u := by
  obtain ⟨a, c, h0, h1⟩ := h
  obtain ⟨b, o, rfl, h2, h3⟩ := h1 hx
  exact ⟨b, o, c, h0, h2, h3⟩
theorem rd_nil (w : World) (a : Option Addr) (c : Nat) : Rd w (.slice a 0 c) (Lib.byteCells []) := ⟨a, c, rfl, fun h => absurd rfl h⟩
theorem rd_str {w : World} {v : Value} {l : List UInt8} (h : Rd w v (Lib.byteCells l)) : (convert 38 9 v).run Tryd.prog w = .ok (VS l) w := by
  obtain ⟨a, c, rfl, h1⟩ := h
  rw [Lib.byteCells_length]
  by_cases h0 : l = []
  · subst h0
    cases a with
    | none => exact run_convert_bytes_nil w _ _ und22 undU8 0 c _ undST
    | some a => exact run_convert_bytes_back w _ _ _ a c [] und22 undU8 undST (fun j hj => by cases hj)
  · obtain ⟨b, o, rfl, _, hc⟩ := h1 (by intro h; apply h0; have := congrArg List.length h; rw [Lib.byteCells_length] at this; exact List.eq_nil_of_length_eq_zero this)
    exact run_convert_bytes_back w _ _ _ _ c l und22 undU8 undST (fun j hj => by rw [addr_add]; exact hc j _ (by simp [Lib.byteCells, hj]))
/-- a constant text against another -/
theorem const_beq (a b : ByteArray) : (a.toList == b.toList) = decide (a.data.toList = b.data.toList) := by
  have := list_beq a.data.toList b.data.toList
  simpa using this
theorem assertN (n : Nat) (w : World) : (Instr.typeAssert (ErrN n) 41 46 true).run Tryd.prog w = .ok (.tuple #[.int .i64 n, .bool true]) w := by
  kernel_rfl
set_option maxRecDepth 100000 in
theorem num_any (n : Nat) (w : World) : Calls Tryd.prog 15 ([errV n] : List Value).toArray w fun e w' => e = .returned (.int .i64 n) ∧ Below w.heap.size w w' := by
  refine enterV tab_ok Tryd.func15 rfl Tryd.ntmps15 rfl (St.start w) ?_
  by_cases h0 : n = 0
  · subst h0
    refine ct rfl ?_
    exact rt rfl
  rw [errVs n h0]
  refine cf rfl ?_
  refine semV (fun w _ => assertN n w) ?_
  refine ct rfl ?_
  refine ct rfl ?_
  refine ct rfl ?_
  refine ct (bne_iff_ne.2 (by omega)) ?_
  exact rt rfl
set_option maxRecDepth 100000 in
theorem is_any (n m : Nat) (w : World) : Calls Tryd.prog 16 ([errV n, .int .i64 m] : List Value).toArray w fun e w' => e = .returned (.bool (decide (n = m))) ∧ Below w.heap.size w w' := by
  refine enterV tab_ok Tryd.func16 rfl Tryd.ntmps16 rfl (St.start w) ?_
  refine cv (num_any n) ?_
  refine rt (congrArg Value.bool ?_)
  rw [Bool.eq_iff_iff, beq_iff_eq, decide_eq_true_eq]; omega
/-- the marks -/
def marks : List Value := [.int .u8 165, .int .u8 90]
set_option maxRecDepth 100000 in
/-- a copy of bytes, with marks behind it -/
theorem copy_any (v : Value) (x : List UInt8) (hx : x.length ≤ 1000000) (w : World) (hv : Rd w v (Lib.byteCells x)) : Calls Tryd.prog 17 ([v] : List Value).toArray w fun e w' =>
    ∃ b c j, e = .returned (sv (some (b, c, marks ++ j)) x.length) ∧ Rw 1 x.length (some (b, c, marks ++ j)) (Lib.byteCells x) ∧ w.heap.size ≤ b ∧ w'.heap[b]? = some (.cells (Lib.byteCells x ++ (marks ++ j)).toArray 5 (0, 0)) ∧ Below w.heap.size w w' := by
  have hv0 := hv
  obtain ⟨va, vc, rfl, _⟩ := hv
  rw [Lib.byteCells_length] at hv0 ⊢
  refine (enter tab_ok Tryd.func17 rfl Tryd.ntmps17 rfl (St.start w) (R := fun v w' => ∃ b c j, v = sv (some (b, c, marks ++ j)) x.length ∧ Rw 1 x.length (some (b, c, marks ++ j)) (Lib.byteCells x) ∧ w.heap.size ≤ b ∧ w'.heap[b]? = some (.cells (Lib.byteCells x ++ (marks ++ j)).toArray 5 (0, 0)) ∧ Below w.heap.size w w') ?_).mono (fun e w' ⟨v, he, b, c, j, h1, h2⟩ => ⟨b, c, j, by rw [he, h1], h2⟩)
  refine .as ((x.length + 2 : Nat) : Int) (by simp) (by simp only [mn]; omega) (by simp only [mx]; omega) ?_
  refine .mk 0 (x.length + 2) _ _ (fun w => madeU8 w und22 info5 0 (x.length + 2) (Nat.zero_le _) (by omega)) (fun b1 => ?_)
  refine ap (r := some (b1, x.length + 2, List.replicate (x.length + 2) (.int .u8 0))) (xs := []) (n := 0) (m := (Lib.byteCells x).length) (news := Lib.byteCells x) 0 tab_ok rfl info5 rfl rfl ⟨rfl, Nat.zero_le _, by unfold maxLen; omega, by simp⟩ (fun w' hs => (hv0.below hs.below).src und22 (one8 x)) (by rw [Lib.byteCells_length]; omega) (by rw [Lib.byteCells_length]; unfold maxLen; omega) (fun r1 hR1 => ?_)
  refine .mk _ _ (bs2 165 90) (fun b2 => ?_)
  refine ap 0 (news := marks) (m := 2) tab_ok rfl info5 rfl rfl hR1 (srcE (C := ⟨Tryd.prog, tab, 14, [], w, none⟩) (e' := 5) (tx := 38) (z := 1) rfl tab_ok (src 1 rfl rfl) rfl (by simp [marks, Value.oneCell'])) (by rw [Lib.byteCells_length]; omega) (by rw [Lib.byteCells_length]; unfold maxLen; omega) (fun r2 hR2 => ?_)
  rw [Lib.byteCells_length] at hR2
  rw [Lib.byteCells_length]
  cases r2 with
  | none => have := hR2.2; simp only at this; omega
  | some p =>
    obtain ⟨b, c, j⟩ := p
    obtain ⟨h1, h2, h3, h4⟩ := hR2
    refine slTo (by rintro a h; obtain rfl := Option.some.inj h; rfl) (by omega) h2 ?_
    refine ⟨fun w1 hs => ⟨b, c, j, rfl, ⟨by rw [Lib.byteCells_length]; omega, by omega, h3, by simpa using h4⟩, ?_, ?_, hs.below⟩⟩
    · rcases hs.own _ (List.mem_of_getElem? (i := 0) rfl) rfl rfl with h | h
      · exact h
      · simp at h
    · have := hs.nth (k := 0) rfl
      simpa using this
set_option maxRecDepth 100000 in
/-- a copy says what the bytes say, and its marks stand -/
theorem kept_yes {va vb : Value} {b c : Nat} {j : List Value} {x : List UInt8} (hx : x.length ≤ 1000000) (hva : va = sv (some (b, c, marks ++ j)) x.length) (hR : Rw 1 x.length (some (b, c, marks ++ j)) (Lib.byteCells x)) (w : World) (ha : w.heap[b]? = some (.cells (Lib.byteCells x ++ (marks ++ j)).toArray 5 (0, 0))) (hb : Rd w vb (Lib.byteCells x)) :
    Calls Tryd.prog 19 ([va, vb] : List Value).toArray w fun e w' => e = .returned (.bool true) ∧ Below w.heap.size w w' := by
  subst hva
  have hb0 := hb
  obtain ⟨a2, c2, rfl, _⟩ := hb
  rw [Lib.byteCells_length] at hb0 ⊢
  obtain ⟨h1, h2, h3, h4⟩ := hR
  have hc : x.length + 2 ≤ c := by
    have : (Lib.byteCells x ++ (marks ++ j)).length = c * 1 := h4
    simp [marks, Lib.byteCells_length] at this; omega
  have e1 : ((ByteArray.mk x.toArray).toList == (ByteArray.mk x.toArray).toList) = true := by simp
  refine enterV tab_ok Tryd.func19 rfl Tryd.ntmps19 rfl (St.reads1 ha) ?_
  refine semV (fun w' hs => rd_str (l := x) (Rd.ent hs 0 (n := x.length) rfl (by rw [Lib.byteCells_length]) (by simp [Lib.byteCells_length]))) ?_
  refine semV (fun w' hs => rd_str (hb0.below hs.below)) ?_
  have e2 : ((!((ByteArray.mk x.toArray).toList == (ByteArray.mk x.toArray).toList)) == false) = true := by rw [e1]; rfl
  refine ct e2 ?_
  refine ct e2 ?_
  refine ct e2 ?_
  refine ct e2 ?_
  refine ct e2 ?_
  refine .as ((x.length + 2 : Nat) : Int) (by simp) (by simp only [mn]; omega) (by simp only [mx]; omega) ?_
  refine ct e2 ?_
  refine cf (by rw [e1]; rfl) ?_
  refine cf (decide_eq_false (by omega)) ?_
  refine .as ((x.length + 2 : Nat) : Int) (by simp) (by simp only [mn]; omega) (by simp only [mx]; omega) ?_
  refine ⟨.mk 0 (x.length + 2) c rfl rfl rfl (Nat.zero_le _) hc (Nat.le_refl _) (by simp) ?_⟩
  refine .on (by omega) ?_
  refine ⟨by omega, by omega, ?_⟩
  refine ld1 0 rfl (v := .int .u8 165) (by rw [nad_eq, nmu_eq]; simp [nad_eq, nmu_eq, marks, Lib.byteCells_length]) ?_
  refine ct rfl ?_
  refine ct rfl ?_
  refine ct rfl ?_
  refine ct rfl ?_
  refine .as ((x.length + 1 : Nat) : Int) (by simp) (by simp only [mn]; omega) (by simp only [mx]; omega) ?_
  refine ct rfl ?_
  refine ⟨by omega, by omega, ?_⟩
  refine ct rfl ?_
  refine ld1 0 rfl (v := .int .u8 90) (by rw [nad_eq, nmu_eq]; simp [nad_eq, nmu_eq, marks, Lib.byteCells_length]) ?_
  refine ct rfl ?_
  refine ct rfl ?_
  exact rt rfl


def overL (x : List UInt8) (i : Nat) : List Value := Lib.byteCells ((x.take i).map (· ^^^ 255)) ++ Lib.byteCells (x.drop i)
theorem overL_len (x : List UInt8) (i : Nat) : (overL x i).length = x.length := by simp [overL, Lib.byteCells_length]; omega
theorem over_get (x : List UInt8) (i : Nat) (h : i < x.length) (j : List Value) : (overL x i ++ j).toArray[i]? = some (.int .u8 (x[i].toNat : Nat)) := by
  have h1 : (Lib.byteCells ((x.take i).map (· ^^^ 255))).length = i := by simp [Lib.byteCells_length]; omega
  unfold overL
  simp only [List.getElem?_toArray, List.append_assoc]
  rw [List.getElem?_append_right (by omega), h1, Nat.sub_self, List.drop_eq_getElem_cons h]
  rfl
theorem over_set (x : List UInt8) (i : Nat) (h : i < x.length) (j : List Value) : (overL x i ++ j).toArray.setIfInBounds i (.int .u8 ((x[i] ^^^ 255).toNat : Nat)) = (overL x (i + 1) ++ j).toArray := by
  have h1 : (Lib.byteCells ((x.take i).map (· ^^^ 255))).length = i := by simp [Lib.byteCells_length]; omega
  apply Array.ext'
  unfold overL
  simp only [Array.toList_setIfInBounds, List.append_assoc]
  rw [List.set_append_right _ _ (by omega), h1, Nat.sub_self, List.drop_eq_getElem_cons h, List.take_succ_eq_append_getElem h, List.map_append, Lib.byteCells_append, List.append_assoc]
  rfl
theorem xor255 (c : UInt8) : bitI .xor .u8 (c.toNat : Int) 255 = ((c ^^^ 255).toNat : Nat) := by
  have : ∀ n, n < 256 → bitI .xor .u8 ((UInt8.ofNat n).toNat : Int) 255 = ((UInt8.ofNat n ^^^ 255).toNat : Nat) := by decide +kernel
  have h := this c.toNat (UInt8.toNat_lt c)
  simpa using h
section
variable {N : Nat} {M : Bks} {B : World} {F : Option Nat} {L : List Ent} {next : Value → List Ent → Prop}
set_option maxRecDepth 100000 in
/-- bytes of one's own are written over -/
theorem over_in (k : Nat) {r : Sx.Own} {x : List UInt8} (hk : L[k]? = some (se r (Lib.byteCells x) 5)) (hR : Rw 1 x.length r (Lib.byteCells x)) (hx : x.length ≤ 1000000) (go : next (.tuple #[]) (L.set k dead)) :
    CallP ⟨Tryd.prog, tab, N, M, B, F⟩ 20 [sv r x.length] L next := by
  have hkl : k < L.length := (List.getElem?_eq_some_iff.1 hk).1
  cases r with
  | none =>
    have h0 : x.length = 0 := hR.2
    rw [h0]
    refine inl (C := ⟨Tryd.prog, tab, N, M, B, F⟩) tab_ok Tryd.func20 rfl Tryd.ntmps20 rfl ?_
    refine lp tab_ok (fun x : Unit => True) (fun _ => ⟨[(0, .slice none 0 0), (3, .slice none 0 0), (4, .int .i64 0), (5, .int .i64 0)], L, []⟩) (fun _ => 0) () trivial ⟨⟨rfl, rfl, rfl, rfl, trivial⟩, Sub.refl L, rfl⟩ ?_
    intro _ _
    refine cf rfl ?_
    rw [show L.set k dead = L from set_same hk] at go
    exact bk go
  | some p =>
    obtain ⟨b, c, j⟩ := p
    refine inl (C := ⟨Tryd.prog, tab, N, M, B, F⟩) tab_ok Tryd.func20 rfl Tryd.ntmps20 rfl ?_
    refine lp tab_ok (fun i : Nat => i ≤ x.length) (fun i => ⟨[(0, .slice (some ⟨b, 0, none⟩) x.length c), (4, .int .i64 x.length), (5, .int .i64 i)], L.set k (cl b (overL x i ++ j).toArray 5), []⟩) (fun i => x.length - i) 0 (Nat.zero_le _)
      ⟨⟨rfl, rfl, rfl, trivial⟩, ?_, rfl⟩ ?_
    · have e1 : overL x 0 = Lib.byteCells x := by simp [overL, Lib.byteCells]
      rw [e1]
      have := set_same hk
      rw [show cl b (Lib.byteCells x ++ j).toArray 5 = se (some (b, c, j)) (Lib.byteCells x) 5 from rfl, this]
      exact Sub.refl L
    intro i hi
    have hat : (L.set k (cl b (overL x i ++ j).toArray 5))[k]? = some (cl b (overL x i ++ j).toArray 5) := by simp [hkl]
    refine cd (fun h => ?_) (fun h => ?_)
    · have hlt : i < x.length := by omega
      refine ⟨by omega, by omega, ?_⟩
      have eo : nad 0 (nmu ((i : Nat) : Int).toNat 1) = i := by rw [nad_eq, nmu_eq]; simp
      refine ld1 k hat (v := .int .u8 (x[i].toNat : Nat)) (by rw [eo]; exact over_get x i hlt j) ?_
      refine ⟨by omega, by omega, ?_⟩
      refine s1 k hat (by rw [eo]; simp [overL_len]; omega) ?_
      refine .as ((i + 1 : Nat) : Int) (by simp) (by simp only [mn]; omega) (by simp only [mx]; omega) ?_
      refine ⟨i + 1, by omega, by omega, ⟨⟨rfl, rfl, rfl, trivial⟩, ?_, rfl⟩⟩
      rw [eo, xor255, List.set_set, over_set x i hlt j]
      exact Sub.refl _
    · refine bkS ?_ go
      have : L.set k dead = (L.set k (cl b (overL x i ++ j).toArray 5)).set k dead := by rw [List.set_set]
      rw [this]
      exact sub_dead k
end
end Go.Proofs.YtpegkoklmhccjaaDoor
end
section
namespace Go.Proofs.YtpegkoklmhccjaaDoor
open Go.RowKit Go.Sx
set_option linter.unusedVariables false
theorem value_any (b : Nat) : ∀ (r d : Nat), d + r = 8 → VIs (jvD r) b d := by
  intro r
  induction r with
  | zero =>
    intro d hd
    exact value_of (fun t w hl h hw => list_deep (by omega) hl h hw) fun t w hl h hw => object_deep (by omega) hl h hw
  | succ r ih =>
    intro d hd
    have hV := ih (d + 1) (by omega)
    exact value_of (fun t w hl h hw => list_any (by omega) hV hl h hw) fun t w hl h hw => object_any (by omega) hV hl h hw
/-- the value of a text -/
def parseP (l : Bs) : Option JV := match jvD 8 l with
  | none => none
  | some (j, u) => if ws u = [] then some j else none
structure PO where
  j : JV
  cs : List Value
  code : Nat
def PF (l : Bs) (x : PO) : Prop := (4096 < l.length ∧ x.code = 10 ∧ x.j = .mk 0 0 [] [] []) ∨ (l.length ≤ 4096 ∧ parseP l = none ∧ x.code = 1 ∧ x.j = .mk 0 0 [] [] []) ∨ (l.length ≤ 4096 ∧ parseP l = some x.j ∧ x.code = 0)
set_option maxRecDepth 100000 in
theorem parse_any (v : Value) (l : Bs) (hm : l.length ≤ maxLen) (w : World) (hv : Rd w v (Lib.byteCells l)) (hw : Laid w) : Calls Tryd.prog 14 ([v] : List Value).toArray w fun e w' => ∃ x : PO, PF l x ∧ e = .returned (.tuple #[.agg x.cs.toArray, errV x.code]) ∧ Below w.heap.size w w' ∧ ∃ A : Nat → Prop, (∀ k, A k → w.heap.size ≤ k) ∧ Held w' A [(x.j, x.cs)] := by
  obtain ⟨a, c, hv0, _⟩ := id hv
  rw [Lib.byteCells_length] at hv0
  refine (enter (R := fun u w' => ∃ x : PO, PF l x ∧ u = .tuple #[.agg x.cs.toArray, errV x.code] ∧ Below w.heap.size w w' ∧ ∃ A : Nat → Prop, (∀ k, A k → w.heap.size ≤ k) ∧ Held w' A [(x.j, x.cs)]) tab_ok (g := 14) Tryd.func14 rfl Tryd.ntmps14 (vs := [v]) rfl (St.laid hw) ?_).mono fun e w' ⟨u, he, x, hx, hu, h2⟩ => ⟨x, hx, by rw [he, hu], h2⟩
  subst hv0
  intro b2
  refine cd (fun h => ?_) (fun h => ?_)
  · refine bu (c := valC 0 0 []) rfl ?_
    refine sN 1 rfl rfl (by simp [Value.oneCell']) ?_ (by kernel_rfl)
    refine ldN 1 rfl rfl ?_
    exact ⟨fun w' hs => ⟨⟨.mk 0 0 [] [] [], vcl 0 0 [] (.slice none 0 0) (.slice none 0 0), 10⟩, .inl ⟨by omega, rfl, rfl⟩, rfl, hs.below, fun _ => False, fun k h => h.elim, held_leaf ..⟩⟩
  · have hl4 : l.length ≤ 4096 := by omega
    refine semV (v := sj l) (fun w' hs => rd_str (hv.below hs.below)) ?_
    refine bu (c := rdC l false 0) rfl ?_
    intro b4
    refine cUV 2 rfl rfl (fun w hs => value_any b4 8 0 rfl l w (by omega) (hs.nth (k := 2) rfl) (hs.res (k := 0) rfl)) (fun x A w0 hx hH => ?_)
    obtain ⟨j, cs, u, bd⟩ := x
    have hcs := hH.2 _ (List.mem_singleton.2 rfl)
    have hc5 := hcs.len
    have hc1 := hcs.one
    obtain ⟨hu, hx⟩ := hx
    dsimp only at hc5 hc1 hu hx ⊢
    have hwu := ws_len u
    intro b5
    refine sN 4 rfl (by rw [List.size_toArray, hc5]; rfl) (by simpa using hc1) ?_ (by rw [List.size_toArray, hc5]; kernel_rfl)
    refine cU1 2 rfl (fun w h => blanks_any (by omega) h) ?_
    refine ld1 2 rfl (v := .bool bd) rfl ?_
    rcases hx with ⟨hx, rfl⟩ | ⟨hx, rfl⟩
    · have hq : parseP l = none := by unfold parseP; rw [hx]
      iterate 5 refine cf rfl ?_
      iterate 2 refine ct rfl ?_
      refine bu (c := valC 0 0 []) rfl ?_
      refine sN 1 rfl rfl (by simp [Value.oneCell']) ?_ (by kernel_rfl)
      refine ldN 1 rfl rfl ?_
      exact ⟨fun w' hs => ⟨⟨.mk 0 0 [] [] [], vcl 0 0 [] (.slice none 0 0) (.slice none 0 0), 1⟩, .inr (.inl ⟨hl4, hq, rfl, rfl⟩), rfl, hs.below, fun _ => False, fun k h => h.elim, held_leaf ..⟩⟩
    · iterate 4 refine ct rfl ?_
      refine ld1 2 rfl (v := sj (ws u)) rfl ?_
      refine ct rfl ?_
      refine cf rfl ?_
      cases hws : ws u with
      | nil =>
        have hq : parseP l = some j := by unfold parseP; rw [hx]; exact if_pos hws
        refine cf (by simp) ?_
        refine ldN 4 rfl (by rw [List.size_toArray, hc5]) ?_
        refine sN 1 rfl (by rw [List.size_toArray, hc5]; rfl) (by simpa using hc1) ?_ (by rw [List.size_toArray, hc5]; kernel_rfl)
        refine ldN 1 rfl (by rw [List.size_toArray, hc5]) ?_
        exact ⟨fun w' hs => ⟨⟨j, cs, 0⟩, .inr (.inr ⟨hl4, hq, rfl⟩), rfl, hs.below, A, fun i hi => (hs.ownW _ (List.mem_of_getElem? (i := 3) rfl) i ((rsW (heldR A [(j, cs)]) i).2 hi)).elim id (fun h => by simp at h), hs.res (k := 3) rfl⟩⟩
      | cons x t =>
        have hq : parseP l = none := by unfold parseP; rw [hx]; exact if_neg (by rw [hws]; simp)
        refine ct (by rw [ne0]; rfl) ?_
        refine bu (c := valC 0 0 []) rfl ?_
        refine sN 1 rfl rfl (by simp [Value.oneCell']) ?_ (by kernel_rfl)
        refine ldN 1 rfl rfl ?_
        exact ⟨fun w' hs => ⟨⟨.mk 0 0 [] [] [], vcl 0 0 [] (.slice none 0 0) (.slice none 0 0), 1⟩, .inr (.inl ⟨hl4, hq, rfl, rfl⟩), rfl, hs.below, fun _ => False, fun k h => h.elim, held_leaf ..⟩⟩
end Go.Proofs.YtpegkoklmhccjaaDoor
end
section
namespace Go.Proofs.YtpegkoklmhccjaaDoor
open Go.RowKit Go.Sx
set_option linter.unusedVariables false
/-- pairs that are read where they lie -/
structure PairsAt (w : World) (A : Nat → Prop) (p : List (Bs × JV)) (e : Nat → List Value) (vp : Value) : Prop where
  lt : ∀ k, A k → k < w.heap.size
  row : RowAt w A 6 p.length (pcl p e) vp
  vs : ∀ n q, p[n]? = some q → Rv w A q.2 (e n)
theorem PairsAt.to {w w' : World} {A : Nat → Prop} {p : List (Bs × JV)} {e : Nat → List Value} {vp : Value} (h : PairsAt w A p e vp) (hw : ∀ k, A k → w'.heap[k]? = w.heap[k]?) : PairsAt w' A p e vp :=
  ⟨fun k hk => by
      have e := hw k hk
      rw [Array.getElem?_eq_getElem (h.lt k hk)] at e
      exact (Array.getElem?_eq_some_iff.1 e).1, h.row.to (fun _ h => h) hw, fun n q hq => (h.vs n q hq).to (fun _ h => h) hw⟩
def prsR (A : Nat → Prop) (p : List (Bs × JV)) (e : Nat → List Value) (vp : Value) : Res where
  w := fun _ => False
  r := A
  p := fun w => PairsAt w A p e vp
  st := fun u v h hp => hp.to fun k hk => h k (.inr hk)
  bd := fun u h k hk => by
    rcases hk with hk | hk
    · exact hk.elim
    · exact h.lt k hk
def nmH (b1 : Nat) (A : Nat → Prop) (k i : Int) (s : Bs) (vl vp : Value) (p : List (Bs × JV)) (e : Nat → List Value) : Res where
  w := fun _ => False
  r := fun x => x = b1 ∨ A x
  p := fun u => u.heap[b1]? = some (.cells (vcl k i s vl vp).toArray TV (0, 0)) ∧ PairsAt u A p e vp
  st := fun u v h ⟨h1, h2⟩ => ⟨(h b1 (.inr (.inl rfl))).trans h1, h2.to fun k hk => h k (.inr (.inr hk))⟩
  bd := fun u ⟨h1, h2⟩ k hk => by
    rcases hk with hk | rfl | hk
    · exact hk.elim
    · exact (Array.getElem?_eq_some_iff.1 h1).1
    · exact h2.lt k hk
/-- a round of Names -/
def nmNx (k : Int) (p : List (Bs × JV)) (e : Nat → List Value) (n : Nat) (args : List Value) (m : Nat) : Prop := k = 5 ∧ (∃ q, p[n]? = some q ∧ args = [sj q.1, .agg (e n).toArray]) ∧ m = n + 1
set_option maxRecDepth 100000 in
theorem names_itr (b1 : Nat) (A : Nat → Prop) (k i : Int) (s : Bs) (vl vp : Value) (p : List (Bs × JV)) (e : Nat → List Value) :
    Itr Tryd.prog 25 [pj b1] 0 (nmNx k p e) (fun n => k = 5 → p.length ≤ n) (nmH b1 A k i s vl vp p e) := by
  refine ⟨fun l α β R S W x0 hR hH hd hround => ?_⟩
  obtain ⟨hb1, hP⟩ := id hH
  have hst : St [fun k => (R 0 x0).w k] W W [rs (R 0 x0), cr b1 (vcl k i s vl vp).toArray TV, rs (prsR A p e vp)] := by
    refine St.from W _ _ (fun y hy => ?_) ?_
    · simp only [List.mem_cons, List.not_mem_nil, or_false] at hy
      rcases hy with rfl | rfl | rfl
      · exact ⟨by simpa using hR, fun k hk => by simpa using hk⟩
      · exact ⟨by simpa using hb1, fun k hk => by simp at hk⟩
      · exact ⟨(rsOk _ _).2 hP, fun k hk => ((rsW _ _).1 hk).elim⟩
    · refine .cons (fun y hy => ?_) (.cons (fun y hy => ?_) (by simp))
      · simp only [List.mem_cons, List.not_mem_nil, or_false] at hy
        rcases hy with rfl | rfl
        · exact fun k => ⟨fun h1 h2 => by simp at h1 h2; subst h2; exact hd _ (.inr (.inl rfl)) h1, fun h1 => by simp at h1⟩
        · exact fun k => ⟨fun h1 h2 => by
            rcases (rsA _ _).1 h2 with h2 | h2
            · exact h2.elim
            · exact hd k (.inr (.inr h2)) (by simpa using h1), fun h1 => ((rsW _ _).1 h1).elim⟩
      · obtain rfl : y = rs (prsR A p e vp) := by simpa using hy
        exact fun k => ⟨fun h1 => by simp at h1, fun h1 => ((rsW _ _).1 h1).elim⟩
  refine (enter tab_ok Tryd.func25 rfl Tryd.ntmps25 rfl hst (R := fun v w' => (∃ i y, (k = 5 → p.length ≤ i) ∧ Turns W w' (R 0 x0) (R i y)) ∨ ∃ y, Turns W w' (R 0 x0) (S y)) ?_).mono (fun e w' ⟨v, he, h⟩ => ⟨⟨v, he⟩, h⟩)
  have fin' : ∀ (r : Res) (L : List Ent) (w' : World), St [fun k => (R 0 x0).w k] W w' L → L[0]? = some (rs r) → (∀ k, r.A k → (R 0 x0).A k ∨ W.heap.size ≤ k) → Turns W w' (R 0 x0) r := by
    intro r L w' hs h0 hA
    refine Turns.of_st hs (fun k hk => by simpa using hk) (hs.res h0) (fun k hk => ?_) hA
    rcases hs.ownW _ (List.mem_of_getElem? h0) k (by simpa using hk) with h | h
    · exact .inr h
    · exact .inl (by simpa using h)
  obtain ⟨hpm, a, cap, rfl, hrow⟩ := hP.row
  refine ld1 1 rfl (v := .int .i64 k) rfl ?_
  refine cne (fun h5 => ?_) (fun h5 => ?_)
  · exact ⟨fun w1 hs => .inl ⟨0, x0, fun h => absurd h h5, fin' _ _ _ hs rfl fun k hk => .inl hk⟩⟩
  subst h5
  refine ld1 1 rfl rfl ?_
  refine lp tab_ok (fun x : Nat × α => x.1 ≤ p.length ∧ ∀ k, (R x.1 x.2).A k → (R 0 x0).A k ∨ W.heap.size ≤ k)
    (fun x => ⟨[(0, .func (.yield l) #[] #[]), (9, .slice a p.length cap), (10, .int .i64 p.length), (11, .int .i64 x.1)], [rs (R x.1 x.2), cr b1 (vcl 5 i s vl (.slice a p.length cap)).toArray TV, rs (prsR A p e (.slice a p.length cap))], []⟩) (fun x => p.length - x.1) (0, x0) ⟨Nat.zero_le _, fun k hk => .inl hk⟩
    ⟨⟨rfl, rfl, rfl, rfl, trivial⟩, .cons (.cons (.cons .nil)), rfl⟩ ?_
  rintro ⟨n, x⟩ ⟨hn, hA⟩
  simp only at hn hA
  refine cd (fun h => ?_) (fun h => ?_)
  · have hlt : n < p.length := by omega
    obtain ⟨b, o, rfl, hbA, _⟩ := hrow (by omega)
    refine ⟨by omega, by omega, ?_⟩
    obtain ⟨q, hq⟩ : ∃ q, p[n]? = some q := ⟨_, List.getElem?_eq_getElem hlt⟩
    have hen := (hP.vs n q hq).len
    have heo := (hP.vs n q hq).one
    have hpc : pcl p e n = sj q.1 :: e n := by unfold pcl; rw [hq]; rfl
    have hrd : ∀ w, PairsAt w A p e (.slice (some ⟨b, o, none⟩) p.length cap) → w.rangeAt b (o + n * 6) (sj q.1 :: e n) := fun w h => by
      obtain ⟨_, a', cap', he, hr⟩ := h.row
      injection he with he1 he2 he3
      obtain ⟨b', o', he4, _, hr⟩ := hr (by omega)
      rw [← he1] at he4
      injection he4 with he4
      injection he4 with he5 he6
      subst he5 he6
      rw [← hpc]; exact (hr n hlt).2
    obtain ⟨c0, c1, c2, c3, c4, hc⟩ : ∃ c0 c1 c2 c3 c4, e n = [c0, c1, c2, c3, c4] := by
      match e n, hen with
      | [c0, c1, c2, c3, c4], _ => exact ⟨c0, c1, c2, c3, c4, rfl⟩
    rw [hc] at heo
    refine .mk #[sj q.1, c0, c1, c2, c3, c4] rfl (fun w hs => ?_) ?_
    · have := hrd w (hs.res (k := 2) rfl)
      rw [hc] at this
      rw [nad_eq, nmu_eq, Int.toNat_natCast]; exact this
    intro b4
    have ho6 : (#[sj q.1, c0, c1, c2, c3, c4] : Array Value).toList.all (·.oneCell') = true := by rw [show (#[sj q.1, c0, c1, c2, c3, c4] : Array Value).toList = sj q.1 :: [c0, c1, c2, c3, c4] from rfl, List.all_cons, heo]; rfl
    refine sN 3 rfl rfl ho6 ?_ (by kernel_rfl)
    refine ld1 3 rfl rfl ?_
    refine ldP 3 (d := #[c0, c1, c2, c3, c4]) rfl rfl rfl ?_
    refine yd (α := α) (β := β) (R := R) (S := S) (nx := nmNx 5 p e) (i := n) (j := n + 1) (x := x) 0 rfl hround ⟨rfl, ⟨q, hq, by rw [hc]; rfl⟩, rfl⟩ (fun y hA2 => ?_) (fun y hA2 => ?_)
    · refine cf rfl ?_
      refine .as ((n + 1 : Nat) : Int) (by simp only; omega) (by simp only [mn]; omega) (by simp only [mx]; unfold maxLen at hpm; omega) ?_
      refine ⟨(n + 1, y), ⟨by simp only; omega, fun k hk => ?_⟩, by simp only; omega, ⟨⟨rfl, rfl, rfl, rfl, trivial⟩, .cons (.cons (.cons .nil)), rfl⟩⟩
      rcases hA2 k hk with h | h
      · exact hA k h
      · exact .inr h
    · refine ct rfl ?_
      refine ⟨fun w1 hs => .inr ⟨y, fin' _ _ _ hs rfl fun k hk => ?_⟩⟩
      rcases hA2 k hk with h | h
      · exact hA k h
      · exact .inr h
  · refine ⟨fun w1 hs => .inl ⟨n, x, fun _ => by omega, fin' _ _ _ hs rfl hA⟩⟩
end Go.Proofs.YtpegkoklmhccjaaDoor
end
section
namespace Go.Proofs.YtpegkoklmhccjaaDoor
open Go.RowKit Go.Sx
set_option linter.unusedVariables false
/-- a value, and where its parts lie -/
inductive CT where
  | mk (k i : Int) (s : Bs) (vl vp : Value) (l : List CT) (p : List (Bs × CT))
def CT.cs : CT → List Value
  | .mk k i s vl vp _ _ => vcl k i s vl vp
def CT.nth (l : List CT) (n : Nat) : List Value := ((l[n]?).map CT.cs).getD []
def CT.pth (p : List (Bs × CT)) (n : Nat) : List Value := sj (((p[n]?).map (·.1)).getD []) :: ((p[n]?).map fun q => CT.cs q.2).getD []
/-- it lies so, and it says so -/
inductive Rt (w : World) (A : Nat → Prop) : CT → JV → Prop
  | mk {k i : Int} {s : Bs} {vl vp : Value} {l : List CT} {p : List (Bs × CT)} {l' : List JV} {p' : List (Bs × JV)} (ll : l.length = l'.length) (lp : p.length = p'.length) (hl : RowAt w A 5 l.length (CT.nth l) vl) (hp : RowAt w A 6 p.length (CT.pth p) vp)
      (kl : ∀ (n : Nat) (c : CT) (j : JV), l[n]? = some c → l'[n]? = some j → Rt w A c j) (kn : ∀ (n : Nat) (c : Bs × CT) (j : Bs × JV), p[n]? = some c → p'[n]? = some j → c.1 = j.1) (kp : ∀ (n : Nat) (c : Bs × CT) (j : Bs × JV), p[n]? = some c → p'[n]? = some j → Rt w A c.2 j.2) : Rt w A (.mk k i s vl vp l p) (.mk k i s l' p')
theorem Rt.to {w w' : World} {A A' : Nat → Prop} {c : CT} {j : JV} (h : Rt w A c j) (ha : ∀ k, A k → A' k) (hw : ∀ k, A k → w'.heap[k]? = w.heap[k]?) : Rt w' A' c j := by
  induction h with
  | mk ll lp hl hp kl kn kp ihl ihp => exact .mk ll lp (hl.to ha hw) (hp.to ha hw) ihl kn ihp
theorem RowAt.ext {w : World} {A : Nat → Prop} {z n : Nat} {c d : Nat → List Value} {v : Value} (h : RowAt w A z n c v) (hc : ∀ i, i < n → d i = c i) : RowAt w A z n d v := by
  obtain ⟨hn, a, cap, hv, h⟩ := h
  refine ⟨hn, a, cap, hv, fun h0 => ?_⟩
  obtain ⟨b, o, e, hA, hr⟩ := h h0
  exact ⟨b, o, e, hA, fun i hi => by rw [hc i hi]; exact hr i hi⟩
theorem Rt.rv {w : World} {A : Nat → Prop} {c : CT} {j : JV} (h : Rt w A c j) : Rv w A j c.cs := by
  induction h with
  | @mk k i s vl vp l p l' p' ll lp hl hp kl kn kp ihl ihp =>
    refine .mk (CT.nth l) (fun n => ((p[n]?).map fun q => CT.cs q.2).getD []) (ll ▸ hl) (lp ▸ hp.ext fun n hn => ?_) (fun n j hj => ?_) (fun n q hq => ?_)
    · have h1 : p[n]? = some p[n] := List.getElem?_eq_getElem hn
      have h2 : p'[n]? = some (p'[n]'(by omega)) := List.getElem?_eq_getElem (by omega)
      unfold pcl CT.pth
      rw [h1, h2]
      simp [h1, kn n _ _ h1 h2]
    · have hn : n < l.length := by have := (List.getElem?_eq_some_iff.1 hj).1; omega
      have h1 : l[n]? = some l[n] := List.getElem?_eq_getElem hn
      have := ihl n _ j h1 hj
      unfold CT.nth; rw [h1]; exact this
    · have hn : n < p.length := by have := (List.getElem?_eq_some_iff.1 hq).1; omega
      have h1 : p[n]? = some p[n] := List.getElem?_eq_getElem hn
      have := ihp n _ q h1 hq
      rw [h1]; exact this
theorem list_of {α β : Type} (l : List α) : ∀ (R : Nat → α → β → Prop), (∀ (n : Nat) (a : α), l[n]? = some a → ∃ b, R n a b) → ∃ m : List β, m.length = l.length ∧ ∀ (n : Nat) (a : α) (b : β), l[n]? = some a → m[n]? = some b → R n a b := by
  induction l with
  | nil => intro R _; exact ⟨[], rfl, fun n a b h => by simp at h⟩
  | cons a l ih =>
    intro R h
    obtain ⟨b, hb⟩ := h 0 a rfl
    obtain ⟨m, h1, h2⟩ := ih (fun n => R (n + 1)) fun n x hx => h (n + 1) x (by simpa using hx)
    refine ⟨b :: m, by simp [h1], fun n x y hx hy => ?_⟩
    cases n with
    | zero =>
      obtain rfl : a = x := by simpa using hx
      obtain rfl : b = y := by simpa using hy
      exact hb
    | succ n => exact h2 n x y (by simpa using hx) (by simpa using hy)
theorem Rv.ct {w : World} {A : Nat → Prop} {j : JV} {cs : List Value} (h : Rv w A j cs) : ∃ c : CT, c.cs = cs ∧ Rt w A c j := by
  induction h with
  | @mk k i s l p vl vp c e hl hp kl kp ihl ihp =>
    obtain ⟨L, hL1, hL2⟩ := list_of l (fun n j ct => CT.cs ct = c n ∧ Rt w A ct j) ihl
    obtain ⟨P, hP1, hP2⟩ := list_of p (fun n q (x : Bs × CT) => x.1 = q.1 ∧ x.2.cs = e n ∧ Rt w A x.2 q.2) (fun n q hq => by
      obtain ⟨ct, h1, h2⟩ := ihp n q hq
      exact ⟨(q.1, ct), rfl, h1, h2⟩)
    refine ⟨.mk k i s vl vp L P, rfl, .mk hL1 hP1 (hL1 ▸ hl.ext fun n hn => ?_) (hP1 ▸ hp.ext fun n hn => ?_) (fun n c j h1 h2 => (hL2 n j c h2 h1).2) (fun n c j h1 h2 => (hP2 n j c h2 h1).1) (fun n c j h1 h2 => (hP2 n j c h2 h1).2.2)⟩
    · have h1 : l[n]? = some l[n] := List.getElem?_eq_getElem hn
      have h2 : L[n]? = some (L[n]'(by omega)) := List.getElem?_eq_getElem (by omega)
      unfold CT.nth
      rw [h2]
      exact (hL2 n _ _ h1 h2).1
    · have h1 : p[n]? = some p[n] := List.getElem?_eq_getElem hn
      have h2 : P[n]? = some (P[n]'(by omega)) := List.getElem?_eq_getElem (by omega)
      obtain ⟨k1, k2, _⟩ := hP2 n _ _ h1 h2
      unfold CT.pth pcl
      rw [h1, h2]
      simp [k1, k2]
def HeldT (w : World) (A : Nat → Prop) (c : CT) (j : JV) : Prop := (∀ k, A k → k < w.heap.size) ∧ Rt w A c j
theorem HeldT.to {w w' : World} {A : Nat → Prop} {c : CT} {j : JV} (h : HeldT w A c j) (hw : ∀ k, A k → w'.heap[k]? = w.heap[k]?) : HeldT w' A c j :=
  ⟨fun k hk => by
      have e := hw k hk
      rw [Array.getElem?_eq_getElem (h.1 k hk)] at e
      exact (Array.getElem?_eq_some_iff.1 e).1, h.2.to (fun _ h => h) hw⟩
/-- a value that one owns; one that one reads -/
def ownT (A : Nat → Prop) (c : CT) (j : JV) : Res where
  w := A
  r := fun _ => False
  p := fun w => HeldT w A c j
  st := fun u v h hp => hp.to fun k hk => h k (.inl hk)
  bd := fun u h k hk => hk.elim (h.1 k) fun h => h.elim
def rdT (A : Nat → Prop) (c : CT) (j : JV) : Res where
  w := fun _ => False
  r := A
  p := fun w => HeldT w A c j
  st := fun u v h hp => hp.to fun k hk => h k (.inr hk)
  bd := fun u h k hk => hk.elim (fun h => h.elim) (h.1 k)
/-- Parse, its value with the places of its parts -/
structure PT where
  c : CT
  j : JV
  code : Nat
  A : Nat → Prop
def PTF (l : Bs) (x : PT) : Prop := (4096 < l.length ∧ x.code = 10 ∧ x.j = .mk 0 0 [] [] []) ∨ (l.length ≤ 4096 ∧ parseP l = none ∧ x.code = 1 ∧ x.j = .mk 0 0 [] [] []) ∨ (l.length ≤ 4096 ∧ parseP l = some x.j ∧ x.code = 0)
theorem parse_ct (v : Value) (l : Bs) (hm : l.length ≤ maxLen) (w : World) (hv : Rd w v (Lib.byteCells l)) (hw : Laid w) : Calls Tryd.prog 14 ([v] : List Value).toArray w fun e w' => ∃ x : PT, PTF l x ∧ e = .returned (.tuple #[.agg x.c.cs.toArray, errV x.code]) ∧ Below w.heap.size w w' ∧ (∀ k, x.A k → w.heap.size ≤ k) ∧ HeldT w' x.A x.c x.j :=
  (parse_any v l hm w hv hw).mono fun e w' ⟨x, hx, he, hb, A, hA, hH⟩ => by
    obtain ⟨c, h1, h2⟩ := (hH.2 _ (List.mem_singleton.2 rfl)).ct
    exact ⟨⟨c, x.j, x.code, A⟩, hx, by rw [he, h1], hb, hA, hH.1, h2⟩
end Go.Proofs.YtpegkoklmhccjaaDoor
end
section
namespace Go.Sx
open Go Go.RowKit
set_option linter.unusedVariables false
/-- a fact that is known -/
def factE (P : Prop) : Ent := rs ⟨fun _ => False, fun _ => False, fun _ => P, fun _ _ _ h => h, fun _ _ k h => h.elim (fun h => h.elim) fun h => h.elim⟩
theorem factW (P : Prop) (k : Nat) : ¬ (factE P).W k := fun h => ((rsW _ k).1 h).elim
theorem factA (P : Prop) (k : Nat) : ¬ (factE P).A k := fun h => ((rsA _ k).1 h).elim (fun h => h.elim) fun h => h.elim
theorem St.fact {M : Bks} {B w : World} {L : List Ent} (h : St M B w L) {P : Prop} (hP : P) : St M B w (factE P :: L) := by
  refine ⟨h.os, h.tape, h.output, h.size, h.old, fun e he => ?_, fun e he k hk => ?_, .cons (fun y hy k => ⟨fun h1 => absurd h1 (factW P k), fun _ h2 => absurd h2 (factA P k)⟩) h.apart⟩
  · rcases List.mem_cons.1 he with rfl | he
    · exact (rsOk _ _).2 hP
    · exact h.ok e he
  · rcases List.mem_cons.1 he with rfl | he
    · exact absurd hk (factW P k)
    · exact h.ownW e he k hk
theorem St.factP {M : Bks} {B w : World} {L : List Ent} (h : St M B w L) {P : Prop} (hm : factE P ∈ L) : P := (rsOk _ w).1 (h.ok _ hm)
theorem CodeP.no {C : Cx} {c : Code} {K : Exit → Sy → Prop} {s : Sy} (h : ∀ w, St C.M C.B w s.L → False) : CodeP C c K s := ⟨fun n a w hf hs => (h w hs).elim⟩
/-- how a round's body is left; what then is a fact -/
def roundI {I α β : Type} (Inv : I → α → Prop) (E : I → α → List Ent) (S : β → List Ent × Code) (l : Nat) (busy : Obj) (B : World) (es : List Ent) (j : I) : Exit → Sy → Prop := fun x s => match x with
  | .normal => ∃ y, Inv j y ∧ Sub (E j y ++ [⟨l, some busy, false, none⟩]) s.L ∧ ∀ e ∈ E j y, ∀ b, e.A b → (∃ f ∈ es, f.A b) ∨ B.heap.size ≤ b
  | .ret => ∃ y, (S y).2 = .ret ∧ Sub ((S y).1 ++ [⟨l, some busy, false, none⟩]) s.L ∧ ∀ e ∈ (S y).1, ∀ b, e.A b → (∃ f ∈ es, f.A b) ∨ B.heap.size ≤ b
  | .exit id => ∃ y, (S y).2 = .exit id ∧ Sub ((S y).1 ++ [⟨l, some busy, false, none⟩]) s.L ∧ ∀ e ∈ (S y).1, ∀ b, e.A b → (∃ f ∈ es, f.A b) ∨ B.heap.size ≤ b
  | _ => False
/-- with the fact: «as» a thing of its own -/
theorem roundI_M {C : Cx} {I α β : Type} {Inv : I → α → Prop} {E : I → α → List Ent} {S : β → List Ent × Code} {l : Nat} {busy : Obj} {B : World} {es : List Ent} {j : I} (x : Exit) (a : Act) (w : World) (h : Holds C (roundI Inv E S l busy B es j x) a w) :
    Holds C (roundM (fun i y => factE (Inv i y) :: E i y) S l busy B es j x) a w := by
  obtain ⟨s, hf, hs, hr⟩ := h
  cases x with
  | normal =>
    obtain ⟨y, h0, h1, h2⟩ := hr
    refine ⟨⟨s.σ, factE (Inv j y) :: s.L, s.D⟩, ⟨hf.size, hf.defers, hf.slot⟩, hs.fact h0, y, .cons h1, fun e he b hb => ?_⟩
    rcases List.mem_cons.1 he with rfl | he
    · exact absurd hb (factA _ b)
    · exact h2 e he b hb
  | ret => exact ⟨s, hf, hs, hr⟩
  | exit id => exact ⟨s, hf, hs, hr⟩
  | _ => exact hr.elim
theorem sub_mid (L : List Ent) (e : Ent) (l : List Ent) : Sub (L ++ l) (L ++ e :: l) := by
  induction L with
  | nil => exact .drop (Sub.refl l)
  | cons x L ih => exact .cons ih
/-- the blocks of the fact are none -/
theorem roundK_es {I α β : Type} {E : I → α → Ent} {S : β → Ent × Code} {l : Nat} {busy : Obj} {B : World} {es : List Ent} {P : Prop} {j : I} (x : Exit) (s : Sy) (h : roundK E S l busy B (rs (mres es)) j x s) : roundK E S l busy B (rs (mres (factE P :: es))) j x s := by
  have hA : ∀ b, (rs (mres es)).A b → (rs (mres (factE P :: es))).A b := fun b hb => by
    obtain ⟨e, he, hb⟩ := (mresA _ _).1 hb
    exact (mresA _ _).2 ⟨e, List.mem_cons_of_mem _ he, hb⟩
  cases x with
  | normal => obtain ⟨y, h1, h2⟩ := h; exact ⟨y, h1, fun b hb => (h2 b hb).imp (hA b) id⟩
  | ret => obtain ⟨y, h0, h1, h2⟩ := h; exact ⟨y, h0, h1, fun b hb => (h2 b hb).imp (hA b) id⟩
  | exit _ => obtain ⟨y, h0, h1, h2⟩ := h; exact ⟨y, h0, h1, fun b hb => (h2 b hb).imp (hA b) fun h => h⟩
  | _ => exact h.elim
/-- a loop over a function, in a function of its own: the last entries are those that turn; a fact is kept -/
theorem rfi {C : Cx} (hT : TabOk C.P C.T) (hF : C.F = none) {g : Operand} {ps : Array Tmp} {assign body : Code} {K : Exit → Sy → Prop} {σ : Fr} {L0 L : List Ent} {D : List Deferred} {gf : FuncId} {lb : Array Value} {I α β : Type} {i0 : I} {nx : I → List Value → I → Prop} {fin : I → Prop} {H : Res}
    (hcl : callable C.T gf = true) (hg : ev σ g (· = .func (.func gf) #[] lb)) (hit : Itr C.P gf lb.toList i0 nx fin H) (Inv : I → α → Prop) (E : I → α → List Ent) (S : β → List Ent × Code) (hS : ∀ y, (S y).2 = .ret ∨ ∃ id, (S y).2 = .exit id) (x0 : α) (hi0 : Inv i0 x0) (hL : (L0 ++ E i0 x0).Perm L)
    (hH : ∀ w, St C.M C.B w (L0 ++ E i0 x0) → H.p w ∧ ∀ b, H.A b → ∀ e ∈ E i0 x0, ¬ e.W b) (hps : ∀ i args j, nx i args j → args.length = ps.size)
    (round : ∀ l i args j x w ready busy, nx i args j → Inv i x → cx ⟨C.P, C.T, C.N, [fun b => b = l ∨ ∃ e ∈ E i x, e.W b], w, some l⟩ assign (beginK ⟨C.P, C.T, C.N, [fun b => b = l ∨ ∃ e ∈ E i x, e.W b], w, some l⟩ body (roundI Inv E S l busy w (E i x) j) l (L0.length + (E i x).length) ready busy)
      ⟨putPs C.N ps.toList args σ, L0.map Ent.rd ++ E i x ++ [⟨l, some ready, false, none⟩], []⟩)
    (done : ∀ i y b0, fin i → Inv i y → K .normal ⟨σ, L0 ++ E i y ++ [dfe b0], { target := .collected b0, args := #[] } :: D⟩)
    (stop : ∀ y b0, K (exitOf (S y).2) ⟨σ, L0 ++ (S y).1 ++ [dfe b0], { target := .collected b0, args := #[] } :: D⟩) : CodeP C (.rangeFunc g ps assign body) K ⟨σ, L, D⟩ := by
  refine CodeP.from (L' := L0 ++ [rs (mres (factE (Inv i0 x0) :: E i0 x0))]) (fun w hs => ?_) ?_
  · have h1 : St C.M C.B w (L0 ++ (factE (Inv i0 x0) :: E i0 x0)) := ((hs.perm hL).fact hi0).perm List.perm_middle
    simpa using St.pack (Y := []) (by simpa using h1)
  have hset : ∀ e e' : Ent, (L0 ++ [e]).set L0.length e' = L0 ++ [e'] := fun e e' => by simp
  refine CodeP.mono (K := fun x s => (∀ w, St C.M C.B w s.L → False) ∨ ∃ L', (∀ w, St C.M C.B w s.L → St C.M C.B w L') ∧ K x ⟨s.σ, L', s.D⟩) (fun x a w ⟨s, h1, h2, h3⟩ => ?_) ?_
  · rcases h3 with h3 | ⟨L', h3, h4⟩
    · exact (h3 w h2).elim
    · exact ⟨⟨s.σ, L', s.D⟩, ⟨h1.size, h1.defers, h1.slot⟩, h3 w h2, h4⟩
  refine rf' hT hF hcl hg hit L0.length (fun i x => rs (mres (factE (Inv i x) :: E i x))) (fun y => (rs (mres (S y).1), (S y).2)) hS x0 (by simp) (fun w hs => ?_) hps (fun l i args j x w ready busy hn => ?_) (fun i y b0 hf => ?_) (fun y b0 => ?_)
  · have h1 := hH w ((St.unpack (Y := []) (by simpa using hs)).sub (by simpa using sub_mid L0 (factE (Inv i0 x0)) (E i0 x0)))
    exact ⟨h1.1, fun b hb hw => by
      obtain ⟨e, he, hw⟩ := (mresW _ _).1 hw
      rcases List.mem_cons.1 he with rfl | he
      · exact factW _ b hw
      · exact h1.2 b hb e he hw⟩
  · by_cases hI : Inv i x
    · have hM : (fun b => b = l ∨ (rs (mres (factE (Inv i x) :: E i x))).W b) = fun b => b = l ∨ ∃ e ∈ E i x, e.W b := by
        funext b; rw [mresW]
        refine propext ⟨fun h => h.imp id fun ⟨e, he, hw⟩ => ?_, fun h => h.imp id fun ⟨e, he, hw⟩ => ⟨e, List.mem_cons_of_mem _ he, hw⟩⟩
        rcases List.mem_cons.1 he with rfl | he
        · exact absurd hw (factW _ b)
        · exact ⟨e, he, hw⟩
      rw [hM]
      have h1 := cx_ok (C := ⟨C.P, C.T, C.N, [fun b => b = l ∨ ∃ e ∈ E i x, e.W b], w, some l⟩) hT assign _ _ (round l i args j x w ready busy hn hI)
      refine CodeP.from (L' := L0.map Ent.rd ++ E i x ++ [⟨l, some ready, false, none⟩]) (fun w' hs => ?_) (h1.mono fun e a w' h => ?_)
      · have e1 : (List.map Ent.rd (L0 ++ [rs (mres (factE (Inv i0 x0) :: E i0 x0))])).set L0.length (rs (mres (factE (Inv i x) :: E i x))) ++ [⟨l, some ready, false, none⟩] = L0.map Ent.rd ++ [rs (mres (factE (Inv i x) :: E i x))] ++ [⟨l, some ready, false, none⟩] := by
          rw [List.map_append]; simp [List.set_append_right]
        rw [e1] at hs
        have h2 := hs.unpack
        rw [List.append_assoc] at h2 ⊢
        exact h2.sub (sub_mid _ _ _)
      · obtain ⟨s, hf, hs, h2⟩ := h
        cases e with
        | normal =>
          obtain ⟨h3, h4⟩ := h2
          have h5 := (cx_ok (C := ⟨C.P, C.T, C.N, [fun b => b = l ∨ ∃ e ∈ E i x, e.W b], w, some l⟩) hT body _ _ h4).mono fun e a w' h => round_pack (C := ⟨C.P, C.T, C.N, [fun b => b = l ∨ ∃ e ∈ E i x, e.W b], w, some l⟩) e a w' (roundI_M e a w' h)
          have h5 := h5.imp fun e s h => roundK_es (l := l) (busy := busy) (P := Inv i x) e s h
          obtain ⟨hlt, hget⟩ := List.getElem?_eq_some_iff.1 h3
          have hsp : s.L = s.L.take (L0.length + (E i x).length) ++ ⟨l, some ready, false, none⟩ :: s.L.drop (L0.length + (E i x).length + 1) := by
            rw [← hget]; simp
          have hset2 : s.L.set (L0.length + (E i x).length) ⟨l, some busy, false, none⟩ = s.L.take (L0.length + (E i x).length) ++ ⟨l, some busy, false, none⟩ :: s.L.drop (L0.length + (E i x).length + 1) := List.set_eq_take_append_cons_drop.trans (if_pos hlt)
          rw [hset2] at h5
          generalize s.L.take (L0.length + (E i x).length) = A at *
          generalize s.L.drop (L0.length + (E i x).length + 1) = Z at *
          refine ⟨⟨s.σ, List.replicate (L0.length + 1) dead ++ ⟨l, some ready, false, none⟩ :: (A ++ Z), s.D⟩, ⟨hf.size, hf.defers, hf.slot⟩, ?_, ?_, ?_⟩
          · rw [hsp] at hs
            exact (hs.perm List.perm_middle.symm).pad _
          · simp
          · refine CodeP.from (L' := A ++ ⟨l, some busy, false, none⟩ :: Z) (fun w2 hs2 => ?_) h5
            have e2 : (List.replicate (L0.length + 1) dead ++ (⟨l, some ready, false, none⟩ : Ent) :: (A ++ Z)).set (L0 ++ [rs (mres (factE (Inv i0 x0) :: E i0 x0))]).length ⟨l, some busy, false, none⟩ = List.replicate (L0.length + 1) dead ++ (⟨l, some busy, false, none⟩ : Ent) :: (A ++ Z) := by
              rw [List.set_append_right _ _ (by simp)]; simp
            rw [e2] at hs2
            exact (hs2.sub (Sub.padL _ _)).perm List.perm_middle
        | _ => exact h2.elim
    · refine CodeP.no fun w' hs => hI ?_
      have e1 : (List.map Ent.rd (L0 ++ [rs (mres (factE (Inv i0 x0) :: E i0 x0))])).set L0.length (rs (mres (factE (Inv i x) :: E i x))) ++ [⟨l, some ready, false, none⟩] = L0.map Ent.rd ++ [rs (mres (factE (Inv i x) :: E i x))] ++ [⟨l, some ready, false, none⟩] := by
        rw [List.map_append]; simp [List.set_append_right]
      rw [e1] at hs
      exact hs.unpack.factP (by simp)
  · by_cases hI : Inv i y
    · refine .inr ⟨L0 ++ E i y ++ [dfe b0], fun w hs => ?_, done i y b0 hf hI⟩
      rw [hset] at hs
      have h2 := hs.unpack
      rw [List.append_assoc] at h2 ⊢
      exact h2.sub (sub_mid _ _ _)
    · refine .inl fun w hs => hI ?_
      rw [hset] at hs
      exact hs.unpack.factP (by simp)
  · refine .inr ⟨L0 ++ (S y).1 ++ [dfe b0], fun w hs => ?_, stop y b0⟩
    rw [hset] at hs
    exact hs.unpack
end Go.Sx
end
section
namespace Go.Proofs.YtpegkoklmhccjaaDoor
open Go.RowKit Go.Sx
set_option linter.unusedVariables false
def CT.got : CT → Bs → Option CT
  | .mk k _ _ _ _ _ p, name => if k = 5 then (p.find? fun q => decide (q.1 = name)).map (·.2) else none
theorem CT.cs5 (c : CT) : c.cs.length = 5 := by cases c; rfl
def getV (o : Option CT) : Value := match o with
  | none => .tuple #[.agg (valC 0 0 []), .bool false]
  | some c => .tuple #[.agg c.cs.toArray, .bool true]
def eth (p : List (Bs × CT)) (n : Nat) : List Value := ((p[n]?).map fun q => CT.cs q.2).getD []
theorem Rt.pairs {w : World} {A : Nat → Prop} {k i : Int} {s : Bs} {vl vp : Value} {l : List CT} {p : List (Bs × CT)} {l' : List JV} {p' : List (Bs × JV)} (hA : ∀ k, A k → k < w.heap.size) (h : Rt w A (.mk k i s vl vp l p) (.mk k i s l' p')) : PairsAt w A p' (eth p) vp ∧ p.length = p'.length ∧ ∀ (n : Nat) (c : Bs × CT) (q : Bs × JV), p[n]? = some c → p'[n]? = some q → c.1 = q.1 := by
  cases h with
  | mk ll lp hl hp kl kn kp =>
    refine ⟨⟨hA, lp ▸ hp.ext fun n hn => ?_, fun n q hq => ?_⟩, lp, kn⟩
    · have h1 : p[n]? = some p[n] := List.getElem?_eq_getElem hn
      have h2 : p'[n]? = some (p'[n]'(by omega)) := List.getElem?_eq_getElem (by omega)
      unfold pcl CT.pth eth
      rw [h1, h2]
      simp [kn n _ _ h1 h2]
    · have hn : n < p.length := by have := (List.getElem?_eq_some_iff.1 hq).1; omega
      have h1 : p[n]? = some p[n] := List.getElem?_eq_getElem hn
      have := (kp n _ q h1 hq).rv
      unfold eth
      rw [h1]; exact this
theorem find_none {p : List (Bs × CT)} {name : Bs} (h : ∀ m, m < p.length → ∀ q, p[m]? = some q → q.1 ≠ name) : p.find? (fun q => decide (q.1 = name)) = none := by
  rw [List.find?_eq_none]
  intro x hx
  obtain ⟨m, h1, h2⟩ := List.mem_iff_getElem.1 hx
  have := h m h1 x (by rw [List.getElem?_eq_getElem h1, h2])
  simpa using this
theorem find_first {p : List (Bs × CT)} {name : Bs} {i : Nat} {q : Bs × CT} (hq : p[i]? = some q) (hn : q.1 = name) (h : ∀ m, m < i → ∀ q, p[m]? = some q → q.1 ≠ name) : p.find? (fun q => decide (q.1 = name)) = some q := by
  obtain ⟨h1, h2⟩ := List.getElem?_eq_some_iff.1 hq
  rw [List.find?_eq_some_iff_getElem]
  refine ⟨by simpa using hn, i, h1, h2, fun m hm => ?_⟩
  have := h m hm _ (List.getElem?_eq_getElem (by omega))
  simpa using this
set_option maxRecDepth 100000 in
set_option maxHeartbeats 4000000 in
theorem get_any (A : Nat → Prop) (c : CT) (j : JV) (name : Bs) (w : World) (h : HeldT w A c j) : Calls Tryd.prog 10 ([.agg c.cs.toArray, sj name] : List Value).toArray w fun e w' => e = .returned (getV (c.got name)) ∧ Below w.heap.size w w' := by
  obtain ⟨k, iv, s, vl, vp, lv, p⟩ := c
  obtain ⟨l', p', rfl⟩ : ∃ l' p', j = .mk k iv s l' p' := by cases h.2; exact ⟨_, _, rfl⟩
  obtain ⟨hPA, hlen, hnm⟩ := Rt.pairs h.1 h.2
  have hone : (vcl k iv s vl vp).all (·.oneCell') = true := h.2.rv.one
  have hst : St [] w w [rs (rdT A (.mk k iv s vl vp lv p) (.mk k iv s l' p'))] := St.reads fun e he => by
    obtain rfl : e = _ := by simpa using he
    exact ⟨(rsOk _ w).2 h, fun k hk => (rsW _ k).1 hk⟩
  refine enterV tab_ok Tryd.func10 rfl Tryd.ntmps10 rfl hst ?_
  intro b2 b3 b4 b5
  refine ldN 1 rfl rfl ?_
  refine inl (C := ⟨Tryd.prog, tab, 17, [], w, none⟩) tab_ok Tryd.func13 rfl Tryd.ntmps13 rfl ?_
  intro b6
  refine bk ?_
  refine rfi (C := ⟨Tryd.prog, tab, 17, [], w, none⟩) (L0 := [rs (rdT A (.mk k iv s vl vp lv p) (.mk k iv s l' p')), cl b2 (vcl k iv s vl vp).toArray TV, cl b3 #[sj name] 9, cl b6 (vcl k iv s vl vp).toArray TV]) (α := Unit) (β := { c' : CT // (CT.mk k iv s vl vp lv p).got name = some c' }) tab_ok rfl rfl rfl
    (names_itr b6 A k iv s vl vp p' (eth p)) (fun i _ => ∀ m, m < i → ∀ q, p[m]? = some q → q.1 ≠ name) (fun _ _ => [cl b4 (valC 0 0 []) TV, cl b5 #[.bool false] 4]) (fun y => ([cl b4 y.1.cs.toArray TV, cl b5 #[.bool true] 4], .ret)) (fun y => .inl rfl) () (fun m hm => absurd hm (Nat.not_lt_zero _)) ?_
    (fun w' hs => ⟨⟨hs.nth (k := 3) rfl, (Rt.pairs (hs.res (k := 0) rfl : HeldT w' A _ _).1 (hs.res (k := 0) rfl : HeldT w' A _ _).2).1⟩, ?_⟩) ?_ ?_ ?_ ?_
  · have e1 : List.Perm ([rs (rdT A (.mk k iv s vl vp lv p) (.mk k iv s l' p')), cl b2 (vcl k iv s vl vp).toArray TV, cl b3 #[sj name] 9] ++ ([cl b6 (vcl k iv s vl vp).toArray TV] ++ [cl b4 (valC 0 0 []) TV, cl b5 #[.bool false] 4])) ([rs (rdT A (.mk k iv s vl vp lv p) (.mk k iv s l' p')), cl b2 (vcl k iv s vl vp).toArray TV, cl b3 #[sj name] 9] ++ ([cl b4 (valC 0 0 []) TV, cl b5 #[.bool false] 4] ++ [cl b6 (vcl k iv s vl vp).toArray TV])) := .append_left _ List.perm_append_comm
    exact List.Perm.trans (.of_eq rfl) (List.Perm.trans e1 (.of_eq rfl))
  · rintro x (hx | hx | hx) e he hw
    · exact hx.elim
    · subst hx
      simp only [List.mem_cons, List.not_mem_nil, or_false] at he
      rcases he with rfl | rfl
      · exact (pw_ne hs.apart (i := 4) (j := 3) rfl rfl (by decide) _).1 hw (by simp)
      · exact (pw_ne hs.apart (i := 5) (j := 3) rfl rfl (by decide) _).1 hw (by simp)
    · simp only [List.mem_cons, List.not_mem_nil, or_false] at he
      have hx2 : (rs (rdT A (.mk k iv s vl vp lv p) (.mk k iv s l' p'))).A x := (rsA _ x).2 (.inr hx)
      rcases he with rfl | rfl
      · exact (pw_ne hs.apart (i := 4) (j := 0) rfl rfl (by decide) _).1 hw hx2
      · exact (pw_ne hs.apart (i := 5) (j := 0) rfl rfl (by decide) _).1 hw hx2
  · rintro i args j ⟨_, ⟨q, _, rfl⟩, _⟩; rfl
  · rintro l i args j x w' ready busy ⟨hk5, ⟨q, hq, rfl⟩, rfl⟩ hI
    have hn : i < p.length := by have := (List.getElem?_eq_some_iff.1 hq).1; omega
    obtain ⟨c0, hc0⟩ : ∃ c0, p[i]? = some c0 := ⟨_, List.getElem?_eq_getElem hn⟩
    have hq1 := hnm i c0 q hc0 hq
    have hv5 := (hPA.vs i q hq).len
    have hv1 := (hPA.vs i q hq).one
    have heth : eth p i = c0.2.cs := by unfold eth; rw [hc0]; rfl
    rw [heth] at hv5 hv1 ⊢
    intro b7
    refine sN 7 rfl (by rw [List.size_toArray, hv5]; rfl) (by simpa using hv1) ?_ (by rw [List.size_toArray, hv5]; kernel_rfl)
    refine ⟨rfl, ?_⟩
    refine ld1 2 rfl (v := sj name) rfl ?_
    by_cases hnq : q.1 = name
    · refine ct (by rw [list_beq]; exact decide_eq_true hnq) ?_
      refine ldN 7 rfl (by rw [List.size_toArray, hv5]) ?_
      refine sN 4 rfl (by rw [List.size_toArray, hv5]; rfl) (by simpa using hv1) ?_ (by rw [List.size_toArray, hv5]; kernel_rfl)
      refine s1 5 rfl (by show 0 < 1; decide) ?_
      have hgot : (CT.mk k iv s vl vp lv p).got name = some c0.2 := by
        show (if k = 5 then (p.find? fun q => decide (q.1 = name)).map (·.2) else none) = _
        rw [if_pos hk5, find_first hc0 (hq1.trans hnq) hI]; rfl
      exact ⟨⟨c0.2, hgot⟩, rfl, .drop (.drop (.drop (.drop (.cons (.cons (.cons .nil)))))), fun e he b hb => by
        simp only [List.mem_cons, List.not_mem_nil, or_false] at he
        rcases he with rfl | rfl
        · exact .inl ⟨cl b4 (valC 0 0 []) TV, by simp, by simpa using hb⟩
        · exact .inl ⟨cl b5 #[.bool false] 4, by simp, by simpa using hb⟩⟩
    · refine cf (by rw [list_beq]; exact decide_eq_false hnq) ?_
      refine ⟨(), fun m hm q' hq' => ?_, .drop (.drop (.drop (.drop (.cons (.cons (.cons .nil)))))), fun e he b hb => .inl ⟨e, he, hb⟩⟩
      by_cases hmi : m < i
      · exact hI m hmi q' hq'
      · obtain rfl : m = i := by omega
        rw [hc0] at hq'
        obtain rfl : c0 = q' := Option.some.inj hq'
        rw [hq1]; exact hnq
  · intro i y b0 hf hI
    have hgot : (CT.mk k iv s vl vp lv p).got name = none := by
      show (if k = 5 then (p.find? fun q => decide (q.1 = name)).map (·.2) else none) = _
      by_cases h5 : k = 5
      · have := hf h5
        rw [if_pos h5, find_none fun m hm => hI m (by omega)]; rfl
      · rw [if_neg h5]
    rw [hgot]
    refine bu (c := valC 0 0 []) rfl ?_
    refine sN 4 rfl rfl (by simp [Value.oneCell']) ?_ (by kernel_rfl)
    refine s1 5 rfl (by show 0 < 1; decide) ?_
    refine .mk 6 rfl ?_
    refine ldN 4 rfl rfl ?_
    refine ld1 5 rfl rfl ?_
    exact rt rfl
  · rintro ⟨c', hgot⟩ b0
    refine .mk 6 rfl ?_
    refine ldN 4 rfl (by rw [List.size_toArray, CT.cs5]) ?_
    refine ld1 5 rfl rfl ?_
    exact rt (congrArg getV hgot.symm : getV (some c') = _)
end Go.Proofs.YtpegkoklmhccjaaDoor
end
section
namespace Go.Proofs.YtpegkoklmhccjaaDoor
open Go.RowKit Go.Sx
set_option linter.unusedVariables false
/-- n things behind a slice -/
def SlOf (v : Value) (n : Nat) : Prop := n ≤ maxLen ∧ ∃ a cap, v = .slice a n cap ∧ (n ≠ 0 → ∃ b o, a = some ⟨b, o, none⟩)
theorem RowAt.sl {w : World} {A : Nat → Prop} {z n : Nat} {c : Nat → List Value} {v : Value} (h : RowAt w A z n c v) : SlOf v n := by
  obtain ⟨h1, a, cap, h2, h3⟩ := h
  exact ⟨h1, a, cap, h2, fun h0 => by obtain ⟨b, o, e, _⟩ := h3 h0; exact ⟨b, o, e⟩⟩
/-- the cells are such a value's -/
inductive CS : CT → JV → Prop
  | mk {k i : Int} {s : Bs} {vl vp : Value} {l : List CT} {p : List (Bs × CT)} {l' : List JV} {p' : List (Bs × JV)} (ll : l.length = l'.length) (lp : p.length = p'.length) (hl : SlOf vl l.length) (hp : SlOf vp p.length)
      (kl : ∀ (n : Nat) (c : CT) (j : JV), l[n]? = some c → l'[n]? = some j → CS c j) (kn : ∀ (n : Nat) (c : Bs × CT) (j : Bs × JV), p[n]? = some c → p'[n]? = some j → c.1 = j.1) (kp : ∀ (n : Nat) (c : Bs × CT) (j : Bs × JV), p[n]? = some c → p'[n]? = some j → CS c.2 j.2) : CS (.mk k i s vl vp l p) (.mk k i s l' p')
theorem Rt.cs {w : World} {A : Nat → Prop} {c : CT} {j : JV} (h : Rt w A c j) : CS c j := by
  induction h with
  | mk ll lp hl hp kl kn kp ihl ihp => exact .mk ll lp hl.sl hp.sl ihl kn ihp
/-- a part that is read, and its cells -/
theorem Rt.item {w : World} {A : Nat → Prop} {k i : Int} {s : Bs} {vl vp : Value} {l : List CT} {p : List (Bs × CT)} {j : JV} (h : Rt w A (.mk k i s vl vp l p) j) {b o n cap : Nat} {m : Nat} (hv : vl = .slice (some ⟨b, o, none⟩) n cap) {c : CT} (hc : l[m]? = some c) : w.rangeAt b (o + m * 5) c.cs := by
  cases h with
  | mk ll lp hl hp kl kn kp =>
    have hm := (List.getElem?_eq_some_iff.1 hc).1
    obtain ⟨_, a, cap', e, hr⟩ := hl
    rw [hv] at e
    injection e with e1 e2 e3
    obtain ⟨b', o', e4, _, hr⟩ := hr (by omega)
    rw [← e1] at e4
    injection e4 with e4
    injection e4 with e5 e6
    subst e5 e6
    have := (hr m hm).2
    unfold CT.nth at this
    rw [hc] at this
    exact this
/-- Parse, «as» a call in a walk -/
theorem cParse {N : Nat} {M : Bks} {B : World} {F : Option Nat} {L : List Ent} {v : Value} {l : Bs} {next : Value → List Ent → Prop} (kl : Nat) (hkl : L[kl]? = some (rs laidR)) (hm : l.length ≤ maxLen) (hv : ∀ w, St M B w L → Rd w v (Lib.byteCells l))
    (go : ∀ x : PT, PTF l x → CS x.c x.j → next (.tuple #[.agg x.c.cs.toArray, errV x.code]) (L ++ [rs (ownT x.A x.c x.j)])) : CallP ⟨Tryd.prog, tab, N, M, B, F⟩ 14 [v] L next :=
  cM (C := ⟨Tryd.prog, tab, N, M, B, F⟩) (α := PT) (Φ := fun x => PTF l x ∧ CS x.c x.j) (v := fun x => .tuple #[.agg x.c.cs.toArray, errV x.code]) (r' := fun x => ownT x.A x.c x.j)
    (fun w hs => (parse_ct v l hm w (hv w hs) (hs.res hkl)).mono fun e w' ⟨x, hx, he, hb, hA, hH⟩ => ⟨x, ⟨hx, hH.2.cs⟩, he, hb, hH, hA, fun k hk => hk.elim⟩) fun x hx => go x hx.1 hx.2
end Go.Proofs.YtpegkoklmhccjaaDoor
end
section
namespace Go.Proofs.YtpegkoklmhccjaaDoor
open Go.RowKit Go.Sx
set_option linter.unusedVariables false
def tx1 : Bs := [123, 34, 97, 34, 58, 32, 91, 49, 44, 32, 45, 50, 44, 32, 34, 92, 117, 48, 48, 101, 57, 34, 93, 125]
def tx2 : Bs := [91, 48, 49, 93]
def jv1 : JV := .mk 5 0 [] [] [([97], .mk 4 0 [] [.mk 2 1 [] [] [], .mk 2 (-2) [] [] [], .mk 3 0 [195, 169] [] []] [])]
theorem parse1 : parseP tx1 = some jv1 := by kernel_rfl
theorem parse2 : parseP tx2 = none := by kernel_rfl
theorem bsT1 (w : World) : (Instr.buildSlice 38 24 #[(0, .int .u8 123), (1, .int .u8 34), (2, .int .u8 97), (3, .int .u8 34), (4, .int .u8 58), (5, .int .u8 32), (6, .int .u8 91), (7, .int .u8 49), (8, .int .u8 44), (9, .int .u8 32), (10, .int .u8 45), (11, .int .u8 50), (12, .int .u8 44), (13, .int .u8 32), (14, .int .u8 34), (15, .int .u8 92), (16, .int .u8 117), (17, .int .u8 48), (18, .int .u8 48), (19, .int .u8 101), (20, .int .u8 57), (21, .int .u8 34), (22, .int .u8 93), (23, .int .u8 125)]).run Tryd.prog w = .ok (.slice (some ⟨w.heap.size, 0, none⟩) 24 24) (w.alloc (.cells (Lib.byteCells tx1).toArray 5)) := by
  obtain ⟨i, hi, hz, hs, hb⟩ := infoOf info5
  exact run_buildSlice w _ _ 24 _ (Lib.byteCells tx1).toArray i (.int .u8 0) und22 hi hz (by rw [hs]; decide) (by rw [hs]; decide) (by rw [hs]; kernel_rfl)
theorem bsT2 (w : World) : (Instr.buildSlice 38 4 #[(0, .int .u8 91), (1, .int .u8 48), (2, .int .u8 49), (3, .int .u8 93)]).run Tryd.prog w = .ok (.slice (some ⟨w.heap.size, 0, none⟩) 4 4) (w.alloc (.cells (Lib.byteCells tx2).toArray 5)) := by
  obtain ⟨i, hi, hz, hs, hb⟩ := infoOf info5
  exact run_buildSlice w _ _ 4 _ (Lib.byteCells tx2).toArray i (.int .u8 0) und22 hi hz (by rw [hs]; decide) (by rw [hs]; decide) (by rw [hs]; kernel_rfl)
theorem CS.inv {c : CT} {k i : Int} {s : Bs} {l' : List JV} {p' : List (Bs × JV)} (h : CS c (.mk k i s l' p')) : ∃ vl vp l p, c = .mk k i s vl vp l p ∧ l.length = l'.length ∧ p.length = p'.length ∧ SlOf vl l.length ∧ SlOf vp p.length ∧ (∀ (n : Nat) (c : CT) (j : JV), l[n]? = some c → l'[n]? = some j → CS c j) ∧ (∀ (n : Nat) (c : Bs × CT) (j : Bs × JV), p[n]? = some c → p'[n]? = some j → c.1 = j.1) ∧ (∀ (n : Nat) (c : Bs × CT) (j : Bs × JV), p[n]? = some c → p'[n]? = some j → CS c.2 j.2) := by
  cases h with
  | mk ll lp hl hp kl kn kp => exact ⟨_, _, _, _, rfl, ll, lp, hl, hp, kl, kn, kp⟩
theorem CS.one {c : CT} {j : JV} (h : CS c j) : c.cs.all (·.oneCell') = true := by
  cases h with
  | mk ll lp hl hp kl kn kp =>
    obtain ⟨_, a, cap, rfl, _⟩ := hl
    obtain ⟨_, a, cap, rfl, _⟩ := hp
    rfl
theorem c1_shape {c : CT} (h : CS c jv1) : ∃ vl a cap b o cap1 vp1 d0 x1 y1 l1 p1 x2 y2 l2 p2, c = .mk 5 0 [] vl (.slice a 1 cap) [] [([97], .mk 4 0 [] (.slice (some ⟨b, o, none⟩) 3 cap1) vp1 [d0, .mk 2 (-2) [] x1 y1 l1 p1, .mk 3 0 [195, 169] x2 y2 l2 p2] [])] ∧ (CT.cs (CT.mk 4 0 [] (.slice (some ⟨b, o, none⟩) 3 cap1) vp1 [d0, .mk 2 (-2) [] x1 y1 l1 p1, .mk 3 0 [195, 169] x2 y2 l2 p2] [])).all (·.oneCell') = true := by
  obtain ⟨vl, vp, l, p, rfl, h1, h2, h3, h4, _, hkn, hkp⟩ := h.inv
  obtain rfl : l = [] := List.eq_nil_of_length_eq_zero h1
  obtain ⟨q, rfl⟩ : ∃ q, p = [q] := List.length_eq_one_iff.1 h2
  obtain ⟨nm, c1⟩ := q
  have hn : nm = [97] := hkn 0 _ _ rfl rfl
  subst hn
  have hc1 := hkp 0 _ _ rfl rfl
  obtain ⟨_, a, cap, rfl, _⟩ := h4
  have hq1 := hc1.one
  obtain ⟨vl1, vp1, l1, p1, e, k1, k2, k3, k4, kk, _, _⟩ := CS.inv hc1
  dsimp only at e
  subst e
  obtain rfl : p1 = [] := List.eq_nil_of_length_eq_zero k2
  obtain ⟨d0, d1, d2, rfl⟩ : ∃ d0 d1 d2, l1 = [d0, d1, d2] := by
    match l1, k1 with
    | [d0, d1, d2], _ => exact ⟨d0, d1, d2, rfl⟩
  obtain ⟨_, a1, cap1, rfl, k5⟩ := k3
  obtain ⟨b, o, rfl⟩ := k5 (by simp)
  obtain ⟨x1, y1, l1, p1, rfl, _⟩ := (kk 1 _ _ rfl rfl).inv
  obtain ⟨x2, y2, l2, p2, rfl, _⟩ := (kk 2 _ _ rfl rfl).inv
  exact ⟨vl, a, cap, b, o, cap1, vp1, d0, x1, y1, l1, p1, x2, y2, l2, p2, rfl, hq1⟩
theorem cell1 {w : World} {A : Nat → Prop} {vl : Value} {a : Option Addr} {cap b o cap1 : Nat} {vp1 : Value} {L : List CT} (h : HeldT w A (.mk 5 0 [] vl (.slice a 1 cap) [] [([97], .mk 4 0 [] (.slice (some ⟨b, o, none⟩) 3 cap1) vp1 L [])]) jv1) {m f : Nat} {d : CT} {v : Value} (hd : L[m]? = some d) (hv : d.cs[f]? = some v) : w.cell? ⟨b, o + m * 5 + f, none⟩ = some v := by
  have h2 := h.2
  cases h2 with
  | mk ll lp hl hp kl kn kp => exact Rt.item (kp 0 _ _ rfl rfl) rfl hd f v hv
set_option maxRecDepth 100000 in
theorem alive_any (w : World) (hw : Laid w) : Calls Tryd.prog 8 ([] : List Value).toArray w fun e w' => e = .returned (.bool true) ∧ Below w.heap.size w w' := by
  refine enterV tab_ok Tryd.func8 rfl Tryd.ntmps8 rfl (St.laid hw) ?_
  refine .mk _ _ bsT1 (fun b8 => ?_)
  refine cvB 1 und22 undU8 rfl ?_
  refine cParse (l := tx1) 0 rfl (by decide) (fun w hs => Rd.ent hs 1 rfl rfl rfl) (fun x hx hcs => ?_)
  obtain ⟨c, j, code, A⟩ := x
  have hx' : j = jv1 ∧ code = 0 := by
    rcases hx with ⟨h, _⟩ | ⟨_, h, _⟩ | ⟨_, h, h2⟩
    · exact absurd h (by decide)
    · rw [parse1] at h; cases h
    · rw [parse1] at h; exact ⟨(Option.some.inj h).symm, h2⟩
  obtain ⟨rfl, rfl⟩ := hx'
  dsimp only at hcs ⊢
  have hc5 := c.cs5
  obtain ⟨vl, a, cap, b, o, cap1, vp1, d0, x1, y1, l1, p1, x2, y2, l2, p2, rfl, hone1⟩ := c1_shape hcs
  have hone := hcs.one
  intro b1
  refine sN 3 rfl rfl (by simpa using hone) ?_ (by kernel_rfl)
  refine .mk _ _ bsT2 (fun b14 => ?_)
  refine cvB 4 und22 undU8 rfl ?_
  refine cParse (l := tx2) 0 rfl (by decide) (fun w hs => Rd.ent hs 4 rfl rfl rfl) (fun x hx hcs2 => ?_)
  obtain ⟨c2, j2, code2, A2⟩ := x
  have hx' : code2 = 1 := by
    rcases hx with ⟨h, _⟩ | ⟨_, h, h2, _⟩ | ⟨_, h, h2⟩
    · exact absurd h (by decide)
    · exact h2
    · rw [parse2] at h; cases h
  subst hx'
  dsimp only at hcs2 ⊢
  intro b3
  refine sN 6 rfl (by rw [List.size_toArray, c2.cs5]; rfl) (by simpa using hcs2.one) ?_ (by rw [List.size_toArray, c2.cs5]; kernel_rfl)
  iterate 2 refine ct rfl ?_
  refine cv (fun w => is_any 1 1 w) ?_
  refine ct rfl ?_
  refine cf rfl ?_
  iterate 2 refine ct rfl ?_
  refine ld1 3 rfl (v := .slice a 1 cap) rfl ?_
  iterate 2 refine ct rfl ?_
  refine cf rfl ?_
  refine cf rfl ?_
  refine ldN 3 rfl rfl ?_
  refine cvs (v := getV (some (CT.mk 4 0 [] (.slice (some ⟨b, o, none⟩) 3 cap1) vp1 [d0, .mk 2 (-2) [] x1 y1 l1 p1, .mk 3 0 [195, 169] x2 y2 l2 p2] []))) (fun w hs => get_any A _ jv1 [97] w (hs.res (k := 2) rfl)) ?_
  intro b5
  refine sN 7 rfl rfl (by simpa using hone1) ?_ (by kernel_rfl)
  iterate 2 refine ct rfl ?_
  refine ld1 7 rfl rfl ?_
  iterate 2 refine ct rfl ?_
  refine ct rfl ?_
  iterate 2 refine ct rfl ?_
  refine ld1 7 rfl rfl ?_
  refine ct rfl ?_
  refine ⟨by decide, by decide, ?_⟩
  iterate 2 refine ct rfl ?_
  refine .mk (.int .i64 (-2)) (fun w hs => ?_) ?_
  · have := cell1 (hs.res (k := 2) rfl : HeldT w A _ jv1) (m := 1) (f := 1) rfl rfl
    rw [nad_eq, nad_eq, nmu_eq]; exact this
  refine ct rfl ?_
  refine ct rfl ?_
  iterate 2 refine ct rfl ?_
  refine ld1 7 rfl rfl ?_
  refine ct rfl ?_
  refine ⟨by decide, by decide, ?_⟩
  iterate 2 refine ct rfl ?_
  refine .mk (sj [195, 169]) (fun w hs => ?_) ?_
  · have := cell1 (hs.res (k := 2) rfl : HeldT w A _ jv1) (m := 2) (f := 2) rfl rfl
    rw [nad_eq, nad_eq, nmu_eq]; exact this
  refine ct rfl ?_
  refine ct rfl ?_
  exact rt (congrArg Value.bool (by simp))
end Go.Proofs.YtpegkoklmhccjaaDoor
end
section
namespace Go.Proofs.YtpegkoklmhccjaaDoor
open Go.RowKit Go.Sx
set_option linter.unusedVariables false
theorem Rt.pair {w : World} {A : Nat → Prop} {k i : Int} {s : Bs} {vl vp : Value} {l : List CT} {p : List (Bs × CT)} {j : JV} (h : Rt w A (.mk k i s vl vp l p) j) {b o n cap : Nat} {m : Nat} (hv : vp = .slice (some ⟨b, o, none⟩) n cap) {c : Bs × CT} (hc : p[m]? = some c) : w.rangeAt b (o + m * 6) (sj c.1 :: c.2.cs) := by
  cases h with
  | mk ll lp hl hp kl kn kp =>
    have hm := (List.getElem?_eq_some_iff.1 hc).1
    obtain ⟨_, a, cap', e, hr⟩ := hp
    rw [hv] at e
    injection e with e1 e2 e3
    obtain ⟨b', o', e4, _, hr⟩ := hr (by omega)
    rw [← e1] at e4
    injection e4 with e4
    injection e4 with e5 e6
    subst e5 e6
    have := (hr m hm).2
    unfold CT.pth at this
    rw [hc] at this
    exact this
theorem Rt.kid {w : World} {A : Nat → Prop} {k i : Int} {s : Bs} {vl vp : Value} {l : List CT} {p : List (Bs × CT)} {l' : List JV} {p' : List (Bs × JV)} (h : Rt w A (.mk k i s vl vp l p) (.mk k i s l' p')) {n : Nat} {c : CT} {j : JV} (h1 : l[n]? = some c) (h2 : l'[n]? = some j) : Rt w A c j := by
  cases h with
  | mk ll lp hl hp kl kn kp => exact kl n c j h1 h2
theorem Rt.kidp {w : World} {A : Nat → Prop} {k i : Int} {s : Bs} {vl vp : Value} {l : List CT} {p : List (Bs × CT)} {l' : List JV} {p' : List (Bs × JV)} (h : Rt w A (.mk k i s vl vp l p) (.mk k i s l' p')) {n : Nat} {c : Bs × CT} {j : Bs × JV} (h1 : p[n]? = some c) (h2 : p'[n]? = some j) : Rt w A c.2 j.2 := by
  cases h with
  | mk ll lp hl hp kl kn kp => exact kp n c j h1 h2
theorem St.rdT {w : World} {A : Nat → Prop} {c : CT} {j : JV} (h : HeldT w A c j) : St [] w w [rs (rdT A c j)] := St.reads fun e he => by
  obtain rfl : e = _ := by simpa using he
  exact ⟨(rsOk _ w).2 h, fun k hk => (rsW _ k).1 hk⟩
set_option maxRecDepth 100000 in
set_option maxHeartbeats 4000000 in
theorem many_any {c : CT} {j : JV} (hcs : CS c j) : ∀ (A : Nat → Prop) (m : Nat) (w : World), m ≤ 1000 → HeldT w A c j → Calls Tryd.prog 9 ([.agg c.cs.toArray, .int .i64 (m : Nat)] : List Value).toArray w fun e w' => ∃ x : Nat, (1 ≤ x ∧ x ≤ m + 1) ∧ e = .returned (.int .i64 (x : Nat)) ∧ Below w.heap.size w w' := by
  induction hcs with
  | @mk k i s vl vp l p l' p' hll hlp hl hp kl kn kp ihl ihp =>
    intro A m w hm h
    obtain ⟨k1, a, cap, rfl, k2⟩ := hl
    obtain ⟨k3, a', cap', rfl, k4⟩ := hp
    refine (enter (R := fun u w' => ∃ x : Nat, (1 ≤ x ∧ x ≤ m + 1) ∧ u = .int .i64 (x : Nat) ∧ Below w.heap.size w w') tab_ok (g := 9) Tryd.func9 rfl Tryd.ntmps9 (vs := [.agg (CT.mk k i s (.slice a l.length cap) (.slice a' p.length cap') l p).cs.toArray, .int .i64 (m : Nat)]) rfl (St.rdT h) ?_).mono fun e w' ⟨u, he, x, hx, hu, h2⟩ => ⟨x, hx, by rw [he, hu], h2⟩
    intro b2
    refine lp tab_ok (fun x : Nat × Nat => x.1 ≤ l.length ∧ 1 ≤ x.2 ∧ x.2 ≤ m + 1) (fun x => ⟨[(1, .int .i64 (m : Nat)), (2, pj b2), (5, .int .i64 (x.2 : Nat)), (6, .int .i64 (x.1 : Nat))], [rs (rdT A (.mk k i s (.slice a l.length cap) (.slice a' p.length cap') l p) (.mk k i s l' p')), cl b2 (vcl k i s (.slice a l.length cap) (.slice a' p.length cap')).toArray TV], []⟩) (fun x => l.length - x.1) (0, 1) ⟨Nat.zero_le _, Nat.le_refl _, by simp only; omega⟩ ⟨⟨rfl, rfl, rfl, rfl, trivial⟩, .cons (.cons .nil), rfl⟩ ?_
    rintro ⟨q, n⟩ ⟨hq, hn1, hn2⟩
    simp only at hq hn1 hn2
    refine ld1 1 rfl rfl ?_
    by_cases hql : q < l.length
    · have f1 : decide ((q : Int) < (l.length : Int)) = true := decide_eq_true (by omega)
      have f2 : (decide ((q : Int) < (l.length : Int)) == true) = true := by rw [f1]; rfl
      iterate 3 refine ct f2 ?_
      refine ct f1 ?_
      refine cd (fun hnm => ?_) (fun hnm => ?_)
      · have hc0 : l[q]? = some l[q] := List.getElem?_eq_getElem hql
        have hj0 : l'[q]? = some (l'[q]'(by omega)) := List.getElem?_eq_getElem (by omega)
        generalize l[q] = c0 at hc0
        generalize l'[q]'(by omega) = j0 at hj0
        obtain ⟨b, o, rfl⟩ := k2 (by omega)
        refine ld1 1 rfl rfl ?_
        refine ⟨by simp only; omega, by simp only; omega, ?_⟩
        refine .mk c0.cs.toArray (by rw [List.size_toArray, CT.cs5]) (fun w hs => ?_) ?_
        · have h2 := (hs.res (k := 0) rfl : HeldT w A _ _).2
          have := h2.item rfl hc0
          rw [nad_eq, nmu_eq, Int.toNat_natCast]; exact this
        refine .as ((m - n : Nat) : Int) (by simp only at hnm; omega) (by simp only [mn]; omega) (by simp only [mx]; omega) ?_
        refine ce (Φ := fun x : Nat => 1 ≤ x ∧ x ≤ (m - n) + 1) (v := fun x => .int .i64 (x : Nat)) (fun w hs => ihl q c0 j0 hc0 hj0 A (m - n) w (by omega) ⟨(hs.res (k := 0) rfl : HeldT w A _ _).1, (hs.res (k := 0) rfl : HeldT w A _ _).2.kid hc0 hj0⟩) (fun x hx => ?_)
        simp only at hnm
        refine .as ((n + x : Nat) : Int) (by simp) (by simp only [mn]; omega) (by simp only [mx]; omega) ?_
        refine .as ((q + 1 : Nat) : Int) (by simp) (by simp only [mn]; omega) (by simp only [mx]; unfold maxLen at k1; omega) ?_
        exact ⟨(q + 1, n + x), ⟨by simp only; omega, by simp only; omega, by simp only; omega⟩, by simp only; omega, ⟨⟨rfl, rfl, rfl, rfl, trivial⟩, .cons (.cons .nil), rfl⟩⟩
      · clear hnm
        refine lp tab_ok (fun x : Nat × Nat => x.1 ≤ p.length ∧ 1 ≤ x.2 ∧ x.2 ≤ m + 1) (fun x => ⟨[(1, .int .i64 (m : Nat)), (2, pj b2), (5, .int .i64 (x.2 : Nat)), (7, .int .i64 (x.1 : Nat))], [rs (rdT A (.mk k i s (.slice a l.length cap) (.slice a' p.length cap') l p) (.mk k i s l' p')), cl b2 (vcl k i s (.slice a l.length cap) (.slice a' p.length cap')).toArray TV], []⟩) (fun x => p.length - x.1) (0, n) ⟨Nat.zero_le _, hn1, hn2⟩ ⟨⟨rfl, rfl, rfl, rfl, trivial⟩, .cons (.cons .nil), rfl⟩ ?_
        rintro ⟨q, n⟩ ⟨hq, hn1, hn2⟩
        simp only at hq hn1 hn2
        refine ld1 1 rfl rfl ?_
        by_cases hql : q < p.length
        · have f1 : decide ((q : Int) < (p.length : Int)) = true := decide_eq_true (by omega)
          have f2 : (decide ((q : Int) < (p.length : Int)) == true) = true := by rw [f1]; rfl
          iterate 3 refine ct f2 ?_
          refine ct f1 ?_
          refine cd (fun hnm => ?_) (fun hnm => ?_)
          · have hc0 : p[q]? = some p[q] := List.getElem?_eq_getElem hql
            have hj0 : p'[q]? = some (p'[q]'(by omega)) := List.getElem?_eq_getElem (by omega)
            generalize p[q] = c0 at hc0
            generalize p'[q]'(by omega) = j0 at hj0
            obtain ⟨b, o, rfl⟩ := k4 (by omega)
            refine ld1 1 rfl rfl ?_
            refine ⟨by simp only; omega, by simp only; omega, ?_⟩
            refine .mk c0.2.cs.toArray (by rw [List.size_toArray, CT.cs5]) (fun w hs => ?_) ?_
            · have h2 := (hs.res (k := 0) rfl : HeldT w A _ _).2
              have := h2.pair rfl hc0
              rw [nad_eq, nad_eq, nmu_eq, Int.toNat_natCast]
              intro y u hu
              rw [Nat.add_assoc (o + q * 6), Nat.add_comm 1 y]
              exact this (y + 1) u (by simpa using hu)
            refine .as ((m - n : Nat) : Int) (by simp only at hnm; omega) (by simp only [mn]; omega) (by simp only [mx]; omega) ?_
            refine ce (Φ := fun x : Nat => 1 ≤ x ∧ x ≤ (m - n) + 1) (v := fun x => .int .i64 (x : Nat)) (fun w hs => ihp q c0 j0 hc0 hj0 A (m - n) w (by omega) ⟨(hs.res (k := 0) rfl : HeldT w A _ _).1, (hs.res (k := 0) rfl : HeldT w A _ _).2.kidp hc0 hj0⟩) (fun x hx => ?_)
            simp only at hnm
            refine .as ((n + x : Nat) : Int) (by simp) (by simp only [mn]; omega) (by simp only [mx]; omega) ?_
            refine .as ((q + 1 : Nat) : Int) (by simp) (by simp only [mn]; omega) (by simp only [mx]; unfold maxLen at k3; omega) ?_
            exact ⟨(q + 1, n + x), ⟨by simp only; omega, by simp only; omega, by simp only; omega⟩, by simp only; omega, ⟨⟨rfl, rfl, rfl, rfl, trivial⟩, .cons (.cons .nil), rfl⟩⟩
          · exact ⟨fun w' hs => ⟨n, ⟨hn1, hn2⟩, rfl, hs.below⟩⟩
        · have f1 : decide ((q : Int) < (p.length : Int)) = false := decide_eq_false (by omega)
          have f2 : (decide ((q : Int) < (p.length : Int)) == true) = false := by rw [f1]; rfl
          iterate 3 refine cf f2 ?_
          refine cf f1 ?_
          refine cf rfl ?_
          exact ⟨fun w' hs => ⟨n, ⟨hn1, hn2⟩, rfl, hs.below⟩⟩
    · have f1 : decide ((q : Int) < (l.length : Int)) = false := decide_eq_false (by omega)
      have f2 : (decide ((q : Int) < (l.length : Int)) == true) = false := by rw [f1]; rfl
      iterate 3 refine cf f2 ?_
      refine cf f1 ?_
      refine cf rfl ?_
      refine lp tab_ok (fun x : Nat × Nat => x.1 ≤ p.length ∧ 1 ≤ x.2 ∧ x.2 ≤ m + 1) (fun x => ⟨[(1, .int .i64 (m : Nat)), (2, pj b2), (5, .int .i64 (x.2 : Nat)), (7, .int .i64 (x.1 : Nat))], [rs (rdT A (.mk k i s (.slice a l.length cap) (.slice a' p.length cap') l p) (.mk k i s l' p')), cl b2 (vcl k i s (.slice a l.length cap) (.slice a' p.length cap')).toArray TV], []⟩) (fun x => p.length - x.1) (0, n) ⟨Nat.zero_le _, hn1, hn2⟩ ⟨⟨rfl, rfl, rfl, rfl, trivial⟩, .cons (.cons .nil), rfl⟩ ?_
      rintro ⟨q, n⟩ ⟨hq, hn1, hn2⟩
      simp only at hq hn1 hn2
      refine ld1 1 rfl rfl ?_
      by_cases hql : q < p.length
      · have f1 : decide ((q : Int) < (p.length : Int)) = true := decide_eq_true (by omega)
        have f2 : (decide ((q : Int) < (p.length : Int)) == true) = true := by rw [f1]; rfl
        iterate 3 refine ct f2 ?_
        refine ct f1 ?_
        refine cd (fun hnm => ?_) (fun hnm => ?_)
        · have hc0 : p[q]? = some p[q] := List.getElem?_eq_getElem hql
          have hj0 : p'[q]? = some (p'[q]'(by omega)) := List.getElem?_eq_getElem (by omega)
          generalize p[q] = c0 at hc0
          generalize p'[q]'(by omega) = j0 at hj0
          obtain ⟨b, o, rfl⟩ := k4 (by omega)
          refine ld1 1 rfl rfl ?_
          refine ⟨by simp only; omega, by simp only; omega, ?_⟩
          refine .mk c0.2.cs.toArray (by rw [List.size_toArray, CT.cs5]) (fun w hs => ?_) ?_
          · have h2 := (hs.res (k := 0) rfl : HeldT w A _ _).2
            have := h2.pair rfl hc0
            rw [nad_eq, nad_eq, nmu_eq, Int.toNat_natCast]
            intro y u hu
            rw [Nat.add_assoc (o + q * 6), Nat.add_comm 1 y]
            exact this (y + 1) u (by simpa using hu)
          refine .as ((m - n : Nat) : Int) (by simp only at hnm; omega) (by simp only [mn]; omega) (by simp only [mx]; omega) ?_
          refine ce (Φ := fun x : Nat => 1 ≤ x ∧ x ≤ (m - n) + 1) (v := fun x => .int .i64 (x : Nat)) (fun w hs => ihp q c0 j0 hc0 hj0 A (m - n) w (by omega) ⟨(hs.res (k := 0) rfl : HeldT w A _ _).1, (hs.res (k := 0) rfl : HeldT w A _ _).2.kidp hc0 hj0⟩) (fun x hx => ?_)
          simp only at hnm
          refine .as ((n + x : Nat) : Int) (by simp) (by simp only [mn]; omega) (by simp only [mx]; omega) ?_
          refine .as ((q + 1 : Nat) : Int) (by simp) (by simp only [mn]; omega) (by simp only [mx]; unfold maxLen at k3; omega) ?_
          exact ⟨(q + 1, n + x), ⟨by simp only; omega, by simp only; omega, by simp only; omega⟩, by simp only; omega, ⟨⟨rfl, rfl, rfl, rfl, trivial⟩, .cons (.cons .nil), rfl⟩⟩
        · exact ⟨fun w' hs => ⟨n, ⟨hn1, hn2⟩, rfl, hs.below⟩⟩
      · have f1 : decide ((q : Int) < (p.length : Int)) = false := decide_eq_false (by omega)
        have f2 : (decide ((q : Int) < (p.length : Int)) == true) = false := by rw [f1]; rfl
        iterate 3 refine cf f2 ?_
        refine cf f1 ?_
        refine cf rfl ?_
        exact ⟨fun w' hs => ⟨n, ⟨hn1, hn2⟩, rfl, hs.below⟩⟩
end Go.Proofs.YtpegkoklmhccjaaDoor
end
section
namespace Go.Proofs.YtpegkoklmhccjaaDoor
open Go.RowKit Go.Sx
set_option linter.unusedVariables false
theorem _root_.Go.Sx.Rd.take {w : World} {a : Option Addr} {n c k : Nat} {l : List UInt8} (h : Rd w (.slice a n c) (Lib.byteCells l)) (hn : n = l.length) (hk : k ≤ n) (c' : Nat) : Rd w (.slice a k c') (Lib.byteCells (l.take k)) := by
  obtain ⟨a', c1, e, hc⟩ := h
  injection e with e1 e2 e3
  subst e1
  refine ⟨a, c', by rw [Lib.byteCells_length, List.length_take]; congr 1; omega, fun hne => ?_⟩
  obtain ⟨b, o, h1, h2, h3⟩ := hc (fun e => hne (by
    have : l = [] := by cases l with | nil => rfl | cons x l => simp [Lib.byteCells] at e
    rw [this]; simp [Lib.byteCells]))
  refine ⟨b, o, h1, h2, fun j u hu => h3 j u ?_⟩
  have e2 : Lib.byteCells (l.take k) = (Lib.byteCells l).take k := by simp [Lib.byteCells, List.map_take]
  rw [e2, List.getElem?_take] at hu
  split at hu
  · exact hu
  · cases hu
theorem _root_.Go.Sx.Rd.at {w : World} {b o n c i : Nat} {xs : List Value} (h : Rd w (.slice (some ⟨b, o, none⟩) n c) xs) {u : Value} (hu : xs[i]? = some u) {k : Int} (hk : k = i) : w.cell? ⟨b, nad o (nmu k.toNat 1), none⟩ = some u := by
  subst hk
  obtain ⟨a', c1, e, hc⟩ := h
  injection e with e1 e2 e3
  subst e1
  obtain ⟨b', o', h1, h2, h3⟩ := hc (fun e => by rw [e] at hu; cases hu)
  injection h1 with h1
  injection h1 with h4 h5
  subst h4 h5
  rw [nad_eq, nmu_eq, Int.toNat_natCast, Nat.mul_one]; exact h3 i u hu
theorem _root_.Go.Sx.Rd.addr {w : World} {a : Option Addr} {n c : Nat} {xs : List Value} (h : Rd w (.slice a n c) xs) (hne : xs ≠ []) : ∃ b o, a = some ⟨b, o, none⟩ := by
  obtain ⟨a', c1, e, hc⟩ := h
  injection e with e1 e2 e3
  subst e1
  obtain ⟨b, o, h1, _⟩ := hc hne
  exact ⟨b, o, h1⟩
theorem St.rdT2 {w : World} {A B : Nat → Prop} {c d : CT} {j k : JV} (h : HeldT w A c j) (h2 : HeldT w B d k) : St [] w w [rs (Go.Proofs.YtpegkoklmhccjaaDoor.rdT A c j), rs (Go.Proofs.YtpegkoklmhccjaaDoor.rdT B d k)] := St.reads fun e he => by
  simp only [List.mem_cons, List.not_mem_nil, or_false] at he
  rcases he with rfl | rfl
  · exact ⟨(rsOk _ w).2 h, fun k hk => (rsW _ k).1 hk⟩
  · exact ⟨(rsOk _ w).2 h2, fun k hk => (rsW _ k).1 hk⟩
set_option maxRecDepth 100000 in
set_option maxHeartbeats 4000000 in
theorem exact_two {c : CT} {j : JV} (hcs : CS c j) : ∀ (d : CT) (A B : Nat → Prop) (w : World), HeldT w A c j → HeldT w B d j → Calls Tryd.prog 12 ([.agg c.cs.toArray, .agg d.cs.toArray] : List Value).toArray w fun e w' => e = .returned (.bool true) ∧ Below w.heap.size w w' := by
  induction hcs with
  | @mk k i s vl vp l p l' p' hll hlp hl hp kl kn kp ihl ihp =>
    intro d A B w h hd
    obtain ⟨vl2, vp2, m2, p2, rfl⟩ : ∃ vl vp l p, d = .mk k i s vl vp l p := by cases hd.2; exact ⟨_, _, _, _, rfl⟩
    obtain ⟨hll2, hlp2, hl2, hp2, kn2⟩ : m2.length = l'.length ∧ p2.length = p'.length ∧ SlOf vl2 m2.length ∧ SlOf vp2 p2.length ∧ ∀ (n : Nat) (c : Bs × CT) (j : Bs × JV), p2[n]? = some c → p'[n]? = some j → c.1 = j.1 := by cases hd.2.cs; exact ⟨‹_›, ‹_›, ‹_›, ‹_›, ‹_›⟩
    rw [hll2.trans hll.symm] at hl2
    rw [hlp2.trans hlp.symm] at hp2
    obtain ⟨_, a2, cap2, rfl, k22⟩ := hl2
    obtain ⟨_, a2', cap2', rfl, k24⟩ := hp2
    obtain ⟨k1, a, cap, rfl, k2⟩ := hl
    obtain ⟨k3, a', cap', rfl, k4⟩ := hp
    refine enterV tab_ok Tryd.func12 rfl Tryd.ntmps12 rfl (St.rdT2 h hd) ?_
    intro b2 b3
    have z1 : (k != k) = false := by simp
    have z2 : ((k != k) == false) = true := by simp
    have i1 : (i != i) = false := by simp
    have i2 : ((i != i) == false) = true := by simp
    have s1 : (!((ByteArray.mk s.toArray).toList == (ByteArray.mk s.toArray).toList)) = false := by simp
    have s2 : ((!((ByteArray.mk s.toArray).toList == (ByteArray.mk s.toArray).toList)) == false) = true := by simp
    have l1 : ((l.length : Int) != (l.length : Int)) = false := by simp
    have e22 : (((l.length : Int) != (l.length : Int)) == false) = true := by simp
    have q1 : ((p.length : Int) != (p.length : Int)) = false := by simp
    refine ld1 2 rfl rfl ?_
    refine ld1 3 rfl rfl ?_
    iterate 2 refine ct z2 ?_
    refine ld1 2 rfl rfl ?_
    iterate 2 refine ct z2 ?_
    refine ld1 3 rfl rfl ?_
    refine ct z2 ?_
    refine cf z1 ?_
    iterate 2 refine ct i2 ?_
    refine ld1 2 rfl rfl ?_
    iterate 2 refine ct i2 ?_
    refine ld1 3 rfl rfl ?_
    refine ct i2 ?_
    refine cf i1 ?_
    iterate 2 refine ct s2 ?_
    refine ld1 2 rfl rfl ?_
    iterate 3 refine ct s2 ?_
    refine ld1 3 rfl rfl ?_
    iterate 2 refine ct s2 ?_
    refine cf s1 ?_
    iterate 2 refine ct e22 ?_
    refine ld1 2 rfl rfl ?_
    iterate 3 refine ct e22 ?_
    refine ld1 3 rfl rfl ?_
    iterate 2 refine ct e22 ?_
    refine cf l1 ?_
    refine cf q1 ?_
    refine lp tab_ok (fun q : Nat => q ≤ l.length) (fun q => ⟨[(2, pj b2), (3, pj b3), (5, .int .i64 (q : Nat))], [rs (rdT A (.mk k i s (.slice a l.length cap) (.slice a' p.length cap') l p) (.mk k i s l' p')), rs (rdT B (.mk k i s (.slice a2 l.length cap2) (.slice a2' p.length cap2') m2 p2) (.mk k i s l' p')), cl b2 (vcl k i s (.slice a l.length cap) (.slice a' p.length cap')).toArray TV, cl b3 (vcl k i s (.slice a2 l.length cap2) (.slice a2' p.length cap2')).toArray TV], []⟩) (fun q => l.length - q) 0 (Nat.zero_le _) ⟨⟨rfl, rfl, rfl, trivial⟩, .cons (.cons (.cons (.cons .nil))), rfl⟩ ?_
    intro q hq
    refine ld1 2 rfl rfl ?_
    refine cd (fun hql => ?_) (fun hql => ?_)
    · have hql : q < l.length := by omega
      have hc0 : l[q]? = some l[q] := List.getElem?_eq_getElem hql
      have hj0 : l'[q]? = some (l'[q]'(by omega)) := List.getElem?_eq_getElem (by omega)
      generalize l[q] = c0 at hc0
      generalize l'[q]'(by omega) = j0 at hj0
      have hd0 : m2[q]? = some (m2[q]'(by omega)) := List.getElem?_eq_getElem (by omega)
      generalize m2[q]'(by omega) = d0 at hd0
      obtain ⟨b, o, rfl⟩ := k2 (by omega)
      obtain ⟨b2', o2, rfl⟩ := k22 (by omega)
      have hld2 : ∀ w, HeldT w B (.mk k i s (.slice (some ⟨b2', o2, none⟩) l.length cap2) (.slice a2' p.length cap2') m2 p2) (.mk k i s l' p') → w.rangeAt b2' (nad o2 (nmu ((q : Nat) : Int).toNat 5)) d0.cs.toArray.toList := fun w h => by
        rw [nad_eq, nmu_eq, Int.toNat_natCast]; exact h.2.item rfl hd0
      have hld : ∀ w, HeldT w A (.mk k i s (.slice (some ⟨b, o, none⟩) l.length cap) (.slice a' p.length cap') l p) (.mk k i s l' p') → w.rangeAt b (nad o (nmu ((q : Nat) : Int).toNat 5)) c0.cs.toArray.toList := fun w h => by
        rw [nad_eq, nmu_eq, Int.toNat_natCast]; exact h.2.item rfl hc0
      refine dr [rs (rdT A (.mk k i s (.slice (some ⟨b, o, none⟩) l.length cap) (.slice a' p.length cap') l p) (.mk k i s l' p')), rs (rdT B (.mk k i s (.slice (some ⟨b2', o2, none⟩) l.length cap2) (.slice a2' p.length cap2') m2 p2) (.mk k i s l' p')), cl b2 (vcl k i s (.slice (some ⟨b, o, none⟩) l.length cap) (.slice a' p.length cap')).toArray TV, cl b3 (vcl k i s (.slice (some ⟨b2', o2, none⟩) l.length cap2) (.slice a2' p.length cap2')).toArray TV] 99 (.t 0 (.t 1 (.t 2 (.t 3 (.t 4 (.t 5 (.t 6 (.t 7 (.t 8 (.t 9 (.n 10 (.t 11 .nil)))))))))))) tab_ok mixed_ok (by kernel_rfl) (.cons (.cons (.cons (.cons .nil)))) ?_
      refine ld1 2 rfl rfl ?_
      refine ⟨by omega, by omega, ?_⟩
      refine .mk c0.cs.toArray (by rw [List.size_toArray, CT.cs5]) (fun w hs => hld w (hs.res (k := 0) rfl)) ?_
      refine ld1 3 rfl rfl ?_
      refine ⟨by omega, by omega, ?_⟩
      refine .mk d0.cs.toArray (by rw [List.size_toArray, CT.cs5]) (fun w hs => hld2 w (hs.res (k := 1) rfl)) ?_
      refine cvs (fun w hs => ihl q c0 j0 hc0 hj0 d0 A B w ⟨(hs.res (k := 0) rfl : HeldT w A _ _).1, (hs.res (k := 0) rfl : HeldT w A _ _).2.kid hc0 hj0⟩ ⟨(hs.res (k := 1) rfl : HeldT w B _ _).1, (hs.res (k := 1) rfl : HeldT w B _ _).2.kid hd0 hj0⟩) ?_
      refine ⟨.cons (.cons (.cons (.cons .nil))), ?_⟩
      refine cf rfl ?_
      refine .as ((q + 1 : Nat) : Int) (by simp) (by simp only [mn]; omega) (by simp only [mx]; unfold maxLen at k1; omega) ?_
      exact ⟨q + 1, by omega, by omega, ⟨⟨rfl, rfl, rfl, trivial⟩, .cons (.cons (.cons (.cons .nil))), rfl⟩⟩
    · clear hql
      refine lp tab_ok (fun q : Nat => q ≤ p.length) (fun q => ⟨[(2, pj b2), (3, pj b3), (6, .int .i64 (q : Nat))], [rs (rdT A (.mk k i s (.slice a l.length cap) (.slice a' p.length cap') l p) (.mk k i s l' p')), rs (rdT B (.mk k i s (.slice a2 l.length cap2) (.slice a2' p.length cap2') m2 p2) (.mk k i s l' p')), cl b2 (vcl k i s (.slice a l.length cap) (.slice a' p.length cap')).toArray TV, cl b3 (vcl k i s (.slice a2 l.length cap2) (.slice a2' p.length cap2')).toArray TV], []⟩) (fun q => p.length - q) 0 (Nat.zero_le _) ⟨⟨rfl, rfl, rfl, trivial⟩, .cons (.cons (.cons (.cons .nil))), rfl⟩ ?_
      intro q hq
      refine ld1 2 rfl rfl ?_
      refine cd (fun hql => ?_) (fun hql => ?_)
      · have hql : q < p.length := by omega
        have hc0 : p[q]? = some p[q] := List.getElem?_eq_getElem hql
        have hj0 : p'[q]? = some (p'[q]'(by omega)) := List.getElem?_eq_getElem (by omega)
        generalize p[q] = c0 at hc0
        generalize p'[q]'(by omega) = j0 at hj0
        have hd0 : p2[q]? = some (p2[q]'(by omega)) := List.getElem?_eq_getElem (by omega)
        generalize p2[q]'(by omega) = d0 at hd0
        obtain ⟨b, o, rfl⟩ := k4 (by omega)
        obtain ⟨b2', o2, rfl⟩ := k24 (by omega)
        have hnn : d0.1 = c0.1 := (kn2 q d0 j0 hd0 hj0).trans (kn q c0 j0 hc0 hj0).symm
        have hld02 : ∀ w, HeldT w B (.mk k i s (.slice a2 l.length cap2) (.slice (some ⟨b2', o2, none⟩) p.length cap2') m2 p2) (.mk k i s l' p') → w.cell? ⟨b2', nad (nad o2 (nmu ((q : Nat) : Int).toNat 6)) 0, none⟩ = some (sj c0.1) := fun w h => by
          have := h.2.pair rfl hd0
          rw [nad_eq, nad_eq, nmu_eq, Int.toNat_natCast, ← hnn]; exact this 0 _ rfl
        have hld2 : ∀ w, HeldT w B (.mk k i s (.slice a2 l.length cap2) (.slice (some ⟨b2', o2, none⟩) p.length cap2') m2 p2) (.mk k i s l' p') → w.rangeAt b2' (nad (nad o2 (nmu ((q : Nat) : Int).toNat 6)) 1) d0.2.cs.toArray.toList := fun w h => by
          have := h.2.pair rfl hd0
          rw [nad_eq, nad_eq, nmu_eq, Int.toNat_natCast]
          intro y u hu
          rw [Nat.add_assoc (o2 + q * 6), Nat.add_comm 1 y]
          exact this (y + 1) u (by simpa using hu)
        have hld0 : ∀ w, HeldT w A (.mk k i s (.slice a l.length cap) (.slice (some ⟨b, o, none⟩) p.length cap') l p) (.mk k i s l' p') → w.cell? ⟨b, nad (nad o (nmu ((q : Nat) : Int).toNat 6)) 0, none⟩ = some (sj c0.1) := fun w h => by
          have := h.2.pair rfl hc0
          rw [nad_eq, nad_eq, nmu_eq, Int.toNat_natCast]; exact this 0 _ rfl
        have hld : ∀ w, HeldT w A (.mk k i s (.slice a l.length cap) (.slice (some ⟨b, o, none⟩) p.length cap') l p) (.mk k i s l' p') → w.rangeAt b (nad (nad o (nmu ((q : Nat) : Int).toNat 6)) 1) c0.2.cs.toArray.toList := fun w h => by
          have := h.2.pair rfl hc0
          rw [nad_eq, nad_eq, nmu_eq, Int.toNat_natCast]
          intro y u hu
          rw [Nat.add_assoc (o + q * 6), Nat.add_comm 1 y]
          exact this (y + 1) u (by simpa using hu)
        have e1 : (!((ByteArray.mk c0.1.toArray).toList == (ByteArray.mk c0.1.toArray).toList)) = false := by simp
        have e2 : ((!((ByteArray.mk c0.1.toArray).toList == (ByteArray.mk c0.1.toArray).toList)) == false) = true := by simp
        refine dr [rs (rdT A (.mk k i s (.slice a l.length cap) (.slice (some ⟨b, o, none⟩) p.length cap') l p) (.mk k i s l' p')), rs (rdT B (.mk k i s (.slice a2 l.length cap2) (.slice (some ⟨b2', o2, none⟩) p.length cap2') m2 p2) (.mk k i s l' p')), cl b2 (vcl k i s (.slice a l.length cap) (.slice (some ⟨b, o, none⟩) p.length cap')).toArray TV, cl b3 (vcl k i s (.slice a2 l.length cap2) (.slice (some ⟨b2', o2, none⟩) p.length cap2')).toArray TV] 99 (.t 0 (.t 1 (.t 2 (.t 3 (.t 4 (.t 5 (.t 6 (.t 7 (.t 8 (.t 9 (.t 10 (.t 11 (.t 12 (.t 13 (.t 14 (.t 15 (.t 16 (.t 17 (.t 18 (.t 19 (.t 20 (.t 21 (.t 22 (.t 23 (.t 24 (.t 25 (.n 26 (.t 27 (.t 28 .nil))))))))))))))))))))))))))))) tab_ok mixed_ok (by kernel_rfl) (.cons (.cons (.cons (.cons .nil)))) ?_
        refine ld1 2 rfl rfl ?_
        refine ⟨by omega, by omega, ?_⟩
        refine .mk (sj c0.1) (fun w hs => hld0 w (hs.res (k := 0) rfl)) ?_
        refine ld1 3 rfl rfl ?_
        refine ⟨by omega, by omega, ?_⟩
        refine .mk (sj c0.1) (fun w hs => hld02 w (hs.res (k := 1) rfl)) ?_
        iterate 2 refine ct e2 ?_
        refine ld1 2 rfl rfl ?_
        iterate 2 refine ct e2 ?_
        refine ⟨by omega, by omega, ?_⟩
        iterate 2 refine ct e2 ?_
        refine .mk c0.2.cs.toArray (by rw [List.size_toArray, CT.cs5]) (fun w hs => hld w (hs.res (k := 0) rfl)) ?_
        iterate 2 refine ct e2 ?_
        refine ld1 3 rfl rfl ?_
        iterate 2 refine ct e2 ?_
        refine ⟨by omega, by omega, ?_⟩
        iterate 2 refine ct e2 ?_
        refine .mk d0.2.cs.toArray (by rw [List.size_toArray, CT.cs5]) (fun w hs => hld2 w (hs.res (k := 1) rfl)) ?_
        refine ct e2 ?_
        refine cvs (fun w hs => ihp q c0 j0 hc0 hj0 d0.2 A B w ⟨(hs.res (k := 0) rfl : HeldT w A _ _).1, (hs.res (k := 0) rfl : HeldT w A _ _).2.kidp hc0 hj0⟩ ⟨(hs.res (k := 1) rfl : HeldT w B _ _).1, (hs.res (k := 1) rfl : HeldT w B _ _).2.kidp hd0 hj0⟩) ?_
        refine ⟨.cons (.cons (.cons (.cons .nil))), ?_⟩
        refine ct e2 ?_
        refine cf e1 ?_
        refine cf rfl ?_
        refine .as ((q + 1 : Nat) : Int) (by simp) (by simp only [mn]; omega) (by simp only [mx]; unfold maxLen at k3; omega) ?_
        exact ⟨q + 1, by omega, by omega, ⟨⟨rfl, rfl, rfl, trivial⟩, .cons (.cons (.cons (.cons .nil))), rfl⟩⟩
      · exact rt rfl
end Go.Proofs.YtpegkoklmhccjaaDoor
end
section
namespace Go.Proofs.YtpegkoklmhccjaaDoor
open Go.RowKit Go.Sx
set_option linter.unusedVariables false
theorem bsN1 (x0 : Int) (w : World) : (Instr.buildSlice 38 1 #[(0, .int .u8 x0)]).run Tryd.prog w = .ok (.slice (some ⟨w.heap.size, 0, none⟩) 1 1) (w.alloc (.cells #[.int .u8 x0] 5)) := by
  obtain ⟨i, hi, hz, hs, hb⟩ := infoOf info5
  exact run_buildSlice w _ _ 1 _ #[.int .u8 x0] i (.int .u8 0) und22 hi hz (by rw [hs]; decide) (by rw [hs]; decide) (by rw [hs]; kernel_rfl)
theorem ofN {n : Nat} (h : n < 256) : (((UInt8.ofNat n).toNat : Nat) : Int) = (n : Int) := by
  rw [UInt8.toNat_ofNat']; congr 1; exact Nat.mod_eq_of_lt h
set_option maxRecDepth 100000 in
theorem sgn_any (c : Nat) (h1 : c ≤ 1114111) (h2 : ¬ (55296 ≤ c ∧ c ≤ 57343)) (w : World) : Calls Tryd.prog 58 ([.int .i64 c] : List Value).toArray w fun e w' => ∃ r, e = .returned (sv r (encP c).length) ∧ Rw 1 (encP c).length r (Lib.byteCells (encP c)) ∧ Made w w' r (Lib.byteCells (encP c)) 5 ∧ Below w.heap.size w w' := by
  refine (enter tab_ok Tryd.func58 rfl Tryd.ntmps58 rfl (St.start w) (R := fun v w' => ∃ r, v = sv r (encP c).length ∧ Rw 1 (encP c).length r (Lib.byteCells (encP c)) ∧ Made w w' r (Lib.byteCells (encP c)) 5 ∧ Below w.heap.size w w') ?_).mono (fun e w' ⟨v, he, r, hv, h⟩ => ⟨r, by rw [he, hv], h⟩)
  refine cd (fun ha => ?_) (fun ha => ?_)
  · refine .same (by simp only [mn]; omega) (by simp only [mx]; omega) ?_
    refine .mk _ _ (fun w => bsN1 _ w) (fun b => ?_)
    have hx : Lib.byteCells (encP c) = [.int .u8 ((c : Nat) : Int)] := by
      unfold encP; rw [if_pos (by omega)]
      simp only [Lib.byteCells, List.map_cons, List.map_nil, List.cons.injEq, Value.int.injEq, true_and, and_true]
      refine ofN (by omega)
    have hl : (encP c).length = 1 := by have := congrArg List.length hx; simpa [Lib.byteCells] using this
    rw [hx, hl]
    exact ⟨fun w1 hs1 => ⟨some (b, 1, []), rfl, ⟨rfl, Nat.le_refl _, by unfold maxLen; decide, rfl⟩, made_of hs1 rfl 0 rfl, hs1.below⟩⟩
  refine cd (fun hb => ?_) (fun hb => ?_)
  · refine ⟨by omega, by simp only [mx]; omega, by decide, ?_⟩
    refine .as ((192 + c / 64 : Nat) : Int) (by omega) (by simp only [mn]; omega) (by simp only [mx]; omega) ?_
    refine .same (by simp only [mn]; omega) (by simp only [mx]; omega) ?_
    refine ⟨by omega, by simp only [mx]; omega, by decide, ?_⟩
    refine .as ((128 + c % 64 : Nat) : Int) (by omega) (by simp only [mn]; omega) (by simp only [mx]; omega) ?_
    refine .same (by simp only [mn]; omega) (by simp only [mx]; omega) ?_
    refine .mk _ _ (fun w => bsN2 _ _ w) (fun b => ?_)
    have hx : Lib.byteCells (encP c) = [.int .u8 ((192 + c / 64 : Nat) : Int), .int .u8 ((128 + c % 64 : Nat) : Int)] := by
      unfold encP; rw [if_neg (by omega), if_pos (by omega)]
      simp only [Lib.byteCells, List.map_cons, List.map_nil, List.cons.injEq, Value.int.injEq, true_and, and_true]
      refine ⟨ofN (by omega), ofN (by omega)⟩
    have hl : (encP c).length = 2 := by have := congrArg List.length hx; simpa [Lib.byteCells] using this
    rw [hx, hl]
    exact ⟨fun w1 hs1 => ⟨some (b, 2, []), rfl, ⟨rfl, Nat.le_refl _, by unfold maxLen; decide, rfl⟩, made_of hs1 rfl 0 rfl, hs1.below⟩⟩
  refine cd (fun hc => ?_) (fun hc => ?_)
  · refine ⟨by omega, by simp only [mx]; omega, by decide, ?_⟩
    refine .as ((224 + c / 4096 : Nat) : Int) (by omega) (by simp only [mn]; omega) (by simp only [mx]; omega) ?_
    refine .same (by simp only [mn]; omega) (by simp only [mx]; omega) ?_
    refine ⟨by omega, by simp only [mx]; omega, by decide, ?_⟩
    refine ⟨by omega, by simp only [mx]; omega, by decide, ?_⟩
    refine .as ((128 + c / 64 % 64 : Nat) : Int) (by omega) (by simp only [mn]; omega) (by simp only [mx]; omega) ?_
    refine .same (by simp only [mn]; omega) (by simp only [mx]; omega) ?_
    refine ⟨by omega, by simp only [mx]; omega, by decide, ?_⟩
    refine .as ((128 + c % 64 : Nat) : Int) (by omega) (by simp only [mn]; omega) (by simp only [mx]; omega) ?_
    refine .same (by simp only [mn]; omega) (by simp only [mx]; omega) ?_
    refine .mk _ _ (fun w => bsN3 _ _ _ w) (fun b => ?_)
    have hx : Lib.byteCells (encP c) = [.int .u8 ((224 + c / 4096 : Nat) : Int), .int .u8 ((128 + c / 64 % 64 : Nat) : Int), .int .u8 ((128 + c % 64 : Nat) : Int)] := by
      unfold encP; rw [if_neg (by omega), if_neg (by omega), if_pos (by omega)]
      simp only [Lib.byteCells, List.map_cons, List.map_nil, List.cons.injEq, Value.int.injEq, true_and, and_true]
      refine ⟨ofN (by omega), ofN (by omega), ofN (by omega)⟩
    have hl : (encP c).length = 3 := by have := congrArg List.length hx; simpa [Lib.byteCells] using this
    rw [hx, hl]
    exact ⟨fun w1 hs1 => ⟨some (b, 3, []), rfl, ⟨rfl, Nat.le_refl _, by unfold maxLen; decide, rfl⟩, made_of hs1 rfl 0 rfl, hs1.below⟩⟩
  refine ⟨by omega, by simp only [mx]; omega, by decide, ?_⟩
  refine .as ((240 + c / 262144 : Nat) : Int) (by omega) (by simp only [mn]; omega) (by simp only [mx]; omega) ?_
  refine .same (by simp only [mn]; omega) (by simp only [mx]; omega) ?_
  refine ⟨by omega, by simp only [mx]; omega, by decide, ?_⟩
  refine ⟨by omega, by simp only [mx]; omega, by decide, ?_⟩
  refine .as ((128 + c / 4096 % 64 : Nat) : Int) (by omega) (by simp only [mn]; omega) (by simp only [mx]; omega) ?_
  refine .same (by simp only [mn]; omega) (by simp only [mx]; omega) ?_
  refine ⟨by omega, by simp only [mx]; omega, by decide, ?_⟩
  refine ⟨by omega, by simp only [mx]; omega, by decide, ?_⟩
  refine .as ((128 + c / 64 % 64 : Nat) : Int) (by omega) (by simp only [mn]; omega) (by simp only [mx]; omega) ?_
  refine .same (by simp only [mn]; omega) (by simp only [mx]; omega) ?_
  refine ⟨by omega, by simp only [mx]; omega, by decide, ?_⟩
  refine .as ((128 + c % 64 : Nat) : Int) (by omega) (by simp only [mn]; omega) (by simp only [mx]; omega) ?_
  refine .same (by simp only [mn]; omega) (by simp only [mx]; omega) ?_
  refine .mk _ _ (fun w => bsN4 _ _ _ _ w) (fun b => ?_)
  have hx : Lib.byteCells (encP c) = [.int .u8 ((240 + c / 262144 : Nat) : Int), .int .u8 ((128 + c / 4096 % 64 : Nat) : Int), .int .u8 ((128 + c / 64 % 64 : Nat) : Int), .int .u8 ((128 + c % 64 : Nat) : Int)] := by
    unfold encP; rw [if_neg (by omega), if_neg (by omega), if_neg (by omega), if_pos (by omega)]
    simp only [Lib.byteCells, List.map_cons, List.map_nil, List.cons.injEq, Value.int.injEq, true_and, and_true]
    refine ⟨ofN (by omega), ofN (by omega), ofN (by omega), ofN (by omega)⟩
  have hl : (encP c).length = 4 := by have := congrArg List.length hx; simpa [Lib.byteCells] using this
  rw [hx, hl]
  exact ⟨fun w1 hs1 => ⟨some (b, 4, []), rfl, ⟨rfl, Nat.le_refl _, by unfold maxLen; decide, rfl⟩, made_of hs1 rfl 0 rfl, hs1.below⟩⟩
end Go.Proofs.YtpegkoklmhccjaaDoor
end
section
namespace Go.Proofs.YtpegkoklmhccjaaDoor
open Go.RowKit Go.Sx
set_option linter.unusedVariables false
/-- what a sign's bytes come to -/
def ccF (s : Bs) (c0 : Nat) : Nat → Nat
  | 0 => c0
  | q + 1 => 64 * ccF s c0 q + ((s[q + 1]?.getD 128).toNat - 128)
theorem ccF_lt (s : Bs) (c0 : Nat) (h0 : c0 < 128) : ∀ q, (∀ j c, 1 ≤ j → j ≤ q → s[j]? = some c → 128 ≤ c.toNat ∧ c.toNat ≤ 191) → ccF s c0 q < 128 * 64 ^ q := by
  intro q
  induction q with
  | zero => intro _; show c0 < 128 * 64 ^ 0; omega
  | succ q ih =>
    intro h
    have := ih fun j c h1 h2 => h j c h1 (by omega)
    have hb : (s[q + 1]?.getD 128).toNat - 128 ≤ 63 := by
      cases hs : s[q + 1]? with
      | none => decide
      | some c => have := h (q + 1) c (by omega) (by omega) hs; simp only [Option.getD_some]; omega
    show 64 * ccF s c0 q + _ < 128 * 64 ^ (q + 1)
    rw [Nat.pow_succ]
    omega
/-- the reference's answer -/
def fstV (s : Bs) : Value := match decP s with
  | none => .tuple #[.int .i64 0, .int .i64 0]
  | some (c, z) => .tuple #[.int .i64 (c : Nat), .int .i64 (z : Nat)]
def okS (c sz : Nat) (s : Bs) : Prop := c ≤ 1114111 ∧ ¬ (55296 ≤ c ∧ c ≤ 57343) ∧ encP c = s.take sz
/-- which sign begins with which byte -/
structure Cls (a sz c0 : Nat) : Prop where
  h : (sz = 2 ∧ 192 ≤ a ∧ a < 224 ∧ c0 = a - 192) ∨ (sz = 3 ∧ 224 ≤ a ∧ a < 240 ∧ c0 = a - 224) ∨ (sz = 4 ∧ 240 ≤ a ∧ a < 256 ∧ c0 = a - 240)
theorem decQ_cls {a : UInt8} {r : Bs} {sz c0 : Nat} (hc : Cls a.toNat sz c0) : decP (a :: r) = decQ a.toNat r := by
  show (if a.toNat < 128 then _ else _) = _
  rw [if_neg (by rcases hc.h with h | h | h <;> omega)]
theorem encP_l1 {c : Nat} (h : c < 128) : (encP c).length = 1 := by unfold encP; rw [if_pos (by omega)]; rfl
theorem encP_l2 {c : Nat} (h : 128 ≤ c) (h2 : c < 2048) : encP c = [UInt8.ofNat (192 + c / 64), UInt8.ofNat (128 + c % 64)] := by unfold encP; rw [if_neg (by omega), if_pos (by omega)]
theorem encP_l3 {c : Nat} (h : 2048 ≤ c) (h2 : c < 65536) (h3 : ¬ (55296 ≤ c ∧ c ≤ 57343)) : encP c = [UInt8.ofNat (224 + c / 4096), UInt8.ofNat (128 + c / 64 % 64), UInt8.ofNat (128 + c % 64)] := by unfold encP; rw [if_neg (by omega), if_neg (by omega), if_pos (by omega)]
theorem encP_l4 {c : Nat} (h : 65536 ≤ c) (h2 : c ≤ 1114111) : encP c = [UInt8.ofNat (240 + c / 262144), UInt8.ofNat (128 + c / 4096 % 64), UInt8.ofNat (128 + c / 64 % 64), UInt8.ofNat (128 + c % 64)] := by unfold encP; rw [if_neg (by omega), if_neg (by omega), if_neg (by omega), if_pos (by omega)]
theorem ofNe {n : Nat} {b : UInt8} (h : n = b.toNat) : UInt8.ofNat n = b := by apply UInt8.toNat_inj.1; rw [UInt8.toNat_ofNat', h]; exact Nat.mod_eq_of_lt b.toNat_lt
/-- where a byte behind the first one isn't such, there is no sign -/
theorem dec_bad {a : UInt8} {r : Bs} {sz c0 : Nat} (hc : Cls a.toNat sz c0) (hor : (a :: r).length < sz ∨ ∃ j c, 1 ≤ j ∧ j < sz ∧ (a :: r)[j]? = some c ∧ ¬ (128 ≤ c.toNat ∧ c.toNat ≤ 191)) : decP (a :: r) = none := by
  cases hd : decP (a :: r) with
  | none => rfl
  | some p =>
    exfalso
    obtain ⟨c, z⟩ := p
    rw [decQ_cls hc] at hd
    obtain ⟨h⟩ := hc
    unfold decQ at hd
    split at hd
    · cases hd
    · rename_i z0 lo hi hcl
      have hz : z0 = sz ∧ 128 ≤ lo ∧ hi ≤ 191 := by
        unfold clsP at hcl
        repeat' split at hcl
        all_goals (first | (cases hcl; done) | (injection hcl with hcl; injection hcl with k1 hcl; injection hcl with k2 k3; omega))
      obtain ⟨rfl, hlo, hhi⟩ := hz
      cases r with
      | nil => cases hd
      | cons b1 r1 =>
        dsimp only at hd
        split at hd
        · cases hd
        · rename_i hb1
          split at hd
          · rename_i hz2
            rcases hor with hl | ⟨j, x, j1, j2, jx, jn⟩
            · simp only [List.length_cons] at hl; omega
            · obtain rfl : j = 1 := by omega
              obtain rfl : b1 = x := by simpa using jx
              omega
          · rename_i hz2
            cases r1 with
            | nil => cases hd
            | cons b2 r2 =>
              dsimp only at hd
              split at hd
              · cases hd
              · rename_i hb2
                split at hd
                · rename_i hz3
                  rcases hor with hl | ⟨j, x, j1, j2, jx, jn⟩
                  · simp only [List.length_cons] at hl; omega
                  · obtain rfl | rfl : j = 1 ∨ j = 2 := by omega
                    · obtain rfl : b1 = x := by simpa using jx
                      omega
                    · obtain rfl : b2 = x := by simpa using jx
                      omega
                · rename_i hz3
                  cases r2 with
                  | nil => cases hd
                  | cons b3 r3 =>
                    dsimp only at hd
                    split at hd
                    · cases hd
                    · rename_i hb3
                      rcases hor with hl | ⟨j, x, j1, j2, jx, jn⟩
                      · simp only [List.length_cons] at hl; rcases h with h | h | h <;> omega
                      · obtain rfl | rfl | rfl : j = 1 ∨ j = 2 ∨ j = 3 := by rcases h with h | h | h <;> omega
                        · obtain rfl : b1 = x := by simpa using jx
                          omega
                        · obtain rfl : b2 = x := by simpa using jx
                          omega
                        · obtain rfl : b3 = x := by simpa using jx
                          omega
set_option maxRecDepth 100000 in
/-- else the sign is what the bytes come to, where it is one, and they are its own -/
theorem dec_good {a : UInt8} {r : Bs} {sz c0 : Nat} (hc : Cls a.toNat sz c0) (hl : sz ≤ (a :: r).length) (h : ∀ j c, 1 ≤ j → j < sz → (a :: r)[j]? = some c → 128 ≤ c.toNat ∧ c.toNat ≤ 191) :
    (okS (ccF (a :: r) c0 (sz - 1)) sz (a :: r) → decP (a :: r) = some (ccF (a :: r) c0 (sz - 1), sz)) ∧ (¬ okS (ccF (a :: r) c0 (sz - 1)) sz (a :: r) → decP (a :: r) = none) := by
  rw [decQ_cls hc]
  unfold okS
  rcases hc.h with ⟨rfl, h1, h2, rfl⟩ | ⟨rfl, h1, h2, rfl⟩ | ⟨rfl, h1, h2, rfl⟩
  · match r, hl with
    | b1 :: r, _ =>
      have k1 := h 1 b1 (by omega) (by omega) rfl
      have e : ccF (a :: b1 :: r) (a.toNat - 192) (2 - 1) = 64 * (a.toNat - 192) + (b1.toNat - 128) := rfl
      rw [e]
      generalize hcc : 64 * (a.toNat - 192) + (b1.toNat - 128) = c
      have et : (a :: b1 :: r).take 2 = [a, b1] := rfl
      rw [et]
      by_cases h4 : a.toNat < 194
      · have hd : decQ a.toNat (b1 :: r) = none := by unfold decQ clsP; rw [if_pos h4]
        rw [hd]
        refine ⟨fun ⟨_, _, h5⟩ => ?_, fun _ => rfl⟩
        have := congrArg List.length h5
        rw [encP_l1 (by omega)] at this; simp at this
      · have hd : decQ a.toNat (b1 :: r) = some (c, 2) := by
          unfold decQ clsP; rw [if_neg h4, if_pos h2]; dsimp only; rw [if_neg (by omega), if_pos rfl]
          congr 2; omega
        rw [hd]
        refine ⟨fun _ => rfl, fun hn => absurd ⟨by omega, by omega, ?_⟩ hn⟩
        rw [encP_l2 (by omega) (by omega), ofNe (b := a) (by omega), ofNe (b := b1) (by omega)]
  · match r, hl with
    | b1 :: b2 :: r, _ =>
      have k1 := h 1 b1 (by omega) (by omega) rfl
      have k2 := h 2 b2 (by omega) (by omega) rfl
      have e : ccF (a :: b1 :: b2 :: r) (a.toNat - 224) (3 - 1) = 64 * (64 * (a.toNat - 224) + (b1.toNat - 128)) + (b2.toNat - 128) := rfl
      rw [e]
      generalize hcc : 64 * (64 * (a.toNat - 224) + (b1.toNat - 128)) + (b2.toNat - 128) = c
      have et : (a :: b1 :: b2 :: r).take 3 = [a, b1, b2] := rfl
      rw [et]
      have hd : decQ a.toNat (b1 :: b2 :: r) = if (a.toNat = 224 ∧ b1.toNat < 160) ∨ (a.toNat = 237 ∧ 159 < b1.toNat) then none else some (c, 3) := by
        have fin : ∀ lo hi, clsP a.toNat = some (3, lo, hi) → decQ a.toNat (b1 :: b2 :: r) = if b1.toNat < lo ∨ hi < b1.toNat then none else some (c, 3) := fun lo hi hcl => by
          unfold decQ; rw [hcl]; dsimp only
          split
          · rfl
          · rw [if_neg (by omega), if_neg (by omega), if_pos rfl]; congr 2; omega
        by_cases c1 : a.toNat = 224
        · rw [fin 160 191 (by unfold clsP; rw [if_neg (by omega), if_neg (by omega), if_pos c1])]
          by_cases c2 : b1.toNat < 160
          · rw [if_pos (by omega), if_pos (by omega)]
          · rw [if_neg (by omega), if_neg (by omega)]
        · by_cases c3 : a.toNat = 237
          · rw [fin 128 159 (by unfold clsP; rw [if_neg (by omega), if_neg (by omega), if_neg c1, if_pos c3])]
            by_cases c2 : 159 < b1.toNat
            · rw [if_pos (by omega), if_pos (by omega)]
            · rw [if_neg (by omega), if_neg (by omega)]
          · rw [fin 128 191 (by unfold clsP; rw [if_neg (by omega), if_neg (by omega), if_neg c1, if_neg c3, if_pos (by omega)]), if_neg (by omega), if_neg (by omega)]
      rw [hd]
      by_cases hbad : (a.toNat = 224 ∧ b1.toNat < 160) ∨ (a.toNat = 237 ∧ 159 < b1.toNat)
      · rw [if_pos hbad]
        refine ⟨fun ⟨_, h6, h5⟩ => ?_, fun _ => rfl⟩
        rcases hbad with hb | hb
        · have := congrArg List.length h5
          by_cases hc1 : c < 128
          · rw [encP_l1 hc1] at this; simp at this
          · rw [encP_l2 (by omega) (by omega)] at this; simp at this
        · omega
      · rw [if_neg hbad]
        refine ⟨fun _ => rfl, fun hn => absurd ⟨by omega, by omega, ?_⟩ hn⟩
        rw [encP_l3 (by omega) (by omega) (by omega), ofNe (b := a) (by omega), ofNe (b := b1) (by omega), ofNe (b := b2) (by omega)]
  · match r, hl with
    | b1 :: b2 :: b3 :: r, _ =>
      have k1 := h 1 b1 (by omega) (by omega) rfl
      have k2 := h 2 b2 (by omega) (by omega) rfl
      have k3 := h 3 b3 (by omega) (by omega) rfl
      have e : ccF (a :: b1 :: b2 :: b3 :: r) (a.toNat - 240) (4 - 1) = 64 * (64 * (64 * (a.toNat - 240) + (b1.toNat - 128)) + (b2.toNat - 128)) + (b3.toNat - 128) := rfl
      rw [e]
      generalize hcc : 64 * (64 * (64 * (a.toNat - 240) + (b1.toNat - 128)) + (b2.toNat - 128)) + (b3.toNat - 128) = c
      have et : (a :: b1 :: b2 :: b3 :: r).take 4 = [a, b1, b2, b3] := rfl
      rw [et]
      have hd : decQ a.toNat (b1 :: b2 :: b3 :: r) = if (a.toNat = 240 ∧ b1.toNat < 144) ∨ (a.toNat = 244 ∧ 143 < b1.toNat) ∨ 244 < a.toNat then none else some (c, 4) := by
        have fin : ∀ lo hi, clsP a.toNat = some (4, lo, hi) → a.toNat ≤ 244 → decQ a.toNat (b1 :: b2 :: b3 :: r) = if b1.toNat < lo ∨ hi < b1.toNat then none else some (c, 4) := fun lo hi hcl ha => by
          unfold decQ; rw [hcl]; dsimp only
          split
          · rfl
          · rw [if_neg (by omega), if_neg (by omega), if_neg (by omega), if_neg (by omega)]; congr 2; omega
        by_cases c0 : 244 < a.toNat
        · rw [if_pos (by omega)]
          unfold decQ clsP; rw [if_neg (by omega), if_neg (by omega), if_neg (by omega), if_neg (by omega), if_neg (by omega), if_neg (by omega), if_neg (by omega), if_neg (by omega)]
        by_cases c1 : a.toNat = 240
        · rw [fin 144 191 (by unfold clsP; rw [if_neg (by omega), if_neg (by omega), if_neg (by omega), if_neg (by omega), if_neg (by omega), if_pos c1]) (by omega)]
          by_cases c2 : b1.toNat < 144
          · rw [if_pos (by omega), if_pos (by omega)]
          · rw [if_neg (by omega), if_neg (by omega)]
        · by_cases c3 : a.toNat = 244
          · rw [fin 128 143 (by unfold clsP; rw [if_neg (by omega), if_neg (by omega), if_neg (by omega), if_neg (by omega), if_neg (by omega), if_neg c1, if_neg (by omega), if_pos c3]) (by omega)]
            by_cases c2 : 143 < b1.toNat
            · rw [if_pos (by omega), if_pos (by omega)]
            · rw [if_neg (by omega), if_neg (by omega)]
          · rw [fin 128 191 (by unfold clsP; rw [if_neg (by omega), if_neg (by omega), if_neg (by omega), if_neg (by omega), if_neg (by omega), if_neg c1, if_pos (by omega)]) (by omega), if_neg (by omega), if_neg (by omega)]
      rw [hd]
      by_cases hbad : (a.toNat = 240 ∧ b1.toNat < 144) ∨ (a.toNat = 244 ∧ 143 < b1.toNat) ∨ 244 < a.toNat
      · rw [if_pos hbad]
        refine ⟨fun ⟨h6, h7, h5⟩ => ?_, fun _ => rfl⟩
        rcases hbad with hb | hb | hb
        · have := congrArg List.length h5
          by_cases hc1 : c < 128
          · rw [encP_l1 hc1] at this; simp at this
          · by_cases hc2 : c < 2048
            · rw [encP_l2 (by omega) (by omega)] at this; simp at this
            · rw [encP_l3 (by omega) (by omega) (by omega)] at this; simp at this
        · omega
        · omega
      · rw [if_neg hbad]
        refine ⟨fun _ => rfl, fun hn => absurd ⟨by omega, by omega, ?_⟩ hn⟩
        rw [encP_l4 (by omega) (by omega), ofNe (b := a) (by omega), ofNe (b := b1) (by omega), ofNe (b := b2) (by omega), ofNe (b := b3) (by omega)]
end Go.Proofs.YtpegkoklmhccjaaDoor
end
section
namespace Go.Proofs.YtpegkoklmhccjaaDoor
open Go.RowKit Go.Sx
set_option linter.unusedVariables false
set_option maxRecDepth 100000 in
set_option maxHeartbeats 4000000 in
theorem fst_any (va : Option Addr) (ca : Nat) (s : Bs) (hca : s.length ≤ ca) (w : World) (hv0 : Rd w (.slice va s.length ca) (Lib.byteCells s)) : Calls Tryd.prog 43 ([.slice va s.length ca] : List Value).toArray w fun e w' => e = .returned (fstV s) ∧ Below w.heap.size w w' := by
  refine enterV tab_ok Tryd.func43 rfl Tryd.ntmps43 rfl (St.start w) ?_
  cases s with
  | nil =>
    refine ct rfl ?_
    exact rt rfl
  | cons a r =>
    obtain ⟨b, o, rfl⟩ := hv0.addr (by simp [Lib.byteCells])
    have hb0 : (Lib.byteCells (a :: r))[0]? = some (.int .u8 a.toNat) := rfl
    have hat : ∀ w', Below w.heap.size w w' → ∀ (i : Nat) (c : UInt8), (a :: r)[i]? = some c → w'.cell? ⟨b, nad o (nmu ((i : Nat) : Int).toNat 1), none⟩ = some (.int .u8 c.toNat) := fun w' hb i c hc => (hv0.below hb).at (by simp only [Lib.byteCells, List.getElem?_map, hc]; rfl) rfl
    have hlen : 1 ≤ (a :: r).length := by simp
    have h255 := a.toNat_lt
    generalize hsl : (a :: r).length = n at *
    refine cf (by rw [beq_eq_false_iff_ne]; omega) ?_
    refine ⟨by omega, by omega, ?_⟩
    refine .mk (.int .u8 a.toNat) (fun w' hs => hat w' hs.below 0 a rfl) ?_
    by_cases hB : 128 ≤ a.toNat ∧ a.toNat < 192
    · refine .same (by simp only [mn]; omega) (by simp only [mx]; omega) ?_
      refine cf (decide_eq_false (by omega)) ?_
      have p1 : decide (((a.toNat : Nat) : Int) ≥ 32) = true := decide_eq_true (by omega)
      have p2 : (decide (((a.toNat : Nat) : Int) ≥ 32) == true) = true := by rw [p1]; rfl
      iterate 2 refine ct p2 ?_
      refine ct p1 ?_
      refine cf rfl ?_
      have q1 : decide (((a.toNat : Nat) : Int) ≥ 16) = true := decide_eq_true (by omega)
      have q2 : (decide (((a.toNat : Nat) : Int) ≥ 16) == true) = true := by rw [q1]; rfl
      iterate 2 refine ct q2 ?_
      refine ct q1 ?_
      refine cf rfl ?_
      have g1 : decide (((a.toNat : Nat) : Int) ≥ 128) = true := decide_eq_true (by omega)
      have g2 : (decide (((a.toNat : Nat) : Int) ≥ 128) == false) = false := by rw [g1]; rfl
      iterate 2 refine ct rfl ?_
      refine ct rfl ?_
      iterate 4 refine cf g2 ?_
      refine ct g1 ?_
      refine ct rfl ?_
      refine rt ?_
      have hd : decP (a :: r) = none := by
        show (if a.toNat < 128 then _ else decQ a.toNat r) = none
        rw [if_neg (by omega)]; unfold decQ clsP; rw [if_pos (by omega)]
      unfold fstV; rw [hd]; rfl
    have hcl : a.toNat < 16 ∨ (16 ≤ a.toNat ∧ a.toNat < 32) ∨ (32 ≤ a.toNat ∧ a.toNat < 128) ∨ (192 ≤ a.toNat ∧ a.toNat < 208) ∨ (208 ≤ a.toNat ∧ a.toNat < 224) ∨ (224 ≤ a.toNat ∧ a.toNat < 240) ∨ 240 ≤ a.toNat := by omega
    have hone : a.toNat < 128 → (∀ sz, sz = 1 → (okS (ccF (a :: r) a.toNat (sz - 1)) sz (a :: r) → decP (a :: r) = some (ccF (a :: r) a.toNat (sz - 1), sz)) ∧ (¬ okS (ccF (a :: r) a.toNat (sz - 1)) sz (a :: r) → decP (a :: r) = none)) := fun h sz hsz => by
      subst hsz
      have hd : decP (a :: r) = some (a.toNat, 1) := by show (if a.toNat < 128 then _ else _) = _; rw [if_pos h]
      refine ⟨fun _ => hd, fun hn => absurd ⟨?_, ?_, ?_⟩ hn⟩
      · show a.toNat ≤ _; omega
      · show ¬ (_ ≤ a.toNat ∧ _); omega
      · show encP a.toNat = [a]
        unfold encP; rw [if_pos (by omega), ofNe (b := a) rfl]
    rcases hcl with hx | hx | hx | hx | hx | hx | hx
    have hlo : 0 ≤ a.toNat ∧ a.toNat < 16 := by omega
    obtain ⟨c0, hc0⟩ : ∃ c0 : Nat, c0 = a.toNat := ⟨_, rfl⟩
    obtain ⟨sz, hsz⟩ : ∃ sz : Nat, sz = 1 := ⟨_, rfl⟩
    refine .as ((c0 : Nat) : Int) (by omega) (by simp only [mn]; omega) (by simp only [mx]; omega) ?_
    refine cf (decide_eq_false (by omega)) ?_
    have p1 : decide (((c0 : Nat) : Int) ≥ 32) = false := decide_eq_false (by omega)
    have p2 : (decide (((c0 : Nat) : Int) ≥ 32) == true) = false := by rw [p1]; rfl
    iterate 2 refine cf p2 ?_
    refine cf p1 ?_
    refine cf rfl ?_
    have q1 : decide (((c0 : Nat) : Int) ≥ 16) = false := decide_eq_false (by omega)
    have q2 : (decide (((c0 : Nat) : Int) ≥ 16) == true) = false := by rw [q1]; rfl
    iterate 2 refine cf q2 ?_
    refine cf q1 ?_
    refine cf rfl ?_
    have g1 : decide (((c0 : Nat) : Int) ≥ 128) = false := decide_eq_false (by omega)
    have g2 : (decide (((c0 : Nat) : Int) ≥ 128) == false) = true := by rw [g1]; rfl
    iterate 2 refine ct rfl ?_
    refine ct rfl ?_
    iterate 4 refine ct g2 ?_
    refine cf g1 ?_
    refine cf (decide_eq_false (by omega)) ?_
    have hgood : (∀ j c, 1 ≤ j → j < sz → (a :: r)[j]? = some c → 128 ≤ c.toNat ∧ c.toNat ≤ 191) → (okS (ccF (a :: r) c0 (sz - 1)) sz (a :: r) → decP (a :: r) = some (ccF (a :: r) c0 (sz - 1), sz)) ∧ (¬ okS (ccF (a :: r) c0 (sz - 1)) sz (a :: r) → decP (a :: r) = none) := fun _ => by rw [hc0]; exact hone (by omega) sz hsz
    have hbad : (∃ j c, 1 ≤ j ∧ j < sz ∧ (a :: r)[j]? = some c ∧ ¬ (128 ≤ c.toNat ∧ c.toNat ≤ 191)) → decP (a :: r) = none := fun ⟨j, c, h1, h2, _⟩ => by omega
    have hn1 : sz ≤ n := by omega
    have hsz4 : 1 ≤ sz ∧ sz ≤ 4 ∧ sz ≤ n ∧ c0 < 128 := by omega
    clear hn1
    rotate_left
    have hlo : 16 ≤ a.toNat ∧ a.toNat < 32 := by omega
    obtain ⟨c0, hc0⟩ : ∃ c0 : Nat, c0 = a.toNat := ⟨_, rfl⟩
    obtain ⟨sz, hsz⟩ : ∃ sz : Nat, sz = 1 := ⟨_, rfl⟩
    refine .as ((c0 : Nat) : Int) (by omega) (by simp only [mn]; omega) (by simp only [mx]; omega) ?_
    refine cf (decide_eq_false (by omega)) ?_
    have p1 : decide (((c0 : Nat) : Int) ≥ 32) = false := decide_eq_false (by omega)
    have p2 : (decide (((c0 : Nat) : Int) ≥ 32) == true) = false := by rw [p1]; rfl
    iterate 2 refine cf p2 ?_
    refine cf p1 ?_
    refine cf rfl ?_
    have q1 : decide (((c0 : Nat) : Int) ≥ 16) = true := decide_eq_true (by omega)
    have q2 : (decide (((c0 : Nat) : Int) ≥ 16) == true) = true := by rw [q1]; rfl
    iterate 2 refine ct q2 ?_
    refine ct q1 ?_
    refine cf rfl ?_
    have g1 : decide (((c0 : Nat) : Int) ≥ 128) = false := decide_eq_false (by omega)
    have g2 : (decide (((c0 : Nat) : Int) ≥ 128) == false) = true := by rw [g1]; rfl
    iterate 2 refine ct rfl ?_
    refine ct rfl ?_
    iterate 4 refine ct g2 ?_
    refine cf g1 ?_
    refine cf (decide_eq_false (by omega)) ?_
    have hgood : (∀ j c, 1 ≤ j → j < sz → (a :: r)[j]? = some c → 128 ≤ c.toNat ∧ c.toNat ≤ 191) → (okS (ccF (a :: r) c0 (sz - 1)) sz (a :: r) → decP (a :: r) = some (ccF (a :: r) c0 (sz - 1), sz)) ∧ (¬ okS (ccF (a :: r) c0 (sz - 1)) sz (a :: r) → decP (a :: r) = none) := fun _ => by rw [hc0]; exact hone (by omega) sz hsz
    have hbad : (∃ j c, 1 ≤ j ∧ j < sz ∧ (a :: r)[j]? = some c ∧ ¬ (128 ≤ c.toNat ∧ c.toNat ≤ 191)) → decP (a :: r) = none := fun ⟨j, c, h1, h2, _⟩ => by omega
    have hn1 : sz ≤ n := by omega
    have hsz4 : 1 ≤ sz ∧ sz ≤ 4 ∧ sz ≤ n ∧ c0 < 128 := by omega
    clear hn1
    rotate_left
    have hlo : 32 ≤ a.toNat ∧ a.toNat < 128 := by omega
    obtain ⟨c0, hc0⟩ : ∃ c0 : Nat, c0 = a.toNat := ⟨_, rfl⟩
    obtain ⟨sz, hsz⟩ : ∃ sz : Nat, sz = 1 := ⟨_, rfl⟩
    refine .as ((c0 : Nat) : Int) (by omega) (by simp only [mn]; omega) (by simp only [mx]; omega) ?_
    refine cf (decide_eq_false (by omega)) ?_
    have p1 : decide (((c0 : Nat) : Int) ≥ 32) = true := decide_eq_true (by omega)
    have p2 : (decide (((c0 : Nat) : Int) ≥ 32) == true) = true := by rw [p1]; rfl
    iterate 2 refine ct p2 ?_
    refine ct p1 ?_
    refine cf rfl ?_
    have q1 : decide (((c0 : Nat) : Int) ≥ 16) = true := decide_eq_true (by omega)
    have q2 : (decide (((c0 : Nat) : Int) ≥ 16) == true) = true := by rw [q1]; rfl
    iterate 2 refine ct q2 ?_
    refine ct q1 ?_
    refine cf rfl ?_
    have g1 : decide (((c0 : Nat) : Int) ≥ 128) = false := decide_eq_false (by omega)
    have g2 : (decide (((c0 : Nat) : Int) ≥ 128) == false) = true := by rw [g1]; rfl
    iterate 2 refine ct rfl ?_
    refine ct rfl ?_
    iterate 4 refine ct g2 ?_
    refine cf g1 ?_
    refine cf (decide_eq_false (by omega)) ?_
    have hgood : (∀ j c, 1 ≤ j → j < sz → (a :: r)[j]? = some c → 128 ≤ c.toNat ∧ c.toNat ≤ 191) → (okS (ccF (a :: r) c0 (sz - 1)) sz (a :: r) → decP (a :: r) = some (ccF (a :: r) c0 (sz - 1), sz)) ∧ (¬ okS (ccF (a :: r) c0 (sz - 1)) sz (a :: r) → decP (a :: r) = none) := fun _ => by rw [hc0]; exact hone (by omega) sz hsz
    have hbad : (∃ j c, 1 ≤ j ∧ j < sz ∧ (a :: r)[j]? = some c ∧ ¬ (128 ≤ c.toNat ∧ c.toNat ≤ 191)) → decP (a :: r) = none := fun ⟨j, c, h1, h2, _⟩ => by omega
    have hn1 : sz ≤ n := by omega
    have hsz4 : 1 ≤ sz ∧ sz ≤ 4 ∧ sz ≤ n ∧ c0 < 128 := by omega
    clear hn1
    rotate_left
    have hlo : 192 ≤ a.toNat ∧ a.toNat < 208 := by omega
    obtain ⟨c0, hc0⟩ : ∃ c0 : Nat, c0 = a.toNat - 192 := ⟨_, rfl⟩
    obtain ⟨sz, hsz⟩ : ∃ sz : Nat, sz = 2 := ⟨_, rfl⟩
    refine .same (by simp only [mn]; omega) (by simp only [mx]; omega) ?_
    refine ct (decide_eq_true (by omega)) ?_
    refine .as ((c0 : Nat) : Int) (by omega) (by simp only [mn]; omega) (by simp only [mx]; omega) ?_
    have p1 : decide (((c0 : Nat) : Int) ≥ 32) = false := decide_eq_false (by omega)
    have p2 : (decide (((c0 : Nat) : Int) ≥ 32) == true) = false := by rw [p1]; rfl
    iterate 2 refine cf p2 ?_
    refine cf p1 ?_
    refine cf rfl ?_
    have q1 : decide (((c0 : Nat) : Int) ≥ 16) = false := decide_eq_false (by omega)
    have q2 : (decide (((c0 : Nat) : Int) ≥ 16) == true) = false := by rw [q1]; rfl
    iterate 2 refine cf q2 ?_
    refine cf q1 ?_
    refine cf rfl ?_
    iterate 2 refine cf rfl ?_
    refine cf rfl ?_
    iterate 4 refine ct rfl ?_
    refine cf rfl ?_
    have hcc : Cls a.toNat sz c0 := ⟨by omega⟩
    by_cases hn1 : n < sz
    · refine ct (decide_eq_true (by omega)) ?_
      refine rt ?_
      have hd := dec_bad hcc (.inl (by rw [hsl]; exact hn1))
      unfold fstV; rw [hd]; rfl
    refine cf (decide_eq_false (by omega)) ?_
    have hgood := dec_good (r := r) hcc (by rw [hsl]; omega)
    have hbad : (∃ j c, 1 ≤ j ∧ j < sz ∧ (a :: r)[j]? = some c ∧ ¬ (128 ≤ c.toNat ∧ c.toNat ≤ 191)) → decP (a :: r) = none := fun h => dec_bad hcc (.inr h)
    have hsz4 : 1 ≤ sz ∧ sz ≤ 4 ∧ sz ≤ n ∧ c0 < 128 := by omega
    clear hn1
    rotate_left
    have hlo : 208 ≤ a.toNat ∧ a.toNat < 224 := by omega
    obtain ⟨c0, hc0⟩ : ∃ c0 : Nat, c0 = a.toNat - 192 := ⟨_, rfl⟩
    obtain ⟨sz, hsz⟩ : ∃ sz : Nat, sz = 2 := ⟨_, rfl⟩
    refine .same (by simp only [mn]; omega) (by simp only [mx]; omega) ?_
    refine ct (decide_eq_true (by omega)) ?_
    refine .as ((c0 : Nat) : Int) (by omega) (by simp only [mn]; omega) (by simp only [mx]; omega) ?_
    have p1 : decide (((c0 : Nat) : Int) ≥ 32) = false := decide_eq_false (by omega)
    have p2 : (decide (((c0 : Nat) : Int) ≥ 32) == true) = false := by rw [p1]; rfl
    iterate 2 refine cf p2 ?_
    refine cf p1 ?_
    refine cf rfl ?_
    have q1 : decide (((c0 : Nat) : Int) ≥ 16) = true := decide_eq_true (by omega)
    have q2 : (decide (((c0 : Nat) : Int) ≥ 16) == true) = true := by rw [q1]; rfl
    iterate 2 refine ct q2 ?_
    refine ct q1 ?_
    refine cf rfl ?_
    iterate 2 refine cf rfl ?_
    refine cf rfl ?_
    iterate 4 refine ct rfl ?_
    refine cf rfl ?_
    have hcc : Cls a.toNat sz c0 := ⟨by omega⟩
    by_cases hn1 : n < sz
    · refine ct (decide_eq_true (by omega)) ?_
      refine rt ?_
      have hd := dec_bad hcc (.inl (by rw [hsl]; exact hn1))
      unfold fstV; rw [hd]; rfl
    refine cf (decide_eq_false (by omega)) ?_
    have hgood := dec_good (r := r) hcc (by rw [hsl]; omega)
    have hbad : (∃ j c, 1 ≤ j ∧ j < sz ∧ (a :: r)[j]? = some c ∧ ¬ (128 ≤ c.toNat ∧ c.toNat ≤ 191)) → decP (a :: r) = none := fun h => dec_bad hcc (.inr h)
    have hsz4 : 1 ≤ sz ∧ sz ≤ 4 ∧ sz ≤ n ∧ c0 < 128 := by omega
    clear hn1
    rotate_left
    have hlo : 224 ≤ a.toNat ∧ a.toNat < 240 := by omega
    obtain ⟨c0, hc0⟩ : ∃ c0 : Nat, c0 = a.toNat - 224 := ⟨_, rfl⟩
    obtain ⟨sz, hsz⟩ : ∃ sz : Nat, sz = 3 := ⟨_, rfl⟩
    refine .same (by simp only [mn]; omega) (by simp only [mx]; omega) ?_
    refine ct (decide_eq_true (by omega)) ?_
    refine .as (((a.toNat - 192) : Nat) : Int) (by omega) (by simp only [mn]; omega) (by simp only [mx]; omega) ?_
    have p1 : decide ((((a.toNat - 192) : Nat) : Int) ≥ 32) = true := decide_eq_true (by omega)
    have p2 : (decide ((((a.toNat - 192) : Nat) : Int) ≥ 32) == true) = true := by rw [p1]; rfl
    iterate 2 refine ct p2 ?_
    refine ct p1 ?_
    refine ct rfl ?_
    refine .as ((c0 : Nat) : Int) (by omega) (by simp only [mn]; omega) (by simp only [mx]; omega) ?_
    have q1 : decide (((c0 : Nat) : Int) ≥ 16) = false := decide_eq_false (by omega)
    have q2 : (decide (((c0 : Nat) : Int) ≥ 16) == true) = false := by rw [q1]; rfl
    iterate 2 refine cf q2 ?_
    refine cf q1 ?_
    refine cf rfl ?_
    iterate 2 refine cf rfl ?_
    refine cf rfl ?_
    iterate 4 refine ct rfl ?_
    refine cf rfl ?_
    have hcc : Cls a.toNat sz c0 := ⟨by omega⟩
    by_cases hn1 : n < sz
    · refine ct (decide_eq_true (by omega)) ?_
      refine rt ?_
      have hd := dec_bad hcc (.inl (by rw [hsl]; exact hn1))
      unfold fstV; rw [hd]; rfl
    refine cf (decide_eq_false (by omega)) ?_
    have hgood := dec_good (r := r) hcc (by rw [hsl]; omega)
    have hbad : (∃ j c, 1 ≤ j ∧ j < sz ∧ (a :: r)[j]? = some c ∧ ¬ (128 ≤ c.toNat ∧ c.toNat ≤ 191)) → decP (a :: r) = none := fun h => dec_bad hcc (.inr h)
    have hsz4 : 1 ≤ sz ∧ sz ≤ 4 ∧ sz ≤ n ∧ c0 < 128 := by omega
    clear hn1
    rotate_left
    have hlo : 240 ≤ a.toNat ∧ a.toNat < 256 := by omega
    obtain ⟨c0, hc0⟩ : ∃ c0 : Nat, c0 = a.toNat - 240 := ⟨_, rfl⟩
    obtain ⟨sz, hsz⟩ : ∃ sz : Nat, sz = 4 := ⟨_, rfl⟩
    refine .same (by simp only [mn]; omega) (by simp only [mx]; omega) ?_
    refine ct (decide_eq_true (by omega)) ?_
    refine .as (((a.toNat - 192) : Nat) : Int) (by omega) (by simp only [mn]; omega) (by simp only [mx]; omega) ?_
    have p1 : decide ((((a.toNat - 192) : Nat) : Int) ≥ 32) = true := decide_eq_true (by omega)
    have p2 : (decide ((((a.toNat - 192) : Nat) : Int) ≥ 32) == true) = true := by rw [p1]; rfl
    iterate 2 refine ct p2 ?_
    refine ct p1 ?_
    refine ct rfl ?_
    refine .as (((a.toNat - 224) : Nat) : Int) (by omega) (by simp only [mn]; omega) (by simp only [mx]; omega) ?_
    have q1 : decide ((((a.toNat - 224) : Nat) : Int) ≥ 16) = true := decide_eq_true (by omega)
    have q2 : (decide ((((a.toNat - 224) : Nat) : Int) ≥ 16) == true) = true := by rw [q1]; rfl
    iterate 2 refine ct q2 ?_
    refine ct q1 ?_
    refine ct rfl ?_
    refine .as ((c0 : Nat) : Int) (by omega) (by simp only [mn]; omega) (by simp only [mx]; omega) ?_
    iterate 2 refine cf rfl ?_
    refine cf rfl ?_
    iterate 4 refine ct rfl ?_
    refine cf rfl ?_
    have hcc : Cls a.toNat sz c0 := ⟨by omega⟩
    by_cases hn1 : n < sz
    · refine ct (decide_eq_true (by omega)) ?_
      refine rt ?_
      have hd := dec_bad hcc (.inl (by rw [hsl]; exact hn1))
      unfold fstV; rw [hd]; rfl
    refine cf (decide_eq_false (by omega)) ?_
    have hgood := dec_good (r := r) hcc (by rw [hsl]; omega)
    have hbad : (∃ j c, 1 ≤ j ∧ j < sz ∧ (a :: r)[j]? = some c ∧ ¬ (128 ≤ c.toNat ∧ c.toNat ≤ 191)) → decP (a :: r) = none := fun h => dec_bad hcc (.inr h)
    have hsz4 : 1 ≤ sz ∧ sz ≤ 4 ∧ sz ≤ n ∧ c0 < 128 := by omega
    clear hn1
    rotate_left
    all_goals
      refine lp tab_ok (fun q : Nat => q + 1 ≤ sz ∧ ∀ j c, 1 ≤ j → j ≤ q → (a :: r)[j]? = some c → 128 ≤ c.toNat ∧ c.toNat ≤ 191) (fun q => ⟨[(0, .slice (some ⟨b, o, none⟩) n ca), (4, .int .i64 ((ccF (a :: r) c0 q : Nat) : Int)), (5, .int .i64 ((sz : Nat) : Int)), (6, .int .i64 ((q + 1 : Nat) : Int))], [], []⟩) (fun q => sz - q) 0 ⟨by omega, fun j c h1 h2 => by omega⟩ ⟨⟨rfl, rfl, by subst hsz; rfl, rfl, trivial⟩, .nil, rfl⟩ ?_
      rintro q ⟨hq1, hq2⟩
      have hcb : ccF (a :: r) c0 q < 128 * 64 ^ q := ccF_lt (a :: r) c0 (by omega) q hq2
      have hcb2 : 128 * 64 ^ q ≤ 33554432 := by
        have : 64 ^ q ≤ 64 ^ 3 := Nat.pow_le_pow_right (by decide) (by omega)
        omega
      refine cd (fun hlt => ?_) (fun hlt => ?_)
      · have hlt : q + 1 < sz := by omega
        have hqn : q + 1 < (a :: r).length := by omega
        obtain ⟨x, hx⟩ : ∃ x, (a :: r)[q + 1]? = some x := ⟨_, List.getElem?_eq_getElem hqn⟩
        have hx255 := x.toNat_lt
        refine ⟨by omega, by omega, ?_⟩
        refine .mk (.int .u8 x.toNat) (fun w' hs => hat w' hs.below (q + 1) x hx) ?_
        by_cases hlo : (x.toNat : Int) < 128
        · have e1 : decide ((x.toNat : Int) < 128) = true := decide_eq_true hlo
          have e2 : (decide ((x.toNat : Int) < 128) == false) = false := by rw [e1]; rfl
          iterate 5 refine cf e2 ?_
          refine ct e1 ?_
          refine ct rfl ?_
          refine rt ?_
          have hd := hbad ⟨q + 1, x, by omega, hlt, hx, by omega⟩
          unfold fstV; rw [hd]; rfl
        · have e1 : decide ((x.toNat : Int) < 128) = false := decide_eq_false hlo
          have e2 : (decide ((x.toNat : Int) < 128) == false) = true := by rw [e1]; rfl
          iterate 3 refine ct e2 ?_
          refine ⟨by omega, by omega, ?_⟩
          refine ct e2 ?_
          refine .mk (.int .u8 x.toNat) (fun w' hs => hat w' hs.below (q + 1) x hx) ?_
          refine ct e2 ?_
          refine cf e1 ?_
          refine cd (fun hhi => ?_) (fun hhi => ?_)
          · refine rt ?_
            have hd := hbad ⟨q + 1, x, by omega, hlt, hx, by omega⟩
            unfold fstV; rw [hd]; rfl
          · have hcs : ccF (a :: r) c0 (q + 1) = 64 * ccF (a :: r) c0 q + (x.toNat - 128) := by
              show 64 * ccF (a :: r) c0 q + (((a :: r)[q + 1]?.getD 128).toNat - 128) = _
              rw [hx]; rfl
            refine .as ((64 * ccF (a :: r) c0 q : Nat) : Int) (by omega) (by simp only [mn]; omega) (by simp only [mx]; omega) ?_
            refine ⟨by omega, by omega, ?_⟩
            refine .mk (.int .u8 x.toNat) (fun w' hs => hat w' hs.below (q + 1) x hx) ?_
            refine .same (by simp only [mn]; omega) (by simp only [mx]; omega) ?_
            refine .as ((64 * ccF (a :: r) c0 q + x.toNat : Nat) : Int) (by omega) (by simp only [mn]; omega) (by simp only [mx]; omega) ?_
            refine .as ((ccF (a :: r) c0 (q + 1) : Nat) : Int) (by omega) (by simp only [mn]; omega) (by simp only [mx]; omega) ?_
            refine .as ((q + 1 + 1 : Nat) : Int) (by omega) (by simp only [mn]; omega) (by simp only [mx]; omega) ?_
            exact ⟨q + 1, ⟨by omega, fun j c h1 h2 h3 => by
              by_cases hj : j ≤ q
              · exact hq2 j c h1 hj h3
              · obtain rfl : j = q + 1 := by omega
                obtain rfl := Option.some.inj (hx.symm.trans h3)
                omega⟩, by omega, ⟨⟨rfl, rfl, rfl, rfl, trivial⟩, .nil, rfl⟩⟩
      · obtain rfl : q = sz - 1 := by omega
        obtain ⟨hok, hno⟩ := hgood fun j c h1 h2 h3 => hq2 j c h1 (by omega) h3
        generalize ccF (a :: r) c0 (sz - 1) = c at *
        have htl : ((a :: r).take sz).length = sz := by rw [List.length_take]; omega
        refine cut (α := Bool) (fun x => (x = true → decP (a :: r) = none) ∧ (x = false → decP (a :: r) = some (c, sz))) (fun x => ⟨[(4, .int .i64 ((c : Nat) : Int)), (5, .int .i64 ((sz : Nat) : Int)), (91, .bool x)], [], []⟩) ?_ ?_
        · have htk := Rd.take (k := sz) hv0 hsl.symm (by omega) ca
          by_cases hG : (c : Int) > 1114111
          · have G1 : decide ((c : Int) > 1114111) = true := decide_eq_true hG
            have G2 : (decide ((c : Int) > 1114111) == false) = false := by rw [G1]; rfl
            refine dr [] 99 (.t 0 (.t 1 (.t 2 (.t 3 (.t 4 (.t 5 (.t 6 (.t 7 (.t 8 (.t 9 (.t 10 (.t 11 (.t 14 (.t 15 (.t 16 (.b 12 17 (.b 13 17 (.n 17 (.t 18 (.t 19 .nil))) (.n 13 (.t 18 (.t 19 .nil)))) (.n 12 (.n 13 (.t 18 (.t 19 .nil)))))))))))))))))))) tab_ok mixed_ok (by kernel_rfl) .nil ?_
            refine cf G2 ?_
            refine cf G2 ?_
            refine cf G2 ?_
            refine cf G2 ?_
            refine ct G1 ?_
            refine cf rfl ?_
            refine cf rfl ?_
            refine cf rfl ?_
            refine cf rfl ?_
            refine ⟨?_, ?_⟩
            · refine cf rfl ?_
              refine ⟨?_, ?_⟩
              · refine cf rfl ?_
                refine cf rfl ?_
                refine cf rfl ?_
                refine ct rfl ?_
                refine ⟨_, ⟨?_, ?_⟩, ⟨⟨rfl, rfl, rfl, trivial⟩, .nil, rfl⟩⟩
                · intro _; exact hno fun ⟨h1, h2, h3⟩ => by omega
                · intro h; cases h
              · refine cf rfl ?_
                refine cf rfl ?_
                refine cf rfl ?_
                refine ct rfl ?_
                refine ⟨_, ⟨?_, ?_⟩, ⟨⟨rfl, rfl, rfl, trivial⟩, .nil, rfl⟩⟩
                · intro _; exact hno fun ⟨h1, h2, h3⟩ => by omega
                · intro h; cases h
            · refine cf rfl ?_
              refine cf rfl ?_
              refine cf rfl ?_
              refine cf rfl ?_
              refine ct rfl ?_
              refine ⟨_, ⟨?_, ?_⟩, ⟨⟨rfl, rfl, rfl, trivial⟩, .nil, rfl⟩⟩
              · intro _; exact hno fun ⟨h1, h2, h3⟩ => by omega
              · intro h; cases h
          have G1 : decide ((c : Int) > 1114111) = false := decide_eq_false hG
          have G2 : (decide ((c : Int) > 1114111) == false) = true := by rw [G1]; rfl
          by_cases hS : (c : Int) ≥ 55296
          · have S1 : decide ((c : Int) ≥ 55296) = true := decide_eq_true hS
            have S2 : (decide ((c : Int) ≥ 55296) == true) = true := by rw [S1]; rfl
            by_cases hT : (c : Int) ≤ 57343
            · have T1 : decide ((c : Int) ≤ 57343) = true := decide_eq_true hT
              have T2 : (decide ((c : Int) ≤ 57343) == false) = false := by rw [T1]; rfl
              refine dr [] 99 (.t 0 (.t 1 (.t 2 (.t 3 (.t 4 (.t 5 (.t 6 (.t 7 (.t 8 (.t 9 (.t 10 (.t 11 (.t 14 (.t 15 (.t 16 (.b 12 17 (.b 13 17 (.n 17 (.t 18 (.t 19 .nil))) (.n 13 (.t 18 (.t 19 .nil)))) (.n 12 (.n 13 (.t 18 (.t 19 .nil)))))))))))))))))))) tab_ok mixed_ok (by kernel_rfl) .nil ?_
              refine ct G2 ?_
              refine ct G2 ?_
              refine ct G2 ?_
              refine ct S2 ?_
              refine ct S2 ?_
              refine ct G2 ?_
              refine ct S1 ?_
              refine cf G1 ?_
              refine cf T2 ?_
              refine cf T2 ?_
              refine cf T2 ?_
              refine cf T2 ?_
              refine ⟨?_, ?_⟩
              · refine cf T2 ?_
                refine ⟨?_, ?_⟩
                · refine cf T2 ?_
                  refine cf T2 ?_
                  refine cf T2 ?_
                  refine ct T1 ?_
                  refine ⟨_, ⟨?_, ?_⟩, ⟨⟨rfl, rfl, rfl, trivial⟩, .nil, rfl⟩⟩
                  · intro _; exact hno fun ⟨h1, h2, h3⟩ => by omega
                  · intro h; cases h
                · refine cf T2 ?_
                  refine cf T2 ?_
                  refine cf T2 ?_
                  refine ct T1 ?_
                  refine ⟨_, ⟨?_, ?_⟩, ⟨⟨rfl, rfl, rfl, trivial⟩, .nil, rfl⟩⟩
                  · intro _; exact hno fun ⟨h1, h2, h3⟩ => by omega
                  · intro h; cases h
              · refine cf T2 ?_
                refine cf T2 ?_
                refine cf T2 ?_
                refine cf T2 ?_
                refine ct T1 ?_
                refine ⟨_, ⟨?_, ?_⟩, ⟨⟨rfl, rfl, rfl, trivial⟩, .nil, rfl⟩⟩
                · intro _; exact hno fun ⟨h1, h2, h3⟩ => by omega
                · intro h; cases h
            have T1 : decide ((c : Int) ≤ 57343) = false := decide_eq_false hT
            have T2 : (decide ((c : Int) ≤ 57343) == false) = true := by rw [T1]; rfl
            by_cases hE : encP c = (a :: r).take sz
            · have E1 : (!((ByteArray.mk (encP c).toArray).toList == (ByteArray.mk ((a :: r).take sz).toArray).toList)) = false := by rw [list_beq, decide_eq_true hE]; rfl
              refine dr [] 99 (.t 0 (.t 1 (.t 2 (.t 3 (.t 4 (.t 5 (.t 6 (.t 7 (.t 8 (.t 9 (.t 10 (.t 11 (.t 14 (.t 15 (.t 16 (.b 12 17 (.b 13 17 (.n 17 (.t 18 (.t 19 .nil))) (.n 13 (.t 18 (.t 19 .nil)))) (.n 12 (.n 13 (.t 18 (.t 19 .nil)))))))))))))))))))) tab_ok mixed_ok (by kernel_rfl) .nil ?_
              refine ct G2 ?_
              refine ct G2 ?_
              refine ct G2 ?_
              refine ct S2 ?_
              refine ct S2 ?_
              refine ct G2 ?_
              refine ct S1 ?_
              refine cf G1 ?_
              refine ct T2 ?_
              refine ct T2 ?_
              refine ct T2 ?_
              refine ct T2 ?_
              refine slTo (by rintro x hx; obtain rfl := Option.some.inj hx; rfl) (by omega) (by omega) ?_
              refine ⟨?_, ?_⟩
              · refine ct T2 ?_
                refine co (fun w' hs => sgn_any c (by omega) (by omega) w') (fun rr hrr => ?_)
                refine ⟨.nil, ?_⟩
                refine ⟨?_, ?_⟩
                · refine ct T2 ?_
                  refine semV (fun w' hs => rd_str (Rd.own hs 0 rfl hrr)) ?_
                  refine ⟨.nil, ?_⟩
                  refine ct T2 ?_
                  refine semV (fun w' hs => rd_str (l := (a :: r).take sz) (htk.below hs.below)) ?_
                  refine ⟨.nil, ?_⟩
                  refine ct T2 ?_
                  refine cf T1 ?_
                  refine ⟨_, ⟨?_, ?_⟩, ⟨⟨rfl, rfl, rfl, trivial⟩, .drop .nil, rfl⟩⟩
                  · intro h; rw [E1] at h; cases h
                  · intro _; exact hok ⟨by omega, by omega, hE⟩
                · refine ct T2 ?_
                  refine semV (fun w' hs => rd_str (l := (a :: r).take sz) (htk.below hs.below)) ?_
                  refine ⟨.nil, ?_⟩
                  refine ct T2 ?_
                  refine semV (fun w' hs => rd_str (Rd.own hs 0 rfl hrr)) ?_
                  refine ⟨.nil, ?_⟩
                  refine ct T2 ?_
                  refine cf T1 ?_
                  refine ⟨_, ⟨?_, ?_⟩, ⟨⟨rfl, rfl, rfl, trivial⟩, .drop .nil, rfl⟩⟩
                  · intro h; rw [E1] at h; cases h
                  · intro _; exact hok ⟨by omega, by omega, hE⟩
              · refine ct T2 ?_
                refine semV (fun w' hs => rd_str (l := (a :: r).take sz) (htk.below hs.below)) ?_
                refine ⟨.nil, ?_⟩
                refine ct T2 ?_
                refine co (fun w' hs => sgn_any c (by omega) (by omega) w') (fun rr hrr => ?_)
                refine ⟨.nil, ?_⟩
                refine ct T2 ?_
                refine semV (fun w' hs => rd_str (Rd.own hs 0 rfl hrr)) ?_
                refine ⟨.nil, ?_⟩
                refine ct T2 ?_
                refine cf T1 ?_
                refine ⟨_, ⟨?_, ?_⟩, ⟨⟨rfl, rfl, rfl, trivial⟩, .drop .nil, rfl⟩⟩
                · intro h; rw [E1] at h; cases h
                · intro _; exact hok ⟨by omega, by omega, hE⟩
            · have E1 : (!((ByteArray.mk (encP c).toArray).toList == (ByteArray.mk ((a :: r).take sz).toArray).toList)) = true := by rw [list_beq, decide_eq_false hE]; rfl
              refine dr [] 99 (.t 0 (.t 1 (.t 2 (.t 3 (.t 4 (.t 5 (.t 6 (.t 7 (.t 8 (.t 9 (.t 10 (.t 11 (.t 14 (.t 15 (.t 16 (.b 12 17 (.b 13 17 (.n 17 (.t 18 (.t 19 .nil))) (.n 13 (.t 18 (.t 19 .nil)))) (.n 12 (.n 13 (.t 18 (.t 19 .nil)))))))))))))))))))) tab_ok mixed_ok (by kernel_rfl) .nil ?_
              refine ct G2 ?_
              refine ct G2 ?_
              refine ct G2 ?_
              refine ct S2 ?_
              refine ct S2 ?_
              refine ct G2 ?_
              refine ct S1 ?_
              refine cf G1 ?_
              refine ct T2 ?_
              refine ct T2 ?_
              refine ct T2 ?_
              refine ct T2 ?_
              refine slTo (by rintro x hx; obtain rfl := Option.some.inj hx; rfl) (by omega) (by omega) ?_
              refine ⟨?_, ?_⟩
              · refine ct T2 ?_
                refine co (fun w' hs => sgn_any c (by omega) (by omega) w') (fun rr hrr => ?_)
                refine ⟨.nil, ?_⟩
                refine ⟨?_, ?_⟩
                · refine ct T2 ?_
                  refine semV (fun w' hs => rd_str (Rd.own hs 0 rfl hrr)) ?_
                  refine ⟨.nil, ?_⟩
                  refine ct T2 ?_
                  refine semV (fun w' hs => rd_str (l := (a :: r).take sz) (htk.below hs.below)) ?_
                  refine ⟨.nil, ?_⟩
                  refine ct T2 ?_
                  refine cf T1 ?_
                  refine ⟨_, ⟨?_, ?_⟩, ⟨⟨rfl, rfl, rfl, trivial⟩, .drop .nil, rfl⟩⟩
                  · intro _; exact hno fun ⟨h1, h2, h3⟩ => hE h3
                  · intro h; rw [E1] at h; cases h
                · refine ct T2 ?_
                  refine semV (fun w' hs => rd_str (l := (a :: r).take sz) (htk.below hs.below)) ?_
                  refine ⟨.nil, ?_⟩
                  refine ct T2 ?_
                  refine semV (fun w' hs => rd_str (Rd.own hs 0 rfl hrr)) ?_
                  refine ⟨.nil, ?_⟩
                  refine ct T2 ?_
                  refine cf T1 ?_
                  refine ⟨_, ⟨?_, ?_⟩, ⟨⟨rfl, rfl, rfl, trivial⟩, .drop .nil, rfl⟩⟩
                  · intro _; exact hno fun ⟨h1, h2, h3⟩ => hE h3
                  · intro h; rw [E1] at h; cases h
              · refine ct T2 ?_
                refine semV (fun w' hs => rd_str (l := (a :: r).take sz) (htk.below hs.below)) ?_
                refine ⟨.nil, ?_⟩
                refine ct T2 ?_
                refine co (fun w' hs => sgn_any c (by omega) (by omega) w') (fun rr hrr => ?_)
                refine ⟨.nil, ?_⟩
                refine ct T2 ?_
                refine semV (fun w' hs => rd_str (Rd.own hs 0 rfl hrr)) ?_
                refine ⟨.nil, ?_⟩
                refine ct T2 ?_
                refine cf T1 ?_
                refine ⟨_, ⟨?_, ?_⟩, ⟨⟨rfl, rfl, rfl, trivial⟩, .drop .nil, rfl⟩⟩
                · intro _; exact hno fun ⟨h1, h2, h3⟩ => hE h3
                · intro h; rw [E1] at h; cases h
          have S1 : decide ((c : Int) ≥ 55296) = false := decide_eq_false hS
          have S2 : (decide ((c : Int) ≥ 55296) == true) = false := by rw [S1]; rfl
          by_cases hE : encP c = (a :: r).take sz
          · have E1 : (!((ByteArray.mk (encP c).toArray).toList == (ByteArray.mk ((a :: r).take sz).toArray).toList)) = false := by rw [list_beq, decide_eq_true hE]; rfl
            refine dr [] 99 (.t 0 (.t 1 (.t 2 (.t 3 (.t 4 (.t 5 (.t 6 (.t 7 (.t 8 (.t 9 (.t 10 (.t 11 (.t 14 (.t 15 (.t 16 (.b 12 17 (.b 13 17 (.n 17 (.t 18 (.t 19 .nil))) (.n 13 (.t 18 (.t 19 .nil)))) (.n 12 (.n 13 (.t 18 (.t 19 .nil)))))))))))))))))))) tab_ok mixed_ok (by kernel_rfl) .nil ?_
            refine ct G2 ?_
            refine ct G2 ?_
            refine ct G2 ?_
            refine cf S2 ?_
            refine cf S2 ?_
            refine ct G2 ?_
            refine cf S1 ?_
            refine cf G1 ?_
            refine ct rfl ?_
            refine ct rfl ?_
            refine ct rfl ?_
            refine ct rfl ?_
            refine slTo (by rintro x hx; obtain rfl := Option.some.inj hx; rfl) (by omega) (by omega) ?_
            refine ⟨?_, ?_⟩
            · refine ct rfl ?_
              refine co (fun w' hs => sgn_any c (by omega) (by omega) w') (fun rr hrr => ?_)
              refine ⟨.nil, ?_⟩
              refine ⟨?_, ?_⟩
              · refine ct rfl ?_
                refine semV (fun w' hs => rd_str (Rd.own hs 0 rfl hrr)) ?_
                refine ⟨.nil, ?_⟩
                refine ct rfl ?_
                refine semV (fun w' hs => rd_str (l := (a :: r).take sz) (htk.below hs.below)) ?_
                refine ⟨.nil, ?_⟩
                refine ct rfl ?_
                refine cf rfl ?_
                refine ⟨_, ⟨?_, ?_⟩, ⟨⟨rfl, rfl, rfl, trivial⟩, .drop .nil, rfl⟩⟩
                · intro h; rw [E1] at h; cases h
                · intro _; exact hok ⟨by omega, by omega, hE⟩
              · refine ct rfl ?_
                refine semV (fun w' hs => rd_str (l := (a :: r).take sz) (htk.below hs.below)) ?_
                refine ⟨.nil, ?_⟩
                refine ct rfl ?_
                refine semV (fun w' hs => rd_str (Rd.own hs 0 rfl hrr)) ?_
                refine ⟨.nil, ?_⟩
                refine ct rfl ?_
                refine cf rfl ?_
                refine ⟨_, ⟨?_, ?_⟩, ⟨⟨rfl, rfl, rfl, trivial⟩, .drop .nil, rfl⟩⟩
                · intro h; rw [E1] at h; cases h
                · intro _; exact hok ⟨by omega, by omega, hE⟩
            · refine ct rfl ?_
              refine semV (fun w' hs => rd_str (l := (a :: r).take sz) (htk.below hs.below)) ?_
              refine ⟨.nil, ?_⟩
              refine ct rfl ?_
              refine co (fun w' hs => sgn_any c (by omega) (by omega) w') (fun rr hrr => ?_)
              refine ⟨.nil, ?_⟩
              refine ct rfl ?_
              refine semV (fun w' hs => rd_str (Rd.own hs 0 rfl hrr)) ?_
              refine ⟨.nil, ?_⟩
              refine ct rfl ?_
              refine cf rfl ?_
              refine ⟨_, ⟨?_, ?_⟩, ⟨⟨rfl, rfl, rfl, trivial⟩, .drop .nil, rfl⟩⟩
              · intro h; rw [E1] at h; cases h
              · intro _; exact hok ⟨by omega, by omega, hE⟩
          · have E1 : (!((ByteArray.mk (encP c).toArray).toList == (ByteArray.mk ((a :: r).take sz).toArray).toList)) = true := by rw [list_beq, decide_eq_false hE]; rfl
            refine dr [] 99 (.t 0 (.t 1 (.t 2 (.t 3 (.t 4 (.t 5 (.t 6 (.t 7 (.t 8 (.t 9 (.t 10 (.t 11 (.t 14 (.t 15 (.t 16 (.b 12 17 (.b 13 17 (.n 17 (.t 18 (.t 19 .nil))) (.n 13 (.t 18 (.t 19 .nil)))) (.n 12 (.n 13 (.t 18 (.t 19 .nil)))))))))))))))))))) tab_ok mixed_ok (by kernel_rfl) .nil ?_
            refine ct G2 ?_
            refine ct G2 ?_
            refine ct G2 ?_
            refine cf S2 ?_
            refine cf S2 ?_
            refine ct G2 ?_
            refine cf S1 ?_
            refine cf G1 ?_
            refine ct rfl ?_
            refine ct rfl ?_
            refine ct rfl ?_
            refine ct rfl ?_
            refine slTo (by rintro x hx; obtain rfl := Option.some.inj hx; rfl) (by omega) (by omega) ?_
            refine ⟨?_, ?_⟩
            · refine ct rfl ?_
              refine co (fun w' hs => sgn_any c (by omega) (by omega) w') (fun rr hrr => ?_)
              refine ⟨.nil, ?_⟩
              refine ⟨?_, ?_⟩
              · refine ct rfl ?_
                refine semV (fun w' hs => rd_str (Rd.own hs 0 rfl hrr)) ?_
                refine ⟨.nil, ?_⟩
                refine ct rfl ?_
                refine semV (fun w' hs => rd_str (l := (a :: r).take sz) (htk.below hs.below)) ?_
                refine ⟨.nil, ?_⟩
                refine ct rfl ?_
                refine cf rfl ?_
                refine ⟨_, ⟨?_, ?_⟩, ⟨⟨rfl, rfl, rfl, trivial⟩, .drop .nil, rfl⟩⟩
                · intro _; exact hno fun ⟨h1, h2, h3⟩ => hE h3
                · intro h; rw [E1] at h; cases h
              · refine ct rfl ?_
                refine semV (fun w' hs => rd_str (l := (a :: r).take sz) (htk.below hs.below)) ?_
                refine ⟨.nil, ?_⟩
                refine ct rfl ?_
                refine semV (fun w' hs => rd_str (Rd.own hs 0 rfl hrr)) ?_
                refine ⟨.nil, ?_⟩
                refine ct rfl ?_
                refine cf rfl ?_
                refine ⟨_, ⟨?_, ?_⟩, ⟨⟨rfl, rfl, rfl, trivial⟩, .drop .nil, rfl⟩⟩
                · intro _; exact hno fun ⟨h1, h2, h3⟩ => hE h3
                · intro h; rw [E1] at h; cases h
            · refine ct rfl ?_
              refine semV (fun w' hs => rd_str (l := (a :: r).take sz) (htk.below hs.below)) ?_
              refine ⟨.nil, ?_⟩
              refine ct rfl ?_
              refine co (fun w' hs => sgn_any c (by omega) (by omega) w') (fun rr hrr => ?_)
              refine ⟨.nil, ?_⟩
              refine ct rfl ?_
              refine semV (fun w' hs => rd_str (Rd.own hs 0 rfl hrr)) ?_
              refine ⟨.nil, ?_⟩
              refine ct rfl ?_
              refine cf rfl ?_
              refine ⟨_, ⟨?_, ?_⟩, ⟨⟨rfl, rfl, rfl, trivial⟩, .drop .nil, rfl⟩⟩
              · intro _; exact hno fun ⟨h1, h2, h3⟩ => hE h3
              · intro h; rw [E1] at h; cases h
        · rintro x ⟨hx1, hx2⟩
          cases x with
          | true =>
            refine ct rfl ?_
            refine rt ?_
            unfold fstV; rw [hx1 rfl]; rfl
          | false =>
            refine cf rfl ?_
            refine rt ?_
            unfold fstV; rw [hx2 rfl]; rfl
end Go.Proofs.YtpegkoklmhccjaaDoor
end
section
namespace Go.Proofs.YtpegkoklmhccjaaDoor
open Go.RowKit Go.Sx
set_option linter.unusedVariables false
def valF : Nat → Bs → Bool
  | 0, s => s.isEmpty
  | n + 1, s => match s with
    | [] => true
    | _ :: _ => match decP s with
      | none => false
      | some (_, z) => valF n (s.drop z)
/-- is a text in UTF-8? -/
def validP (s : Bs) : Bool := valF s.length s
theorem valF_fuel : ∀ (n m : Nat) (s : Bs), s.length ≤ n → s.length ≤ m → valF n s = valF m s := by
  intro n
  induction n with
  | zero =>
    intro m s h1 h2
    have : s = [] := List.length_eq_zero_iff.1 (by omega)
    subst this
    cases m <;> rfl
  | succ n ih =>
    intro m s h1 h2
    cases s with
    | nil => cases m <;> rfl
    | cons a r =>
      cases m with
      | zero => simp at h2
      | succ m =>
        show (match decP (a :: r) with | none => false | some (_, z) => valF n ((a :: r).drop z)) = (match decP (a :: r) with | none => false | some (_, z) => valF m ((a :: r).drop z))
        cases hd : decP (a :: r) with
        | none => rfl
        | some p =>
          obtain ⟨c, z⟩ := p
          have := decP_in hd
          simp only [List.length_cons] at h1 h2
          exact ih m _ (by rw [List.length_drop, List.length_cons]; omega) (by rw [List.length_drop, List.length_cons]; omega)
theorem valid_no {s : Bs} (hs : s ≠ []) (h : decP s = none) : validP s = false := by
  cases s with
  | nil => exact absurd rfl hs
  | cons a r =>
    show (match decP (a :: r) with | none => false | some (_, z) => valF r.length ((a :: r).drop z)) = false
    rw [h]
theorem valid_yes {s : Bs} {c z : Nat} (h : decP s = some (c, z)) : validP s = validP (s.drop z) := by
  have hz := decP_in h
  cases s with
  | nil => cases h
  | cons a r =>
    show (match decP (a :: r) with | none => false | some (_, z) => valF r.length ((a :: r).drop z)) = valF _ _
    rw [h]
    exact valF_fuel _ _ _ (by simp only [List.length_drop, List.length_cons]; omega) (Nat.le_refl _)
/-- a text's bytes, in memory of one's own -/
theorem cvS {C : Cx} {L : List Ent} {src dst e : TypeId} {l : Bs} {u : TypeDesc} {next : Value → List Ent → Prop} (hs : C.P.underlying src = some u) (hd : C.P.underlying dst = some (.slice e)) (he : C.P.underlying e = some (.int .u8))
    (go : ∀ (b cap : Nat) (c : Array Value), l.length ≤ cap → c.toList.take l.length = Lib.byteCells l → next (.slice (some ⟨b, 0, none⟩) l.length cap) (L ++ [⟨b, some (.cells c e (c.size, c.size + 1)), false, none⟩])) :
    SemP C (convert src dst (.string ⟨l.toArray⟩)) L next := by
  refine ⟨fun w hst => ?_⟩
  have hsz : (⟨l.toArray⟩ : ByteArray).size = l.length := by simp [ByteArray.size]
  have hrun := Lib.run_convert_string_bytes (P := C.P) w src dst e ⟨l.toArray⟩ hs hd he
  have h1 := (hst.drew.alloc (.cells (Lib.bytesCells w e ⟨l.toArray⟩) e)).freeze (k := L.length) (b := w.heap.size) (c := Lib.bytesCells w e ⟨l.toArray⟩) (t := e) (by simp) (Lib.bytesCells w e ⟨l.toArray⟩).size 1 (by decide)
  have hset : ∀ x y : Ent, (L ++ [x]).set L.length y = L ++ [y] := fun x y => by simp
  rw [hset] at h1
  rw [hsz] at hrun
  refine ⟨_, _, _, hrun, h1, go _ _ _ ?_ ?_⟩
  · exact grownCap_ge w l.length 0 e
  · rw [Lib.bytesCells, Array.toList_append, List.take_append_of_le_length (by simp), List.take_of_length_le (by simp)]
    simp [Lib.byteCells]
theorem sl_eq (b o z n c : Nat) : Value.slice (some ⟨b, nad o (nmu z 1), none⟩) (n - o - z) (c - o - z) = Value.slice (some ⟨b, o + z, none⟩) (n - (o + z)) (c - (o + z)) := by
  rw [nad_eq, nmu_eq, Nat.mul_one, Nat.sub_sub, Nat.sub_sub]
theorem sl_eq' (b o z n c : Nat) : Value.slice (some ⟨b, o, none⟩) (n - o - z) (c - o - z) = Value.slice (some ⟨b, o, none⟩) (n - (o + z)) (c - (o + z)) := by
  rw [Nat.sub_sub, Nat.sub_sub]
set_option maxRecDepth 100000 in
set_option maxHeartbeats 4000000 in
theorem valid_ref (l : Bs) (w : World) : Calls Tryd.prog 31 ([sj l] : List Value).toArray w fun e w' => e = .returned (.bool (validP l)) ∧ Below w.heap.size w w' := by
  refine enterV tab_ok Tryd.func31 rfl Tryd.ntmps31 rfl (St.start w) ?_
  refine cvS Tryd.underlying9 und22 undU8 (fun b cap c hcap hc => ?_)
  refine lp tab_ok (fun x : Nat × Nat => x.1 ≤ l.length ∧ validP l = validP (l.drop x.1) ∧ (x.1 < l.length → x.2 = x.1)) (fun x => ⟨[(3, .slice (some ⟨b, x.2, none⟩) (l.length - x.1) (cap - x.1))], [⟨b, some (.cells c 5 (c.size, c.size + 1)), false, none⟩], []⟩) (fun x => l.length - x.1) (0, 0) ⟨Nat.zero_le _, rfl, fun _ => rfl⟩ ⟨⟨rfl, trivial⟩, .cons .nil, rfl⟩ ?_
  rintro ⟨q, o⟩ ⟨hq, hv, ho⟩
  simp only at hq hv ho
  have hlq : (l.drop q).length = l.length - q := List.length_drop
  refine cd (fun hlt => ?_) (fun hlt => ?_)
  · have hlt : q < l.length := by simp only at hlt; omega
    obtain rfl : o = q := ho hlt
    have hne : l.drop o ≠ [] := fun e => by rw [e] at hlq; simp at hlq; omega
    have hcall : ∀ w', St [] w w' [⟨b, some (.cells c 5 (c.size, c.size + 1)), false, none⟩] → Calls Tryd.prog 43 ([.slice (some ⟨b, o, none⟩) (l.length - o) (cap - o)] : List Value).toArray w' fun e w2 => e = .returned (fstV (l.drop o)) ∧ Below w'.heap.size w' w2 := fun w' hs => by
      rw [← hlq]
      exact fst_any _ _ _ (by omega) w' (Rd.ent hs 0 rfl (by rw [Lib.byteCells_length]) (by
        rw [hlq, ← List.drop_take, hc]; simp [Lib.byteCells]))
    unfold fstV at hcall
    cases hd : decP (l.drop o) with
    | none =>
      rw [hd] at hcall
      refine cvs (fun w' hs => hcall w' hs) ?_
      refine ct rfl ?_
      exact rt (by rw [hv, valid_no hne hd]; rfl)
    | some p =>
      obtain ⟨x, z⟩ := p
      rw [hd] at hcall
      have hz := decP_in hd
      refine cvs (fun w' hs => hcall w' hs) ?_
      refine cf (by rw [beq_eq_false_iff_ne]; omega) ?_
      have hv2 : validP l = validP (l.drop (o + z)) := by rw [hv, valid_yes hd, List.drop_drop]
      refine ⟨.mk z (l.length - o) (cap - o) rfl rfl rfl (by omega) (by omega) (Nat.le_refl _) (by simp) ?_⟩
      by_cases hcz : z < cap - o
      · refine .on hcz ?_
        exact ⟨(o + z, o + z), ⟨by simp only; omega, hv2, fun _ => rfl⟩, by simp only; omega, ⟨⟨congrArg some (sl_eq b o z l.length cap), trivial⟩, .cons .nil, rfl⟩⟩
      · refine .all (by omega) ?_
        exact ⟨(o + z, o), ⟨by simp only; omega, hv2, fun h => by simp only at h; omega⟩, by simp only; omega, ⟨⟨congrArg some (sl_eq' b o z l.length cap), trivial⟩, .cons .nil, rfl⟩⟩
  · obtain rfl : q = l.length := by simp only at hlt; omega
    exact rt (by rw [hv, List.drop_length]; rfl)
end Go.Proofs.YtpegkoklmhccjaaDoor
end
section
namespace Go.Proofs.YtpegkoklmhccjaaDoor
open Go.RowKit Go.Sx
set_option linter.unusedVariables false
theorem wrap64 (n : Nat) (h : n < 18446744073709551616) : IntKind.u64.wrap (n : Int) = n := by
  have e : IntKind.u64.wrap (n : Int) = (n : Int) % 18446744073709551616 := by simp [IntKind.wrap, IntKind.bits, IntKind.signed]
  rw [e]; omega
theorem or64 (a b : Nat) (ha : a < 18446744073709551616) (hb : b < 18446744073709551616) : bitI .or .u64 (a : Int) (b : Int) = ((a ||| b : Nat) : Int) := by
  have h : a ||| b < 2 ^ 64 := Nat.or_lt_two_pow (by omega) (by omega)
  show IntKind.u64.wrap ((BitVec.ofInt 64 (a : Int) ||| BitVec.ofInt 64 (b : Int)).toNat : Int) = _
  simp only [BitVec.ofInt_natCast, BitVec.toNat_or, BitVec.toNat_ofNat]
  rw [Nat.mod_eq_of_lt (by omega), Nat.mod_eq_of_lt (by omega)]
  exact wrap64 _ (by omega)
theorem and64 (a b : Nat) (ha : a < 18446744073709551616) (hb : b < 18446744073709551616) : bitI .and .u64 (a : Int) (b : Int) = ((a &&& b : Nat) : Int) := by
  have h : a &&& b ≤ a := Nat.and_le_left
  show IntKind.u64.wrap ((BitVec.ofInt 64 (a : Int) &&& BitVec.ofInt 64 (b : Int)).toNat : Int) = _
  simp only [BitVec.ofInt_natCast, BitVec.toNat_and, BitVec.toNat_ofNat]
  rw [Nat.mod_eq_of_lt (by omega), Nat.mod_eq_of_lt (by omega)]
  exact wrap64 _ (by omega)
abbrev MSK : Nat := 9259542123273814144
def wd8 (b0 b1 b2 b3 b4 b5 b6 b7 : UInt8) : Nat := (((((((b0.toNat ||| b1.toNat * 2 ^ 8) ||| b2.toNat * 2 ^ 16) ||| b3.toNat * 2 ^ 24) ||| b4.toNat * 2 ^ 32) ||| b5.toNat * 2 ^ 40) ||| b6.toNat * 2 ^ 48) ||| b7.toNat * 2 ^ 56)
/-- eight bytes «as» a number -/
def wdN : Bs → Nat
  | b0 :: b1 :: b2 :: b3 :: b4 :: b5 :: b6 :: b7 :: _ => wd8 b0 b1 b2 b3 b4 b5 b6 b7
  | _ => 0
theorem lt64 {a b : Nat} (ha : a < 18446744073709551616) (hb : b < 18446744073709551616) : a ||| b < 18446744073709551616 := Nat.or_lt_two_pow (n := 64) ha hb
theorem wdN_lt (s : Bs) : wdN s < 18446744073709551616 := by
  unfold wdN
  split
  · rename_i b0 b1 b2 b3 b4 b5 b6 b7 _
    have h0 := b0.toNat_lt
    have h1 := b1.toNat_lt
    have h2 := b2.toNat_lt
    have h3 := b3.toNat_lt
    have h4 := b4.toNat_lt
    have h5 := b5.toNat_lt
    have h6 := b6.toNat_lt
    have h7 := b7.toNat_lt
    unfold wd8
    repeat' (first | refine lt64 ?_ ?_)
    all_goals omega
  · decide
theorem tb_mask : (List.range 8).all (fun i => Nat.testBit MSK (8 * i + 7)) = true := by decide +kernel
theorem tb7 {b : UInt8} (h : Nat.testBit b.toNat 7 = false) : b.toNat < 128 := by
  have h1 := b.toNat_lt
  rw [Nat.testBit_eq_decide_div_mod_eq] at h
  simp only [decide_eq_false_iff_not] at h
  omega
theorem tb_or {a b n : Nat} (h : Nat.testBit (a ||| b) n = false) : Nat.testBit a n = false ∧ Nat.testBit b n = false := by
  rw [Nat.testBit_or, Bool.or_eq_false_iff] at h; exact h
theorem tb_sh {b : UInt8} {i : Nat} (h : Nat.testBit (b.toNat * 2 ^ (8 * i)) (8 * i + 7) = false) : b.toNat < 128 := by
  rw [← Nat.shiftLeft_eq, Nat.testBit_shiftLeft] at h
  simp at h
  exact tb7 h
theorem tb_and {a : Nat} (h : a &&& MSK = 0) (i : Nat) (hi : i < 8) : Nat.testBit a (8 * i + 7) = false := by
  have h1 : Nat.testBit (a &&& MSK) (8 * i + 7) = false := by rw [h]; exact Nat.zero_testBit _
  rw [Nat.testBit_and, List.all_eq_true.1 tb_mask i (List.mem_range.2 hi), Bool.and_true] at h1
  exact h1
/-- where no byte has its highest bit, all are below 128 -/
theorem wd_low {s : Bs} (h : ∀ i, i < 8 → Nat.testBit (wdN s) (8 * i + 7) = false) (hl : 8 ≤ s.length) : ∀ c ∈ s.take 8, c.toNat < 128 := by
  match s, hl with
  | b0 :: b1 :: b2 :: b3 :: b4 :: b5 :: b6 :: b7 :: s, _ =>
    have hw : ∀ i, i < 8 → Nat.testBit (wd8 b0 b1 b2 b3 b4 b5 b6 b7) (8 * i + 7) = false := h
    unfold wd8 at hw
    have k0 := hw 0 (by decide)
    have k1 := hw 1 (by decide)
    have k2 := hw 2 (by decide)
    have k3 := hw 3 (by decide)
    have k4 := hw 4 (by decide)
    have k5 := hw 5 (by decide)
    have k6 := hw 6 (by decide)
    have k7 := hw 7 (by decide)
    have c0 : b0.toNat < 128 := tb7 ((tb_or (tb_or (tb_or (tb_or (tb_or (tb_or (tb_or k0).1).1).1).1).1).1).1)
    have c1 : b1.toNat < 128 := tb_sh (i := 1) (tb_or ((tb_or (tb_or (tb_or (tb_or (tb_or (tb_or k1).1).1).1).1).1).1)).2
    have c2 : b2.toNat < 128 := tb_sh (i := 2) (tb_or ((tb_or (tb_or (tb_or (tb_or (tb_or k2).1).1).1).1).1)).2
    have c3 : b3.toNat < 128 := tb_sh (i := 3) (tb_or ((tb_or (tb_or (tb_or (tb_or k3).1).1).1).1)).2
    have c4 : b4.toNat < 128 := tb_sh (i := 4) (tb_or ((tb_or (tb_or (tb_or k4).1).1).1)).2
    have c5 : b5.toNat < 128 := tb_sh (i := 5) (tb_or ((tb_or (tb_or k5).1).1)).2
    have c6 : b6.toNat < 128 := tb_sh (i := 6) (tb_or ((tb_or k6).1)).2
    have c7 : b7.toNat < 128 := tb_sh (i := 7) (tb_or (k7)).2
    intro c hc
    simp only [List.take_succ_cons, List.take_zero, List.mem_cons, List.not_mem_nil, or_false] at hc
    rcases hc with rfl | rfl | rfl | rfl | rfl | rfl | rfl | rfl <;> assumption
set_option maxRecDepth 100000 in
set_option maxHeartbeats 4000000 in
theorem word_any (s : Bs) (hl : 8 ≤ s.length) (w : World) : Calls Tryd.prog 60 ([sj s] : List Value).toArray w fun e w' => e = .returned (.int .u64 (wdN s : Nat)) ∧ Below w.heap.size w w' := by
  match s, hl with
  | b0 :: b1 :: b2 :: b3 :: b4 :: b5 :: b6 :: b7 :: s, _ =>
    have h0 := b0.toNat_lt
    have h1 := b1.toNat_lt
    have h2 := b2.toNat_lt
    have h3 := b3.toNat_lt
    have h4 := b4.toNat_lt
    have h5 := b5.toNat_lt
    have h6 := b6.toNat_lt
    have h7 := b7.toNat_lt
    refine enterV tab_ok Tryd.func60 rfl Tryd.ntmps60 rfl (St.start w) ?_
    refine cf rfl ?_
    refine dr [] 99 (.t 0 (.t 1 (.t 2 (.t 3 (.t 4 (.t 5 (.t 6 (.t 7 (.t 8 (.t 9 (.t 10 (.t 11 (.t 12 (.t 13 (.t 14 (.t 15 (.t 16 (.t 17 (.t 18 (.t 19 (.t 20 (.t 21 (.t 22 (.t 23 (.t 24 (.t 25 (.t 26 (.t 27 (.t 28 (.t 29 (.t 30 (.t 31 (.t 32 (.t 33 (.t 34 (.t 35 (.t 36 (.t 37 (.t 38 .nil))))))))))))))))))))))))))))))))))))))) tab_ok mixed_ok (by kernel_rfl) .nil ?_
    refine chL 0 rfl rfl ?_
    refine .same (by simp only [mn]; omega) (by simp only [mx]; omega) ?_
    refine chL 1 rfl rfl ?_
    refine .same (by simp only [mn]; omega) (by simp only [mx]; omega) ?_
    refine shlP 8 (b1.toNat * 2 ^ 8) rfl (by decide) rfl (by simp only [mx]; omega) ?_
    refine chL 2 rfl rfl ?_
    refine .same (by simp only [mn]; omega) (by simp only [mx]; omega) ?_
    refine shlP 16 (b2.toNat * 2 ^ 16) rfl (by decide) rfl (by simp only [mx]; omega) ?_
    refine chL 3 rfl rfl ?_
    refine .same (by simp only [mn]; omega) (by simp only [mx]; omega) ?_
    refine shlP 24 (b3.toNat * 2 ^ 24) rfl (by decide) rfl (by simp only [mx]; omega) ?_
    refine chL 4 rfl rfl ?_
    refine .same (by simp only [mn]; omega) (by simp only [mx]; omega) ?_
    refine shlP 32 (b4.toNat * 2 ^ 32) rfl (by decide) rfl (by simp only [mx]; omega) ?_
    refine chL 5 rfl rfl ?_
    refine .same (by simp only [mn]; omega) (by simp only [mx]; omega) ?_
    refine shlP 40 (b5.toNat * 2 ^ 40) rfl (by decide) rfl (by simp only [mx]; omega) ?_
    refine chL 6 rfl rfl ?_
    refine .same (by simp only [mn]; omega) (by simp only [mx]; omega) ?_
    refine shlP 48 (b6.toNat * 2 ^ 48) rfl (by decide) rfl (by simp only [mx]; omega) ?_
    refine chL 7 rfl rfl ?_
    refine .same (by simp only [mn]; omega) (by simp only [mx]; omega) ?_
    refine shlP 56 (b7.toNat * 2 ^ 56) rfl (by decide) rfl (by simp only [mx]; omega) ?_
    refine rt ?_
    show Value.int .u64 (bitI .or .u64 (bitI .or .u64 (bitI .or .u64 (bitI .or .u64 (bitI .or .u64 (bitI .or .u64 (bitI .or .u64 (b0.toNat : Int) ((b1.toNat * 2 ^ 8 : Nat) : Int)) ((b2.toNat * 2 ^ 16 : Nat) : Int)) ((b3.toNat * 2 ^ 24 : Nat) : Int)) ((b4.toNat * 2 ^ 32 : Nat) : Int)) ((b5.toNat * 2 ^ 40 : Nat) : Int)) ((b6.toNat * 2 ^ 48 : Nat) : Int)) ((b7.toNat * 2 ^ 56 : Nat) : Int)) = .int .u64 ((wd8 b0 b1 b2 b3 b4 b5 b6 b7 : Nat) : Int)
    have o1 : (b0.toNat ||| b1.toNat * 2 ^ 8) < 18446744073709551616 := lt64 (by omega) (by omega)
    have o2 : ((b0.toNat ||| b1.toNat * 2 ^ 8) ||| b2.toNat * 2 ^ 16) < 18446744073709551616 := lt64 (o1) (by omega)
    have o3 : (((b0.toNat ||| b1.toNat * 2 ^ 8) ||| b2.toNat * 2 ^ 16) ||| b3.toNat * 2 ^ 24) < 18446744073709551616 := lt64 (o2) (by omega)
    have o4 : ((((b0.toNat ||| b1.toNat * 2 ^ 8) ||| b2.toNat * 2 ^ 16) ||| b3.toNat * 2 ^ 24) ||| b4.toNat * 2 ^ 32) < 18446744073709551616 := lt64 (o3) (by omega)
    have o5 : (((((b0.toNat ||| b1.toNat * 2 ^ 8) ||| b2.toNat * 2 ^ 16) ||| b3.toNat * 2 ^ 24) ||| b4.toNat * 2 ^ 32) ||| b5.toNat * 2 ^ 40) < 18446744073709551616 := lt64 (o4) (by omega)
    have o6 : ((((((b0.toNat ||| b1.toNat * 2 ^ 8) ||| b2.toNat * 2 ^ 16) ||| b3.toNat * 2 ^ 24) ||| b4.toNat * 2 ^ 32) ||| b5.toNat * 2 ^ 40) ||| b6.toNat * 2 ^ 48) < 18446744073709551616 := lt64 (o5) (by omega)
    have o7 : (((((((b0.toNat ||| b1.toNat * 2 ^ 8) ||| b2.toNat * 2 ^ 16) ||| b3.toNat * 2 ^ 24) ||| b4.toNat * 2 ^ 32) ||| b5.toNat * 2 ^ 40) ||| b6.toNat * 2 ^ 48) ||| b7.toNat * 2 ^ 56) < 18446744073709551616 := lt64 (o6) (by omega)
    rw [or64 b0.toNat (b1.toNat * 2 ^ 8) (by omega) (by omega)]
    rw [or64 (b0.toNat ||| b1.toNat * 2 ^ 8) (b2.toNat * 2 ^ 16) o1 (by omega)]
    rw [or64 ((b0.toNat ||| b1.toNat * 2 ^ 8) ||| b2.toNat * 2 ^ 16) (b3.toNat * 2 ^ 24) o2 (by omega)]
    rw [or64 (((b0.toNat ||| b1.toNat * 2 ^ 8) ||| b2.toNat * 2 ^ 16) ||| b3.toNat * 2 ^ 24) (b4.toNat * 2 ^ 32) o3 (by omega)]
    rw [or64 ((((b0.toNat ||| b1.toNat * 2 ^ 8) ||| b2.toNat * 2 ^ 16) ||| b3.toNat * 2 ^ 24) ||| b4.toNat * 2 ^ 32) (b5.toNat * 2 ^ 40) o4 (by omega)]
    rw [or64 (((((b0.toNat ||| b1.toNat * 2 ^ 8) ||| b2.toNat * 2 ^ 16) ||| b3.toNat * 2 ^ 24) ||| b4.toNat * 2 ^ 32) ||| b5.toNat * 2 ^ 40) (b6.toNat * 2 ^ 48) o5 (by omega)]
    rw [or64 ((((((b0.toNat ||| b1.toNat * 2 ^ 8) ||| b2.toNat * 2 ^ 16) ||| b3.toNat * 2 ^ 24) ||| b4.toNat * 2 ^ 32) ||| b5.toNat * 2 ^ 40) ||| b6.toNat * 2 ^ 48) (b7.toNat * 2 ^ 56) o6 (by omega)]
    rfl
end Go.Proofs.YtpegkoklmhccjaaDoor
end
