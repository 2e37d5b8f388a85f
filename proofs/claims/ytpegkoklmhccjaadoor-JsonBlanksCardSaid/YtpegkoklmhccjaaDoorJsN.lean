/- Chapter 12: the reader: lists, one thing. -/
import Derived.Test.YtpegkoklmhccjaaDoorJsL
namespace Go.Proofs.YtpegkoklmhccjaaDoor
open Go.RowKit Go.Sx
set_option linter.unusedVariables false
theorem CallP.mono {C : Cx} {g : FuncId} {vs : List Value} {L : List Ent} {Q next : Value → List Ent → Prop} (h : CallP C g vs L Q) (hn : ∀ v L', Q v L' → next v L') : CallP C g vs L next :=
  ⟨fun w hs => (h.go w hs).mono fun e w' ⟨v, L', he, h1, h2⟩ => ⟨v, L', he, h1, hn v L' h2⟩⟩
section
variable {C : Cx} {L : List Ent}
theorem apV (k : Nat) {v : Value} {r : Sx.Own} {n : Nat} (hv : sv r n = v) (hT : TabOk C.P C.T) {t tx ty e z by' : Nat} {zv : Value} {cs : Array Bool} {xs news : List Value} {m : Nat} {x : Value} {next : Value → List Ent → Prop}
    (ht : Sx.look C.T.rows t fun y _ => y = .sl e z) (hi : (C.P.info? e).map (fun i => (i.zero, i.size, i.bytes)) = some (some zv, z, by')) (hz : zv.cells.size = z)
    (hk : L[k]? = some (se r xs e)) (hR : Rw z n r xs) (hsrc : ∀ w, St C.M C.B w L → Src C.P z tx x m news w)
    (hby : (n + m + (n + m) / 4 + 192) * by' ≤ 281474976710656) (h63 : n + m ≤ maxLen) (hm : 0 < m) (go : ∀ g cap jn, Rw z (n + m) (some (g, cap, jn)) (xs ++ news) → next (.slice (some ⟨g, 0, none⟩) (n + m) cap) (L.set k (cl g ((xs ++ news) ++ jn).toArray e))) :
    BiP C .append #[t, tx] ty cs [v, x] L next := by
  subst hv
  refine ap k hT ht hi hz hk hR hsrc hby h63 fun r' hR' => ?_
  cases r' with
  | none => have : n + m = 0 := hR'.2; omega
  | some q => obtain ⟨g, cap, jn⟩ := q; exact go g cap jn hR'
end
theorem row_put (X Z Y cs : List Value) (o : Nat) (ho : o = X.length) (hz : Z.length = cs.length) : ((X ++ Z ++ Y).toArray.toList.take o ++ cs.toArray.toList ++ (X ++ Z ++ Y).toArray.toList.drop (o + cs.toArray.size)).toArray = (X ++ cs ++ Y).toArray := by
  subst ho
  simp only [List.append_assoc, List.size_toArray, ← hz]
  rw [List.take_left, ← List.drop_drop, List.drop_left, List.drop_left]
section
variable {b : Nat} {w : World}
theorem ksX_app (ks : List (JV × List Value)) (j : JV) (cs : List Value) : ksX (ks ++ [(j, cs)]) = ksX ks ++ cs := by simp [ksX]
set_option maxRecDepth 100000 in
/-- one thing of a list -/
theorem list_one {N : Nat} {F : Option Nat} {V : Bs → Option (JV × Bs)} {D : Int} {b1 b2 b3 b4 : Nat} (hV : VIs V b D) {ks : List (JV × List Value)} {r : Sx.Own} {a : Option Addr} {cc : Nat} {A : Nat → Prop} {v : Bs} {n : Nat} (hv : v.length ≤ 100000) (hkl : ks.length ≤ 100000) (hR : Rw 5 ks.length r (ksX ks)) (he : sv r ks.length = .slice a ks.length cc) :
    CallP ⟨Tryd.prog, tab, N, [bl b], w, F⟩ 67 [pj b1, pj b3] (lsL b D b1 b2 b3 b4 ⟨ks, r, a, cc, A, v, false, n⟩) fun u L' => ∃ j cs v2 bd r' a' cc', ∃ A' : Nat → Prop, VF (V v) v ⟨j, cs, v2, bd⟩ ∧ cs.length = 5 ∧ Rw 5 (ks.length + 1) r' (ksX (ks ++ [(j, cs)])) ∧ sv r' (ks.length + 1) = .slice a' (ks.length + 1) cc' ∧ u = .tuple #[] ∧ L' = lsL b D b1 b2 b3 b4 ⟨ks ++ [(j, cs)], r', a', cc', fun i => A i ∨ A' i, v2, bd, n - 1⟩ := by
  refine inl (C := ⟨Tryd.prog, tab, N, [bl b], w, F⟩) tab_ok Tryd.func67 rfl Tryd.ntmps67 rfl ?_
  refine ld1 3 rfl rfl ?_
  refine cUV 0 rfl rfl (fun w hs => hV v w hv (hs.nth (k := 0) rfl) (hs.res (k := 1) rfl)) (fun x A' w0 hx hH => ?_)
  obtain ⟨j, cs, v2, bd⟩ := x
  have hcs := hH.2 _ (List.mem_singleton.2 rfl)
  have hc5 := hcs.len
  have hc1 := hcs.one
  dsimp only at hc5 hc1 ⊢
  intro b5
  refine sN 9 rfl (by rw [List.size_toArray, hc5]; rfl) (by simpa using hc1) ?_ (by rw [List.size_toArray, hc5]; kernel_rfl)
  refine drs [dead, dead, dead, dead, dead, cl b3 #[.int .i64 4, .int .i64 0, sj [], .slice a ks.length cc, .slice none 0 0] TV, dead, dead, dead, cl b5 cs.toArray TV] [6, 7, 8, 9] (.t 0 (.t 1 (.t 2 (.t 3 (.n 4 (.n 5 (.b 6 8 (.b 7 8 (.n 8 (.n 9 .nil)) (.b 7 9 (.n 9 .nil) (.n 7 .nil))) (.b 6 9 (.b 7 9 (.n 9 .nil) (.n 7 .nil)) (.n 6 (.n 7 .nil)))))))))) tab_ok mixed_ok (by kernel_rfl) (.dead (.dead (.dead (.dead (.dead (.cons (.dead (.dead (.dead (.cons .nil)))))))))) ?_
  refine ld1 5 rfl rfl ?_
  refine ldN 9 rfl (by rw [List.size_toArray, hc5]) ?_
  refine .mk _ _ bsV (fun b6 => ?_)
  refine ⟨.dead (.dead (.dead (.dead (.dead (.cons (.dead (.dead (.dead (.cons .nil))))))))), ?_⟩
  refine apV 7 he tab_ok (news := (valC 0 0 []).toList) (m := 1) rfl infoV rfl rfl hR (srcE (C := ⟨Tryd.prog, tab, 13, [bl b], w, none⟩) (e' := TV) (tx := 22) (z := 5) rfl tab_ok (src 10 rfl rfl) rfl (by simp [Value.oneCell'])) (by omega) (by unfold maxLen; omega) (by decide) (fun g cap jn hR' => ?_)
  refine ⟨.dead (.dead (.dead (.dead (.dead (.cons (.dead (.dead (.dead (.cons .nil))))))))), ?_⟩
  dsimp only at hR'
  have hRn : Rw 5 (ks.length + 1) (some (g, cap, jn)) (ksX (ks ++ [(j, cs)])) := by
    have h5 : (valC 0 0 []).toList.length = 5 := rfl
    obtain ⟨k1, k2, k3, k4⟩ := hR'
    exact ⟨by rw [ksX_app, List.length_append, hR.1, hc5]; omega, k2, k3, by rw [List.length_append, List.length_append, h5] at k4; rw [ksX_app, List.length_append, List.length_append, hc5]; exact k4⟩
  have ho : nad 0 (nmu ((ks.length : Nat) : Int).toNat 5) = (ksX ks).length := by rw [nad_eq, nmu_eq, Int.toNat_natCast, Nat.zero_add]; exact hR.1.symm
  have hlen : (ks ++ [(j, cs)]).length = ks.length + 1 := by simp
  have hput := row_put (ksX ks) (valC 0 0 []).toList jn cs _ ho hc5.symm
  have hfit : nad 0 (nmu ((ks.length : Nat) : Int).toNat 5) + cs.toArray.size ≤ (ksX ks ++ (valC 0 0 []).toList ++ jn).toArray.size := by
    have h5 : (valC 0 0 []).toList.length = 5 := rfl
    rw [ho, List.size_toArray, List.size_toArray, List.length_append, List.length_append, h5, hc5]; omega
  refine ⟨?_, ?_⟩
  · refine ⟨by omega, by omega, ?_⟩
    refine ⟨?_, ?_⟩
    · refine sP 7 rfl hfit (by simpa using hc1) hput ?_ (by rw [List.size_toArray, hc5]; kernel_rfl)
      refine s1 5 rfl (by show 3 < 5; decide) ?_
      exact ⟨fun w' hs => ⟨lsL b D b1 b2 b3 b4 ⟨ks ++ [(j, cs)], some (g, cap, jn), some ⟨g, 0, none⟩, cap, fun i => A i ∨ A' i, v2, bd, n - 1⟩, (St.kids hs (k := 2) (j := 8) rfl rfl (by decide)).sub (by unfold lsL; dsimp only; rw [ksX_app, hlen]; exact .cons (.cons (.cons (.cons (.cons (.cons (.cons (.cons .nil)))))))), j, cs, v2, bd, some (g, cap, jn), some ⟨g, 0, none⟩, cap, A', hx, hc5, hRn, rfl, rfl, rfl⟩⟩
    · refine ⟨?_, ?_⟩
      · refine sP 7 rfl hfit (by simpa using hc1) hput ?_ (by rw [List.size_toArray, hc5]; kernel_rfl)
        refine s1 5 rfl (by show 3 < 5; decide) ?_
        exact ⟨fun w' hs => ⟨lsL b D b1 b2 b3 b4 ⟨ks ++ [(j, cs)], some (g, cap, jn), some ⟨g, 0, none⟩, cap, fun i => A i ∨ A' i, v2, bd, n - 1⟩, (St.kids hs (k := 2) (j := 8) rfl rfl (by decide)).sub (by unfold lsL; dsimp only; rw [ksX_app, hlen]; exact .cons (.cons (.cons (.cons (.cons (.cons (.cons (.cons .nil)))))))), j, cs, v2, bd, some (g, cap, jn), some ⟨g, 0, none⟩, cap, A', hx, hc5, hRn, rfl, rfl, rfl⟩⟩
      · refine s1 5 rfl (by show 3 < 5; decide) ?_
        refine sP 7 rfl hfit (by simpa using hc1) hput ?_ (by rw [List.size_toArray, hc5]; kernel_rfl)
        exact ⟨fun w' hs => ⟨lsL b D b1 b2 b3 b4 ⟨ks ++ [(j, cs)], some (g, cap, jn), some ⟨g, 0, none⟩, cap, fun i => A i ∨ A' i, v2, bd, n - 1⟩, (St.kids hs (k := 2) (j := 8) rfl rfl (by decide)).sub (by unfold lsL; dsimp only; rw [ksX_app, hlen]; exact .cons (.cons (.cons (.cons (.cons (.cons (.cons (.cons .nil)))))))), j, cs, v2, bd, some (g, cap, jn), some ⟨g, 0, none⟩, cap, A', hx, hc5, hRn, rfl, rfl, rfl⟩⟩
  · refine ⟨?_, ?_⟩
    · refine ⟨by omega, by omega, ?_⟩
      refine ⟨?_, ?_⟩
      · refine sP 7 rfl hfit (by simpa using hc1) hput ?_ (by rw [List.size_toArray, hc5]; kernel_rfl)
        refine s1 5 rfl (by show 3 < 5; decide) ?_
        exact ⟨fun w' hs => ⟨lsL b D b1 b2 b3 b4 ⟨ks ++ [(j, cs)], some (g, cap, jn), some ⟨g, 0, none⟩, cap, fun i => A i ∨ A' i, v2, bd, n - 1⟩, (St.kids hs (k := 2) (j := 8) rfl rfl (by decide)).sub (by unfold lsL; dsimp only; rw [ksX_app, hlen]; exact .cons (.cons (.cons (.cons (.cons (.cons (.cons (.cons .nil)))))))), j, cs, v2, bd, some (g, cap, jn), some ⟨g, 0, none⟩, cap, A', hx, hc5, hRn, rfl, rfl, rfl⟩⟩
      · refine s1 5 rfl (by show 3 < 5; decide) ?_
        refine sP 7 rfl hfit (by simpa using hc1) hput ?_ (by rw [List.size_toArray, hc5]; kernel_rfl)
        exact ⟨fun w' hs => ⟨lsL b D b1 b2 b3 b4 ⟨ks ++ [(j, cs)], some (g, cap, jn), some ⟨g, 0, none⟩, cap, fun i => A i ∨ A' i, v2, bd, n - 1⟩, (St.kids hs (k := 2) (j := 8) rfl rfl (by decide)).sub (by unfold lsL; dsimp only; rw [ksX_app, hlen]; exact .cons (.cons (.cons (.cons (.cons (.cons (.cons (.cons .nil)))))))), j, cs, v2, bd, some (g, cap, jn), some ⟨g, 0, none⟩, cap, A', hx, hc5, hRn, rfl, rfl, rfl⟩⟩
    · refine s1 5 rfl (by show 3 < 5; decide) ?_
      refine ⟨by omega, by omega, ?_⟩
      refine sP 7 rfl hfit (by simpa using hc1) hput ?_ (by rw [List.size_toArray, hc5]; kernel_rfl)
      exact ⟨fun w' hs => ⟨lsL b D b1 b2 b3 b4 ⟨ks ++ [(j, cs)], some (g, cap, jn), some ⟨g, 0, none⟩, cap, fun i => A i ∨ A' i, v2, bd, n - 1⟩, (St.kids hs (k := 2) (j := 8) rfl rfl (by decide)).sub (by unfold lsL; dsimp only; rw [ksX_app, hlen]; exact .cons (.cons (.cons (.cons (.cons (.cons (.cons (.cons .nil)))))))), j, cs, v2, bd, some (g, cap, jn), some ⟨g, 0, none⟩, cap, A', hx, hc5, hRn, rfl, rfl, rfl⟩⟩
end
end Go.Proofs.YtpegkoklmhccjaaDoor
