/- Chapter 12: two values that say the same are exactly the same. -/
import Derived.Test.YtpegkoklmhccjaaDoorJsZ
namespace Go.Proofs.YtpegkoklmhccjaaDoor
open Go.RowKit Go.Sx
set_option linter.unusedVariables false
theorem St.rdT2 {w : World} {A B : Nat → Prop} {c d : CT} {j k : JV} (h : HeldT w A c j) (h2 : HeldT w B d k) : St [] w w [rs (Go.Proofs.YtpegkoklmhccjaaDoor.rdT A c j), rs (Go.Proofs.YtpegkoklmhccjaaDoor.rdT B d k)] := St.reads fun e he => by
  simp only [List.mem_cons, List.not_mem_nil, or_false] at he
  rcases he with rfl | rfl
  · exact ⟨(rsOk _ w).2 h, fun k hk => (rsW _ k).1 hk⟩
  · exact ⟨(rsOk _ w).2 h2, fun k hk => (rsW _ k).1 hk⟩
set_option maxRecDepth 100000 in
set_option maxHeartbeats 4000000 in
theorem exact_two {c : CT} {j : JV} (hcs : CS c j) : ∀ (d : CT) (A B : Nat → Prop) (w : World), HeldT w A c j → HeldT w B d j → Calls Tryd.prog 12 ([.agg c.cs.toArray, .agg d.cs.toArray] : List Value).toArray w fun e w' => e = .returned (.bool true) ∧ Below w.heap.size w w' := by
  induction hcs with
  | @mk k i s vl vp l p l' p' hll hlp hl hp kl kn kp ihl ihp =>
    intro d A B w h hd
    obtain ⟨vl2, vp2, m2, p2, rfl⟩ : ∃ vl vp l p, d = .mk k i s vl vp l p := by cases hd.2; exact ⟨_, _, _, _, rfl⟩
    obtain ⟨hll2, hlp2, hl2, hp2, kn2⟩ : m2.length = l'.length ∧ p2.length = p'.length ∧ SlOf vl2 m2.length ∧ SlOf vp2 p2.length ∧ ∀ (n : Nat) (c : Bs × CT) (j : Bs × JV), p2[n]? = some c → p'[n]? = some j → c.1 = j.1 := by cases hd.2.cs; exact ⟨‹_›, ‹_›, ‹_›, ‹_›, ‹_›⟩
    rw [hll2.trans hll.symm] at hl2
    rw [hlp2.trans hlp.symm] at hp2
    obtain ⟨_, a2, cap2, rfl, k22⟩ := hl2
    obtain ⟨_, a2', cap2', rfl, k24⟩ := hp2
    obtain ⟨k1, a, cap, rfl, k2⟩ := hl
    obtain ⟨k3, a', cap', rfl, k4⟩ := hp
    refine enterV tab_ok Tryd.func12 rfl Tryd.ntmps12 rfl (St.rdT2 h hd) ?_
    intro b2 b3
    have z1 : (k != k) = false := by simp
    have z2 : ((k != k) == false) = true := by simp
    have i1 : (i != i) = false := by simp
    have i2 : ((i != i) == false) = true := by simp
    have s1 : (!((ByteArray.mk s.toArray).toList == (ByteArray.mk s.toArray).toList)) = false := by simp
    have s2 : ((!((ByteArray.mk s.toArray).toList == (ByteArray.mk s.toArray).toList)) == false) = true := by simp
    have l1 : ((l.length : Int) != (l.length : Int)) = false := by simp
    have e22 : (((l.length : Int) != (l.length : Int)) == false) = true := by simp
    have q1 : ((p.length : Int) != (p.length : Int)) = false := by simp
    refine ld1 2 rfl rfl ?_
    refine ld1 3 rfl rfl ?_
    iterate 2 refine ct z2 ?_
    refine ld1 2 rfl rfl ?_
    iterate 2 refine ct z2 ?_
    refine ld1 3 rfl rfl ?_
    refine ct z2 ?_
    refine cf z1 ?_
    iterate 2 refine ct i2 ?_
    refine ld1 2 rfl rfl ?_
    iterate 2 refine ct i2 ?_
    refine ld1 3 rfl rfl ?_
    refine ct i2 ?_
    refine cf i1 ?_
    iterate 2 refine ct s2 ?_
    refine ld1 2 rfl rfl ?_
    iterate 3 refine ct s2 ?_
    refine ld1 3 rfl rfl ?_
    iterate 2 refine ct s2 ?_
    refine cf s1 ?_
    iterate 2 refine ct e22 ?_
    refine ld1 2 rfl rfl ?_
    iterate 3 refine ct e22 ?_
    refine ld1 3 rfl rfl ?_
    iterate 2 refine ct e22 ?_
    refine cf l1 ?_
    refine cf q1 ?_
    refine lp tab_ok (fun q : Nat => q ≤ l.length) (fun q => ⟨[(2, pj b2), (3, pj b3), (5, .int .i64 (q : Nat))], [rs (rdT A (.mk k i s (.slice a l.length cap) (.slice a' p.length cap') l p) (.mk k i s l' p')), rs (rdT B (.mk k i s (.slice a2 l.length cap2) (.slice a2' p.length cap2') m2 p2) (.mk k i s l' p')), cl b2 (vcl k i s (.slice a l.length cap) (.slice a' p.length cap')).toArray TV, cl b3 (vcl k i s (.slice a2 l.length cap2) (.slice a2' p.length cap2')).toArray TV], []⟩) (fun q => l.length - q) 0 (Nat.zero_le _) ⟨⟨rfl, rfl, rfl, trivial⟩, .cons (.cons (.cons (.cons .nil))), rfl⟩ ?_
    intro q hq
    refine ld1 2 rfl rfl ?_
    refine cd (fun hql => ?_) (fun hql => ?_)
    · have hql : q < l.length := by omega
      have hc0 : l[q]? = some l[q] := List.getElem?_eq_getElem hql
      have hj0 : l'[q]? = some (l'[q]'(by omega)) := List.getElem?_eq_getElem (by omega)
      generalize l[q] = c0 at hc0
      generalize l'[q]'(by omega) = j0 at hj0
      have hd0 : m2[q]? = some (m2[q]'(by omega)) := List.getElem?_eq_getElem (by omega)
      generalize m2[q]'(by omega) = d0 at hd0
      obtain ⟨b, o, rfl⟩ := k2 (by omega)
      obtain ⟨b2', o2, rfl⟩ := k22 (by omega)
      have hld2 : ∀ w, HeldT w B (.mk k i s (.slice (some ⟨b2', o2, none⟩) l.length cap2) (.slice a2' p.length cap2') m2 p2) (.mk k i s l' p') → w.rangeAt b2' (nad o2 (nmu ((q : Nat) : Int).toNat 5)) d0.cs.toArray.toList := fun w h => by
        rw [nad_eq, nmu_eq, Int.toNat_natCast]; exact h.2.item rfl hd0
      have hld : ∀ w, HeldT w A (.mk k i s (.slice (some ⟨b, o, none⟩) l.length cap) (.slice a' p.length cap') l p) (.mk k i s l' p') → w.rangeAt b (nad o (nmu ((q : Nat) : Int).toNat 5)) c0.cs.toArray.toList := fun w h => by
        rw [nad_eq, nmu_eq, Int.toNat_natCast]; exact h.2.item rfl hc0
      refine dr [rs (rdT A (.mk k i s (.slice (some ⟨b, o, none⟩) l.length cap) (.slice a' p.length cap') l p) (.mk k i s l' p')), rs (rdT B (.mk k i s (.slice (some ⟨b2', o2, none⟩) l.length cap2) (.slice a2' p.length cap2') m2 p2) (.mk k i s l' p')), cl b2 (vcl k i s (.slice (some ⟨b, o, none⟩) l.length cap) (.slice a' p.length cap')).toArray TV, cl b3 (vcl k i s (.slice (some ⟨b2', o2, none⟩) l.length cap2) (.slice a2' p.length cap2')).toArray TV] 99 (.t 0 (.t 1 (.t 2 (.t 3 (.t 4 (.t 5 (.t 6 (.t 7 (.t 8 (.t 9 (.n 10 (.t 11 .nil)))))))))))) tab_ok mixed_ok (by kernel_rfl) (.cons (.cons (.cons (.cons .nil)))) ?_
      refine ld1 2 rfl rfl ?_
      refine ⟨by omega, by omega, ?_⟩
      refine .mk c0.cs.toArray (by rw [List.size_toArray, CT.cs5]) (fun w hs => hld w (hs.res (k := 0) rfl)) ?_
      refine ld1 3 rfl rfl ?_
      refine ⟨by omega, by omega, ?_⟩
      refine .mk d0.cs.toArray (by rw [List.size_toArray, CT.cs5]) (fun w hs => hld2 w (hs.res (k := 1) rfl)) ?_
      refine cvs (fun w hs => ihl q c0 j0 hc0 hj0 d0 A B w ⟨(hs.res (k := 0) rfl : HeldT w A _ _).1, (hs.res (k := 0) rfl : HeldT w A _ _).2.kid hc0 hj0⟩ ⟨(hs.res (k := 1) rfl : HeldT w B _ _).1, (hs.res (k := 1) rfl : HeldT w B _ _).2.kid hd0 hj0⟩) ?_
      refine ⟨.cons (.cons (.cons (.cons .nil))), ?_⟩
      refine cf rfl ?_
      refine .as ((q + 1 : Nat) : Int) (by simp) (by simp only [mn]; omega) (by simp only [mx]; unfold maxLen at k1; omega) ?_
      exact ⟨q + 1, by omega, by omega, ⟨⟨rfl, rfl, rfl, trivial⟩, .cons (.cons (.cons (.cons .nil))), rfl⟩⟩
    · clear hql
      refine lp tab_ok (fun q : Nat => q ≤ p.length) (fun q => ⟨[(2, pj b2), (3, pj b3), (6, .int .i64 (q : Nat))], [rs (rdT A (.mk k i s (.slice a l.length cap) (.slice a' p.length cap') l p) (.mk k i s l' p')), rs (rdT B (.mk k i s (.slice a2 l.length cap2) (.slice a2' p.length cap2') m2 p2) (.mk k i s l' p')), cl b2 (vcl k i s (.slice a l.length cap) (.slice a' p.length cap')).toArray TV, cl b3 (vcl k i s (.slice a2 l.length cap2) (.slice a2' p.length cap2')).toArray TV], []⟩) (fun q => p.length - q) 0 (Nat.zero_le _) ⟨⟨rfl, rfl, rfl, trivial⟩, .cons (.cons (.cons (.cons .nil))), rfl⟩ ?_
      intro q hq
      refine ld1 2 rfl rfl ?_
      refine cd (fun hql => ?_) (fun hql => ?_)
      · have hql : q < p.length := by omega
        have hc0 : p[q]? = some p[q] := List.getElem?_eq_getElem hql
        have hj0 : p'[q]? = some (p'[q]'(by omega)) := List.getElem?_eq_getElem (by omega)
        generalize p[q] = c0 at hc0
        generalize p'[q]'(by omega) = j0 at hj0
        have hd0 : p2[q]? = some (p2[q]'(by omega)) := List.getElem?_eq_getElem (by omega)
        generalize p2[q]'(by omega) = d0 at hd0
        obtain ⟨b, o, rfl⟩ := k4 (by omega)
        obtain ⟨b2', o2, rfl⟩ := k24 (by omega)
        have hnn : d0.1 = c0.1 := (kn2 q d0 j0 hd0 hj0).trans (kn q c0 j0 hc0 hj0).symm
        have hld02 : ∀ w, HeldT w B (.mk k i s (.slice a2 l.length cap2) (.slice (some ⟨b2', o2, none⟩) p.length cap2') m2 p2) (.mk k i s l' p') → w.cell? ⟨b2', nad (nad o2 (nmu ((q : Nat) : Int).toNat 6)) 0, none⟩ = some (sj c0.1) := fun w h => by
          have := h.2.pair rfl hd0
          rw [nad_eq, nad_eq, nmu_eq, Int.toNat_natCast, ← hnn]; exact this 0 _ rfl
        have hld2 : ∀ w, HeldT w B (.mk k i s (.slice a2 l.length cap2) (.slice (some ⟨b2', o2, none⟩) p.length cap2') m2 p2) (.mk k i s l' p') → w.rangeAt b2' (nad (nad o2 (nmu ((q : Nat) : Int).toNat 6)) 1) d0.2.cs.toArray.toList := fun w h => by
          have := h.2.pair rfl hd0
          rw [nad_eq, nad_eq, nmu_eq, Int.toNat_natCast]
          intro y u hu
          rw [Nat.add_assoc (o2 + q * 6), Nat.add_comm 1 y]
          exact this (y + 1) u (by simpa using hu)
        have hld0 : ∀ w, HeldT w A (.mk k i s (.slice a l.length cap) (.slice (some ⟨b, o, none⟩) p.length cap') l p) (.mk k i s l' p') → w.cell? ⟨b, nad (nad o (nmu ((q : Nat) : Int).toNat 6)) 0, none⟩ = some (sj c0.1) := fun w h => by
          have := h.2.pair rfl hc0
          rw [nad_eq, nad_eq, nmu_eq, Int.toNat_natCast]; exact this 0 _ rfl
        have hld : ∀ w, HeldT w A (.mk k i s (.slice a l.length cap) (.slice (some ⟨b, o, none⟩) p.length cap') l p) (.mk k i s l' p') → w.rangeAt b (nad (nad o (nmu ((q : Nat) : Int).toNat 6)) 1) c0.2.cs.toArray.toList := fun w h => by
          have := h.2.pair rfl hc0
          rw [nad_eq, nad_eq, nmu_eq, Int.toNat_natCast]
          intro y u hu
          rw [Nat.add_assoc (o + q * 6), Nat.add_comm 1 y]
          exact this (y + 1) u (by simpa using hu)
        have e1 : (!((ByteArray.mk c0.1.toArray).toList == (ByteArray.mk c0.1.toArray).toList)) = false := by simp
        have e2 : ((!((ByteArray.mk c0.1.toArray).toList == (ByteArray.mk c0.1.toArray).toList)) == false) = true := by simp
        refine dr [rs (rdT A (.mk k i s (.slice a l.length cap) (.slice (some ⟨b, o, none⟩) p.length cap') l p) (.mk k i s l' p')), rs (rdT B (.mk k i s (.slice a2 l.length cap2) (.slice (some ⟨b2', o2, none⟩) p.length cap2') m2 p2) (.mk k i s l' p')), cl b2 (vcl k i s (.slice a l.length cap) (.slice (some ⟨b, o, none⟩) p.length cap')).toArray TV, cl b3 (vcl k i s (.slice a2 l.length cap2) (.slice (some ⟨b2', o2, none⟩) p.length cap2')).toArray TV] 99 (.t 0 (.t 1 (.t 2 (.t 3 (.t 4 (.t 5 (.t 6 (.t 7 (.t 8 (.t 9 (.t 10 (.t 11 (.t 12 (.t 13 (.t 14 (.t 15 (.t 16 (.t 17 (.t 18 (.t 19 (.t 20 (.t 21 (.t 22 (.t 23 (.t 24 (.t 25 (.n 26 (.t 27 (.t 28 .nil))))))))))))))))))))))))))))) tab_ok mixed_ok (by kernel_rfl) (.cons (.cons (.cons (.cons .nil)))) ?_
        refine ld1 2 rfl rfl ?_
        refine ⟨by omega, by omega, ?_⟩
        refine .mk (sj c0.1) (fun w hs => hld0 w (hs.res (k := 0) rfl)) ?_
        refine ld1 3 rfl rfl ?_
        refine ⟨by omega, by omega, ?_⟩
        refine .mk (sj c0.1) (fun w hs => hld02 w (hs.res (k := 1) rfl)) ?_
        iterate 2 refine ct e2 ?_
        refine ld1 2 rfl rfl ?_
        iterate 2 refine ct e2 ?_
        refine ⟨by omega, by omega, ?_⟩
        iterate 2 refine ct e2 ?_
        refine .mk c0.2.cs.toArray (by rw [List.size_toArray, CT.cs5]) (fun w hs => hld w (hs.res (k := 0) rfl)) ?_
        iterate 2 refine ct e2 ?_
        refine ld1 3 rfl rfl ?_
        iterate 2 refine ct e2 ?_
        refine ⟨by omega, by omega, ?_⟩
        iterate 2 refine ct e2 ?_
        refine .mk d0.2.cs.toArray (by rw [List.size_toArray, CT.cs5]) (fun w hs => hld2 w (hs.res (k := 1) rfl)) ?_
        refine ct e2 ?_
        refine cvs (fun w hs => ihp q c0 j0 hc0 hj0 d0.2 A B w ⟨(hs.res (k := 0) rfl : HeldT w A _ _).1, (hs.res (k := 0) rfl : HeldT w A _ _).2.kidp hc0 hj0⟩ ⟨(hs.res (k := 1) rfl : HeldT w B _ _).1, (hs.res (k := 1) rfl : HeldT w B _ _).2.kidp hd0 hj0⟩) ?_
        refine ⟨.cons (.cons (.cons (.cons .nil))), ?_⟩
        refine ct e2 ?_
        refine cf e1 ?_
        refine cf rfl ?_
        refine .as ((q + 1 : Nat) : Int) (by simp) (by simp only [mn]; omega) (by simp only [mx]; unfold maxLen at k3; omega) ?_
        exact ⟨q + 1, by omega, by omega, ⟨⟨rfl, rfl, rfl, trivial⟩, .cons (.cons (.cons (.cons .nil))), rfl⟩⟩
      · exact rt rfl
end Go.Proofs.YtpegkoklmhccjaaDoor
