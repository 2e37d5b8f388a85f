/- A store of records, its disk and its records, walked and in plain words; the fixed fact. -/
import Derived.Test.YteamnhpplclmfaaGreatDoorSb3
section
namespace Go.Proofs.YteamnhpplclmfaaGreatDoor
open Go.RowKit Go.Sx
set_option linter.unusedVariables false


/-- two entries become one -/
theorem St.merge {M : Bks} {B w : World} {L : List Ent} (h : St M B w L) {k j : Nat} {x y e' : Ent} (hk : L[k]? = some x) (hj : L[j]? = some y) (hkj : k ≠ j) (ok : e'.Ok w) (W : ∀ i, e'.W i → x.W i ∨ y.W i) (A : ∀ i, e'.A i → x.A i ∨ y.A i) : St M B w ((L.set j dead).set k e') := by
  have hjd := h.kill j
  refine ⟨h.os, h.tape, h.output, h.size, h.old, fun f hf => ?_, fun f hf i hi => ?_, ?_⟩
  · rcases mem_set_cases hf with rfl | ⟨i, _, hi⟩
    · exact ok
    · exact hjd.ok f (List.mem_of_getElem? hi)
  · rcases mem_set_cases hf with rfl | ⟨q, _, hq⟩
    · rcases W i hi with h1 | h1
      · exact h.ownW x (List.mem_of_getElem? hk) i h1
      · exact h.ownW y (List.mem_of_getElem? hj) i h1
    · exact hjd.ownW f (List.mem_of_getElem? hq) i hi
  · refine pw_set hjd.apart fun i f hik hi => ?_
    by_cases hij : i = j
    · subst hij
      rw [List.getElem?_set_self (List.getElem?_eq_some_iff.1 hj).1] at hi
      obtain rfl := Option.some.inj hi
      exact (dead_apart _).symm
    · rw [List.getElem?_set_ne (fun e => hij e.symm)] at hi
      have a1 := pw_ne h.apart hk hi (fun e => hik e.symm)
      have a2 := pw_ne h.apart hj hi (fun e => hij e.symm)
      exact fun q => ⟨fun h1 h2 => (W q h1).elim (fun h3 => (a1 q).1 h3 h2) (fun h3 => (a2 q).1 h3 h2), fun h1 h2 => (A q h2).elim (fun h3 => (a1 q).2 h1 h3) (fun h3 => (a2 q).2 h1 h3)⟩
theorem biImp {C : Cx} {ts : Array TypeId} {t : TypeId} {cs : Array Bool} {vs : List Value} {L : List Ent} {next next' : Value → List Ent → Prop} (h : BiP C .append ts t cs vs L next') (hn : ∀ v L', next' v L' → ∃ L'', (∀ w, St C.M C.B w L' → St C.M C.B w L'') ∧ next v L'') : BiP C .append ts t cs vs L next := by
  refine apRun fun w hs => ?_
  have h1 := h.go w hs
  cases hr : (Builtin.append_ ts t vs.toArray).run C.P w with
  | ok r w' =>
    have : (builtin .append ts t cs vs.toArray).run C.P w = .ok (.value r) w' := by simp [builtin, hr]
    rw [this] at h1
    obtain ⟨L', h2, h3⟩ := h1
    obtain ⟨L'', h4, h5⟩ := hn r L' h3
    exact ⟨r, w', L'', rfl, h4 w' h2, h5⟩
  | _ =>
    exfalso
    simp [builtin, hr, Sx.Fin] at h1
/-- bytes that were made, together -/
def bagR (own : Nat → Prop) (qs : List PF) : Res where
  w := own
  r := fun _ => False
  p := fun u => (∀ k, own k → k < u.heap.size) ∧ ∀ q ∈ qs, RdR own u q.1 (Lib.byteCells q.2.bs)
  st := fun u v hs ⟨h1, h2⟩ => ⟨fun k hk => by
    have h3 := hs k (.inl hk)
    rw [Array.getElem?_eq_getElem (h1 k hk)] at h3
    exact (Array.getElem?_eq_some_iff.1 h3).1, fun q hq => (h2 q hq).same fun k hk => hs k (.inl hk)⟩
  bd := fun u h k hk => h.1 k (hk.elim id False.elim)
def bagE (own : Nat → Prop) (qs : List PF) : Ent := if qs = [] then dead else rs (bagR own qs)
theorem bagE_W {own : Nat → Prop} {qs : List PF} {i : Nat} (h : (bagE own qs).W i) : own i := by
  unfold bagE at h; split at h
  · simp at h
  · simpa [bagR] using h
theorem bagE_ok {own : Nat → Prop} {qs : List PF} {w : World} (h : (bagE own qs).Ok w) : ∀ q ∈ qs, RdR own w q.1 (Lib.byteCells q.2.bs) := by
  unfold bagE at h; split at h
  · rename_i h1; rw [h1]; simp
  · exact ((rsOk _ _).1 h).2
theorem bag_add {M : Bks} {B w : World} {L : List Ent} (h : St M B w L) {k j : Nat} {own : Nat → Prop} {qs : List PF} (hk : L[k]? = some (bagE own qs)) {n : Nat} {r : Sx.Own} {l : List UInt8} (hj : L[j]? = some (se r (Lib.byteCells l) 5)) (hR : Rw 1 n r (Lib.byteCells l)) (hkj : k ≠ j) (f : Fe) (hf : f.bs = l) :
    St M B w ((L.set j dead).set k (bagE (fun i => (own i ∧ qs ≠ []) ∨ rowB r i) (qs ++ [(sv r n, f)]))) := by
  have hW : ∀ i, rowB r i → (se r (Lib.byteCells l) 5).W i := by
    rintro i ⟨b, c, j, rfl, rfl⟩; simp [se]
  have e1 : bagE (fun i => (own i ∧ qs ≠ []) ∨ rowB r i) (qs ++ [(sv r n, f)]) = rs (bagR (fun i => (own i ∧ qs ≠ []) ∨ rowB r i) (qs ++ [(sv r n, f)])) := by unfold bagE; rw [if_neg (by simp)]
  rw [e1]
  have hkm := List.mem_of_getElem? hk
  have hjm := List.mem_of_getElem? hj
  have hx : ∀ i, (own i ∧ qs ≠ []) → (bagE own qs).W i := fun i hi => by unfold bagE; rw [if_neg hi.2]; simpa [bagR] using hi.1
  have hw2 : ∀ i, ((own i ∧ qs ≠ []) ∨ rowB r i) → (bagE own qs).W i ∨ (se r (Lib.byteCells l) 5).W i := fun i hi => hi.imp (hx i) (hW i)
  refine St.merge h hk hj hkj ?_ (fun i hi => hw2 i (by simpa [bagR] using hi)) (fun i hi => (hw2 i (by simpa [bagR] using hi)).imp Ent.W.a Ent.W.a)
  rw [rsOk]
  refine ⟨fun i hi => ?_, fun q hq => ?_⟩
  · rcases hw2 i hi with h1 | h1
    · exact h.ltA hkm h1.a
    · exact h.ltA hjm h1.a
  · rcases List.mem_append.1 hq with hq | hq
    · exact (bagE_ok (h.ok _ hkm) q hq).mono fun i hi => .inl ⟨hi, by intro e; rw [e] at hq; cases hq⟩
    · obtain rfl : q = (sv r n, f) := by simpa using hq
      show RdR _ w (sv r n) (Lib.byteCells f.bs)
      rw [hf]
      exact (RdR.own h j hj hR).mono fun i hi => .inr hi
end Go.Proofs.YteamnhpplclmfaaGreatDoor
end
section
namespace Go.Proofs.YteamnhpplclmfaaGreatDoor
open Go.RowKit Go.Sx
set_option linter.unusedVariables false


set_option maxRecDepth 100000 in
set_option maxHeartbeats 4000000 in
theorem rcrash_any (M : Dk) (fv : Value) (rr : Nat → Prop) (keep : Int) (hkeep : keep ≤ 9223372036854775807) (hfs : M.files.length ≤ 1000000) (hsz : ∀ f ∈ M.files, f.sure ≤ f.bs.length ∧ f.bs.length ≤ 16777216) (w : World) (h : RFs rr w fv M.files) (hr : ∀ k, rr k → k < w.heap.size) :
    Calls Tryz.prog 35 ([.agg (rdC M fv), .int .i64 keep] : List Value).toArray w fun e w' => ∃ (fv' : Value) (rr' : Nat → Prop), e = .returned (.agg (rdC (crashD M keep) fv')) ∧ Below w.heap.size w w' ∧ RFs rr' w' fv' (crashD M keep).files ∧ ∀ k, rr' k → w.heap.size ≤ k := by
  obtain ⟨ps, fa, fc, hps, rfl, hrd, hcell⟩ := h.pairs
  have hpl : ps.length = M.files.length := by rw [← hps]; simp
  refine (enter tab_ok Tryz.func35 rfl Tryz.ntmps35 rfl (St.start w) (R := fun v w' => ∃ (fv' : Value) (rr' : Nat → Prop), v = .agg (rdC (crashD M keep) fv') ∧ Below w.heap.size w w' ∧ RFs rr' w' fv' (crashD M keep).files ∧ ∀ k, rr' k → w.heap.size ≤ k) ?_).mono (fun e w' ⟨v, he, fv', rr', hv, h⟩ => ⟨fv', rr', by rw [he, hv], h⟩)
  intro b2 b4
  by_cases hneg : keep < 0
  · have hck : crashD M keep = crashD M ((0 : Nat) : Int) := by
      unfold crashD
      congr 1
      refine List.map_congr_left fun f _ => ?_
      unfold crashF
      rw [show keep.toNat = (((0 : Nat) : Nat) : Int).toNat by omega]
    rw [hck]
    refine ct (decide_eq_true hneg) ?_
    refine lp tab_ok (fun x : Nat × Sx.Own × List PF × (Nat → Prop) => x.1 ≤ ps.length ∧ x.2.2.1.map (·.2) = ((ps.take x.1).map (·.2)).map (crashF (0 : Nat)) ∧ Rw 3 x.2.2.1.length x.2.1 (rfC x.2.2.1)) (fun x => ⟨[(1, .int .i64 (0 : Nat)), (2, ptr b2), (4, ptr b4), (5, sv x.2.1 x.2.2.1.length), (6, .int .i64 x.1)], [cl b2 (rdC M (.slice fa ps.length fc)) TR, cl b4 (rdC ⟨0, 0, false, false, 0, []⟩ (.slice none 0 0)) TR, se x.2.1 (rfC x.2.2.1) TFi, bagE x.2.2.2 x.2.2.1], []⟩) (fun x => ps.length - x.1) (0, none, [], fun _ => False) ⟨Nat.zero_le _, by simp, Rw.nil 3⟩ ⟨⟨rfl, rfl, rfl, rfl, rfl, trivial⟩, .cons (.cons (.pad (.pad .nil))), rfl⟩ ?_
    rintro ⟨i, r, qs, own⟩ ⟨hi, hqs, hR⟩
    simp only at hi hqs hR
    have hql : qs.length = i := by have := congrArg List.length hqs; simp at this; omega
    refine ld1 0 rfl (v := .slice fa ps.length fc) rfl ?_
    refine cd (fun h => ?_) (fun h => ?_)
    · have hil : i < ps.length := by (try simp only at h); omega
      obtain ⟨p, hp⟩ : ∃ p, p = ps[i] := ⟨_, rfl⟩
      obtain ⟨f, hpf⟩ : ∃ f, f = p.2 := ⟨_, rfl⟩
      have hpm : p ∈ ps := hp ▸ List.getElem_mem hil
      have hpr := hrd p hpm
      rw [← hpf] at hpr
      obtain ⟨qa, qc, hq⟩ := rdr_slice hpr
      rw [hq] at hpr
      have hmap : ((ps.take (i + 1)).map (·.2)).map (crashF (0 : Nat)) = ((ps.take i).map (·.2)).map (crashF (0 : Nat)) ++ [crashF (0 : Nat) f] := by
        rw [List.take_succ_eq_append_getElem hil, List.map_append, List.map_append, ← hp]; simp [hpf]
      have hfz := hsz f (by rw [← hps, hpf]; exact List.mem_map_of_mem hpm)
      obtain ⟨fb, fo, hfa, hfb, _, hfc⟩ := hcell (by intro e; rw [e] at hil; simp at hil)
      subst hfa
      obtain ⟨c1, c2, c3⟩ := rfC_get ps i hil
      rw [← hp, ← hpf] at c1 c3
      rw [← hp, hq] at c2
      have hcells : ∀ j u, (#[VS f.name, .slice qa f.bs.length qc, .int .i64 f.sure] : Array Value)[j]? = some u → w.cell? ⟨fb, fo + i * 3 + j, none⟩ = some u := by
        intro j u hu
        rw [Nat.add_assoc]
        refine hfc _ _ ?_
        rcases j with _ | _ | _ | j
        · exact c1.trans hu
        · exact c2.trans hu
        · exact c3.trans hu
        · simp at hu
      refine ld1 0 rfl (v := .slice (some ⟨fb, fo, none⟩) ps.length fc) rfl ?_
      refine ⟨by omega, by (try simp only); omega, ?_⟩
      refine ldoN (d := #[VS f.name, .slice qa f.bs.length qc, .int .i64 f.sure]) (fun j u hu => by rw [nad_eq, nmu_eq, Int.toNat_natCast]; exact hcells j u hu) hfb rfl ?_
      intro b7
      refine sN 4 rfl rfl rfl ?_ (by kernel_rfl)
      refine ld1 4 rfl (v := .slice qa f.bs.length qc) rfl ?_
      refine ld1 4 rfl (v := .int .i64 f.sure) rfl ?_
      refine .as ((f.bs.length - f.sure : Nat) : Int) (by omega) (by simp only [mn]; omega) (by simp only [mx]; omega) ?_
      by_cases hgt : (0 : Nat) < f.bs.length - f.sure
      · refine ct (decide_eq_true (by omega)) ?_
        refine ld1 4 rfl (v := .int .i64 f.sure) rfl ?_
        refine .as ((f.sure + (0 : Nat) : Nat) : Int) (by (try simp only); omega) (by simp only [mn]; omega) (by simp only [mx]; omega) ?_
        have hnl : f.sure + (0 : Nat) ≤ f.bs.length := by omega
        have hcF : crashF (0 : Nat) f = ⟨f.name, f.bs.take (f.sure + (0 : Nat)), f.sure + (0 : Nat)⟩ := by unfold crashF; rw [Int.toNat_natCast, show f.sure + min (0 : Nat) (f.bs.length - f.sure) = f.sure + (0 : Nat) by omega]
        obtain ⟨_, _, hcc, _, hspot, _⟩ := RdR.cut (k := f.sure + (0 : Nat)) hpr hnl
        have htl : (Lib.byteCells (f.bs.take (f.sure + (0 : Nat)))).length = f.sure + (0 : Nat) := by rw [Lib.byteCells_length, List.length_take, Nat.min_eq_left hnl]
        refine dr [cl b2 (rdC M (.slice (some ⟨fb, fo, none⟩) ps.length fc)) TR, cl b4 (rdC ⟨0, 0, false, false, 0, []⟩ (.slice none 0 0)) TR, dead, dead, cl b7 #[VS f.name, .slice qa f.bs.length qc, .int .i64 f.sure] TFi] 99 (.t 0 (.t 1 (.t 2 (.t 4 (.t 5 (.t 6 (.t 7 (.t 9 (.n 3 (.n 8 (.t 10 (.n 11 (.n 12 (.t 13 .nil)))))))))))))) tab_ok mixed_ok (by kernel_rfl) (.cons (.cons (.dead (.dead (.cons .nil))))) ?_
        refine ld1 4 rfl (v := VS f.name) rfl ?_
        refine ld1 4 rfl (v := .slice qa f.bs.length qc) rfl ?_
        refine slTo hspot hnl hcc ?_
        refine .mk _ _ bsl0 (fun b10 => ?_)
        refine ⟨(.cons (.cons (.dead (.dead (.cons .nil))))), ?_⟩
        have hSf : ∀ w', Below w.heap.size w w' → Src Tryz.prog 1 22 (.slice qa (f.sure + (0 : Nat)) qc) (f.sure + (0 : Nat)) (Lib.byteCells (f.bs.take (f.sure + (0 : Nat)))) w' := fun w' hb => by
          have h1 := Rd.src (tx := 22) (Rd.cap (c' := qc) (RdR.cut (k := f.sure + (0 : Nat)) (RdR.below hb hr hpr) hnl).1.rd) und22 (one8 _)
          rwa [htl] at h1
        refine biImp (next' := fun v L' => ∃ r1, Rw 1 (f.sure + (0 : Nat)) r1 (Lib.byteCells (f.bs.take (f.sure + (0 : Nat)))) ∧ v = sv r1 (f.sure + (0 : Nat)) ∧ L' = [cl b2 (rdC M (.slice (some ⟨fb, fo, none⟩) ps.length fc)) TR, cl b4 (rdC ⟨0, 0, false, false, 0, []⟩ (.slice none 0 0)) TR, se r (rfC qs) TFi, bagE own qs, cl b7 #[VS f.name, .slice qa f.bs.length qc, .int .i64 f.sure] TFi, se r1 (Lib.byteCells (f.bs.take (f.sure + (0 : Nat)))) 5]) (ap (r := some (b10, 0, [])) (xs := []) (n := 0) (m := f.sure + (0 : Nat)) (news := Lib.byteCells (f.bs.take (f.sure + (0 : Nat)))) 5 tab_ok rfl info5 rfl rfl ⟨rfl, Nat.le_refl _, by unfold maxLen; omega, rfl⟩ (fun w' hs => hSf w' hs.below) (by omega) (by unfold maxLen; omega) (fun r1 hR1 => by rw [List.nil_append, Nat.zero_add] at *; exact ⟨r1, hR1, rfl, rfl⟩)) ?_
        rintro v L' ⟨r1, hR1, rfl, rfl⟩
        refine ⟨_, fun w1 hs => bag_add hs (k := 3) (j := 5) rfl rfl hR1 (by decide) (crashF (0 : Nat) f) (by rw [hcF]), ?_⟩
        obtain ⟨a1, c1, hv1⟩ := rw_slice hR1
        rw [hv1]
        refine ⟨(.cons (.cons (.dead (.dead (.cons .nil))))), ?_⟩
        refine bu (c := #[VS f.name, .slice a1 (f.sure + (0 : Nat)) c1, .int .i64 (f.sure + (0 : Nat) : Nat)]) (by kernel_rfl) ?_
        refine .mk _ _ (bsF _ _ _ _ _) (fun b12 => ?_)
        refine ⟨(.cons (.cons (.dead (.dead (.cons .nil))))), ?_⟩
        refine ap 2 (z := 3) (n := qs.length) (m := 1) (news := [VS f.name, .slice a1 (f.sure + (0 : Nat)) c1, .int .i64 (f.sure + (0 : Nat) : Nat)]) tab_ok rfl infoFi rfl rfl hR (srcE (C := ⟨Tryz.prog, tab, 54, [], w, none⟩) (e' := TFi) (tx := TFs) (z := 3) rfl tab_ok (src 6 rfl rfl) rfl (by simp [Value.oneCell'])) (by omega) (by unfold maxLen; omega) (fun r2 hR2 => ?_)
        refine ⟨(.cons (.cons (.dead (.dead (.cons .nil))))), ?_⟩
        have e9 : rfC (qs ++ [(.slice a1 (f.sure + (0 : Nat)) c1, crashF (0 : Nat) f)]) = rfC qs ++ [VS f.name, .slice a1 (f.sure + (0 : Nat)) c1, .int .i64 (f.sure + (0 : Nat) : Nat)] := by rw [rfC_app, hcF]; simp [rfC]
        have e10 : (qs ++ [((.slice a1 (f.sure + (0 : Nat)) c1 : Value), crashF (0 : Nat) f)]).length = qs.length + 1 := by simp
        refine .as ((i + 1 : Nat) : Int) (by simp) (by simp only [mn]; omega) (by simp only [mx]; omega) ?_
        refine ⟨(i + 1, r2, qs ++ [(.slice a1 (f.sure + (0 : Nat)) c1, crashF (0 : Nat) f)], fun i => (own i ∧ qs ≠ []) ∨ rowB r1 i), ⟨by (try simp only); omega, by rw [List.map_append, hqs, hmap]; rfl, by rw [e9, e10]; exact hR2⟩, by (try simp only); omega, ⟨⟨rfl, rfl, rfl, by simp only [e10]; rfl, rfl, trivial⟩, by simp only [e9]; exact .cons (.cons (.cons (.cons .nil))), rfl⟩⟩
      · refine cf (decide_eq_false (by omega)) ?_
        have hnl : f.bs.length ≤ f.bs.length := by omega
        have hcF : crashF (0 : Nat) f = ⟨f.name, f.bs.take (f.bs.length), f.bs.length⟩ := by unfold crashF; rw [Int.toNat_natCast, show f.sure + min (0 : Nat) (f.bs.length - f.sure) = f.bs.length by omega]
        obtain ⟨_, _, hcc, _, hspot, _⟩ := RdR.cut (k := f.bs.length) hpr hnl
        have htl : (Lib.byteCells (f.bs.take (f.bs.length))).length = f.bs.length := by rw [Lib.byteCells_length, List.length_take, Nat.min_eq_left hnl]
        refine dr [cl b2 (rdC M (.slice (some ⟨fb, fo, none⟩) ps.length fc)) TR, cl b4 (rdC ⟨0, 0, false, false, 0, []⟩ (.slice none 0 0)) TR, dead, dead, cl b7 #[VS f.name, .slice qa f.bs.length qc, .int .i64 f.sure] TFi] 99 (.t 0 (.t 1 (.t 2 (.t 4 (.t 5 (.t 6 (.t 7 (.t 9 (.n 3 (.n 8 (.t 10 (.n 11 (.n 12 (.t 13 .nil)))))))))))))) tab_ok mixed_ok (by kernel_rfl) (.cons (.cons (.dead (.dead (.cons .nil))))) ?_
        refine ld1 4 rfl (v := VS f.name) rfl ?_
        refine ld1 4 rfl (v := .slice qa f.bs.length qc) rfl ?_
        refine slTo hspot hnl hcc ?_
        refine .mk _ _ bsl0 (fun b10 => ?_)
        refine ⟨(.cons (.cons (.dead (.dead (.cons .nil))))), ?_⟩
        have hSf : ∀ w', Below w.heap.size w w' → Src Tryz.prog 1 22 (.slice qa (f.bs.length) qc) (f.bs.length) (Lib.byteCells (f.bs.take (f.bs.length))) w' := fun w' hb => by
          have h1 := Rd.src (tx := 22) (Rd.cap (c' := qc) (RdR.cut (k := f.bs.length) (RdR.below hb hr hpr) hnl).1.rd) und22 (one8 _)
          rwa [htl] at h1
        refine biImp (next' := fun v L' => ∃ r1, Rw 1 (f.bs.length) r1 (Lib.byteCells (f.bs.take (f.bs.length))) ∧ v = sv r1 (f.bs.length) ∧ L' = [cl b2 (rdC M (.slice (some ⟨fb, fo, none⟩) ps.length fc)) TR, cl b4 (rdC ⟨0, 0, false, false, 0, []⟩ (.slice none 0 0)) TR, se r (rfC qs) TFi, bagE own qs, cl b7 #[VS f.name, .slice qa f.bs.length qc, .int .i64 f.sure] TFi, se r1 (Lib.byteCells (f.bs.take (f.bs.length))) 5]) (ap (r := some (b10, 0, [])) (xs := []) (n := 0) (m := f.bs.length) (news := Lib.byteCells (f.bs.take (f.bs.length))) 5 tab_ok rfl info5 rfl rfl ⟨rfl, Nat.le_refl _, by unfold maxLen; omega, rfl⟩ (fun w' hs => hSf w' hs.below) (by omega) (by unfold maxLen; omega) (fun r1 hR1 => by rw [List.nil_append, Nat.zero_add] at *; exact ⟨r1, hR1, rfl, rfl⟩)) ?_
        rintro v L' ⟨r1, hR1, rfl, rfl⟩
        refine ⟨_, fun w1 hs => bag_add hs (k := 3) (j := 5) rfl rfl hR1 (by decide) (crashF (0 : Nat) f) (by rw [hcF]), ?_⟩
        obtain ⟨a1, c1, hv1⟩ := rw_slice hR1
        rw [hv1]
        refine ⟨(.cons (.cons (.dead (.dead (.cons .nil))))), ?_⟩
        refine bu (c := #[VS f.name, .slice a1 (f.bs.length) c1, .int .i64 (f.bs.length : Nat)]) (by kernel_rfl) ?_
        refine .mk _ _ (bsF _ _ _ _ _) (fun b12 => ?_)
        refine ⟨(.cons (.cons (.dead (.dead (.cons .nil))))), ?_⟩
        refine ap 2 (z := 3) (n := qs.length) (m := 1) (news := [VS f.name, .slice a1 (f.bs.length) c1, .int .i64 (f.bs.length : Nat)]) tab_ok rfl infoFi rfl rfl hR (srcE (C := ⟨Tryz.prog, tab, 54, [], w, none⟩) (e' := TFi) (tx := TFs) (z := 3) rfl tab_ok (src 6 rfl rfl) rfl (by simp [Value.oneCell'])) (by omega) (by unfold maxLen; omega) (fun r2 hR2 => ?_)
        refine ⟨(.cons (.cons (.dead (.dead (.cons .nil))))), ?_⟩
        have e9 : rfC (qs ++ [(.slice a1 (f.bs.length) c1, crashF (0 : Nat) f)]) = rfC qs ++ [VS f.name, .slice a1 (f.bs.length) c1, .int .i64 (f.bs.length : Nat)] := by rw [rfC_app, hcF]; simp [rfC]
        have e10 : (qs ++ [((.slice a1 (f.bs.length) c1 : Value), crashF (0 : Nat) f)]).length = qs.length + 1 := by simp
        refine .as ((i + 1 : Nat) : Int) (by simp) (by simp only [mn]; omega) (by simp only [mx]; omega) ?_
        refine ⟨(i + 1, r2, qs ++ [(.slice a1 (f.bs.length) c1, crashF (0 : Nat) f)], fun i => (own i ∧ qs ≠ []) ∨ rowB r1 i), ⟨by (try simp only); omega, by rw [List.map_append, hqs, hmap]; rfl, by rw [e9, e10]; exact hR2⟩, by (try simp only); omega, ⟨⟨rfl, rfl, rfl, by simp only [e10]; rfl, rfl, trivial⟩, by simp only [e9]; exact .cons (.cons (.cons (.cons .nil))), rfl⟩⟩
    · obtain rfl : i = ps.length := by (try simp only at h); omega
      rw [List.take_of_length_le (Nat.le_refl _), hps] at hqs
      refine s1 0 rfl (show 5 < 6 by decide) ?_ (h1 := by cases r <;> rfl) (hv := by cases r <;> rfl)
      refine s1 0 rfl (show 4 < 6 by decide) ?_
      refine s1 0 rfl (show 3 < 6 by decide) ?_
      refine ldN 0 rfl rfl ?_
      refine sN 1 rfl rfl (rdC_one (crashD M (0 : Nat)) (by cases r <;> rfl)) ?_ (by kernel_rfl)
      refine ldN 1 rfl rfl ?_
      refine ⟨fun w1 hs => ⟨sv r qs.length, fun j => (own j ∧ qs ≠ []) ∨ rowB r j, rfl, hs.below, ?_, ?_⟩⟩
      · have := RFs.own (rr := fun j => own j ∧ qs ≠ []) hs 2 rfl hR (fun p hp => (bagE_ok (hs.ok _ (List.mem_of_getElem? (i := 3) rfl)) p hp).mono fun j hj => ⟨hj, by intro e; rw [e] at hp; cases hp⟩)
        rwa [hqs] at this
      · intro j hj
        rcases hj with ⟨h1, h2⟩ | h1
        · have h3 : (bagE own qs).W j := by unfold bagE; rw [if_neg h2]; simpa [bagR] using h1
          rcases hs.ownW _ (List.mem_of_getElem? (i := 3) rfl) j h3 with h4 | h4
          · exact h4
          · simp at h4
        · exact own_new hs 2 rfl j h1
  · obtain ⟨z, rfl⟩ : ∃ z : Nat, keep = z := ⟨keep.toNat, by omega⟩
    refine cf (decide_eq_false hneg) ?_
    refine lp tab_ok (fun x : Nat × Sx.Own × List PF × (Nat → Prop) => x.1 ≤ ps.length ∧ x.2.2.1.map (·.2) = ((ps.take x.1).map (·.2)).map (crashF z) ∧ Rw 3 x.2.2.1.length x.2.1 (rfC x.2.2.1)) (fun x => ⟨[(1, .int .i64 z), (2, ptr b2), (4, ptr b4), (5, sv x.2.1 x.2.2.1.length), (6, .int .i64 x.1)], [cl b2 (rdC M (.slice fa ps.length fc)) TR, cl b4 (rdC ⟨0, 0, false, false, 0, []⟩ (.slice none 0 0)) TR, se x.2.1 (rfC x.2.2.1) TFi, bagE x.2.2.2 x.2.2.1], []⟩) (fun x => ps.length - x.1) (0, none, [], fun _ => False) ⟨Nat.zero_le _, by simp, Rw.nil 3⟩ ⟨⟨rfl, rfl, rfl, rfl, rfl, trivial⟩, .cons (.cons (.pad (.pad .nil))), rfl⟩ ?_
    rintro ⟨i, r, qs, own⟩ ⟨hi, hqs, hR⟩
    simp only at hi hqs hR
    have hql : qs.length = i := by have := congrArg List.length hqs; simp at this; omega
    refine ld1 0 rfl (v := .slice fa ps.length fc) rfl ?_
    refine cd (fun h => ?_) (fun h => ?_)
    · have hil : i < ps.length := by (try simp only at h); omega
      obtain ⟨p, hp⟩ : ∃ p, p = ps[i] := ⟨_, rfl⟩
      obtain ⟨f, hpf⟩ : ∃ f, f = p.2 := ⟨_, rfl⟩
      have hpm : p ∈ ps := hp ▸ List.getElem_mem hil
      have hpr := hrd p hpm
      rw [← hpf] at hpr
      obtain ⟨qa, qc, hq⟩ := rdr_slice hpr
      rw [hq] at hpr
      have hmap : ((ps.take (i + 1)).map (·.2)).map (crashF z) = ((ps.take i).map (·.2)).map (crashF z) ++ [crashF z f] := by
        rw [List.take_succ_eq_append_getElem hil, List.map_append, List.map_append, ← hp]; simp [hpf]
      have hfz := hsz f (by rw [← hps, hpf]; exact List.mem_map_of_mem hpm)
      obtain ⟨fb, fo, hfa, hfb, _, hfc⟩ := hcell (by intro e; rw [e] at hil; simp at hil)
      subst hfa
      obtain ⟨c1, c2, c3⟩ := rfC_get ps i hil
      rw [← hp, ← hpf] at c1 c3
      rw [← hp, hq] at c2
      have hcells : ∀ j u, (#[VS f.name, .slice qa f.bs.length qc, .int .i64 f.sure] : Array Value)[j]? = some u → w.cell? ⟨fb, fo + i * 3 + j, none⟩ = some u := by
        intro j u hu
        rw [Nat.add_assoc]
        refine hfc _ _ ?_
        rcases j with _ | _ | _ | j
        · exact c1.trans hu
        · exact c2.trans hu
        · exact c3.trans hu
        · simp at hu
      refine ld1 0 rfl (v := .slice (some ⟨fb, fo, none⟩) ps.length fc) rfl ?_
      refine ⟨by omega, by (try simp only); omega, ?_⟩
      refine ldoN (d := #[VS f.name, .slice qa f.bs.length qc, .int .i64 f.sure]) (fun j u hu => by rw [nad_eq, nmu_eq, Int.toNat_natCast]; exact hcells j u hu) hfb rfl ?_
      intro b7
      refine sN 4 rfl rfl rfl ?_ (by kernel_rfl)
      refine ld1 4 rfl (v := .slice qa f.bs.length qc) rfl ?_
      refine ld1 4 rfl (v := .int .i64 f.sure) rfl ?_
      refine .as ((f.bs.length - f.sure : Nat) : Int) (by omega) (by simp only [mn]; omega) (by simp only [mx]; omega) ?_
      by_cases hgt : z < f.bs.length - f.sure
      · refine ct (decide_eq_true (by omega)) ?_
        refine ld1 4 rfl (v := .int .i64 f.sure) rfl ?_
        refine .as ((f.sure + z : Nat) : Int) (by (try simp only); omega) (by simp only [mn]; omega) (by simp only [mx]; omega) ?_
        have hnl : f.sure + z ≤ f.bs.length := by omega
        have hcF : crashF z f = ⟨f.name, f.bs.take (f.sure + z), f.sure + z⟩ := by unfold crashF; rw [Int.toNat_natCast, show f.sure + min z (f.bs.length - f.sure) = f.sure + z by omega]
        obtain ⟨_, _, hcc, _, hspot, _⟩ := RdR.cut (k := f.sure + z) hpr hnl
        have htl : (Lib.byteCells (f.bs.take (f.sure + z))).length = f.sure + z := by rw [Lib.byteCells_length, List.length_take, Nat.min_eq_left hnl]
        refine dr [cl b2 (rdC M (.slice (some ⟨fb, fo, none⟩) ps.length fc)) TR, cl b4 (rdC ⟨0, 0, false, false, 0, []⟩ (.slice none 0 0)) TR, dead, dead, cl b7 #[VS f.name, .slice qa f.bs.length qc, .int .i64 f.sure] TFi] 99 (.t 0 (.t 1 (.t 2 (.t 4 (.t 5 (.t 6 (.t 7 (.t 9 (.n 3 (.n 8 (.t 10 (.n 11 (.n 12 (.t 13 .nil)))))))))))))) tab_ok mixed_ok (by kernel_rfl) (.cons (.cons (.dead (.dead (.cons .nil))))) ?_
        refine ld1 4 rfl (v := VS f.name) rfl ?_
        refine ld1 4 rfl (v := .slice qa f.bs.length qc) rfl ?_
        refine slTo hspot hnl hcc ?_
        refine .mk _ _ bsl0 (fun b10 => ?_)
        refine ⟨(.cons (.cons (.dead (.dead (.cons .nil))))), ?_⟩
        have hSf : ∀ w', Below w.heap.size w w' → Src Tryz.prog 1 22 (.slice qa (f.sure + z) qc) (f.sure + z) (Lib.byteCells (f.bs.take (f.sure + z))) w' := fun w' hb => by
          have h1 := Rd.src (tx := 22) (Rd.cap (c' := qc) (RdR.cut (k := f.sure + z) (RdR.below hb hr hpr) hnl).1.rd) und22 (one8 _)
          rwa [htl] at h1
        refine biImp (next' := fun v L' => ∃ r1, Rw 1 (f.sure + z) r1 (Lib.byteCells (f.bs.take (f.sure + z))) ∧ v = sv r1 (f.sure + z) ∧ L' = [cl b2 (rdC M (.slice (some ⟨fb, fo, none⟩) ps.length fc)) TR, cl b4 (rdC ⟨0, 0, false, false, 0, []⟩ (.slice none 0 0)) TR, se r (rfC qs) TFi, bagE own qs, cl b7 #[VS f.name, .slice qa f.bs.length qc, .int .i64 f.sure] TFi, se r1 (Lib.byteCells (f.bs.take (f.sure + z))) 5]) (ap (r := some (b10, 0, [])) (xs := []) (n := 0) (m := f.sure + z) (news := Lib.byteCells (f.bs.take (f.sure + z))) 5 tab_ok rfl info5 rfl rfl ⟨rfl, Nat.le_refl _, by unfold maxLen; omega, rfl⟩ (fun w' hs => hSf w' hs.below) (by omega) (by unfold maxLen; omega) (fun r1 hR1 => by rw [List.nil_append, Nat.zero_add] at *; exact ⟨r1, hR1, rfl, rfl⟩)) ?_
        rintro v L' ⟨r1, hR1, rfl, rfl⟩
        refine ⟨_, fun w1 hs => bag_add hs (k := 3) (j := 5) rfl rfl hR1 (by decide) (crashF z f) (by rw [hcF]), ?_⟩
        obtain ⟨a1, c1, hv1⟩ := rw_slice hR1
        rw [hv1]
        refine ⟨(.cons (.cons (.dead (.dead (.cons .nil))))), ?_⟩
        refine bu (c := #[VS f.name, .slice a1 (f.sure + z) c1, .int .i64 (f.sure + z : Nat)]) (by kernel_rfl) ?_
        refine .mk _ _ (bsF _ _ _ _ _) (fun b12 => ?_)
        refine ⟨(.cons (.cons (.dead (.dead (.cons .nil))))), ?_⟩
        refine ap 2 (z := 3) (n := qs.length) (m := 1) (news := [VS f.name, .slice a1 (f.sure + z) c1, .int .i64 (f.sure + z : Nat)]) tab_ok rfl infoFi rfl rfl hR (srcE (C := ⟨Tryz.prog, tab, 54, [], w, none⟩) (e' := TFi) (tx := TFs) (z := 3) rfl tab_ok (src 6 rfl rfl) rfl (by simp [Value.oneCell'])) (by omega) (by unfold maxLen; omega) (fun r2 hR2 => ?_)
        refine ⟨(.cons (.cons (.dead (.dead (.cons .nil))))), ?_⟩
        have e9 : rfC (qs ++ [(.slice a1 (f.sure + z) c1, crashF z f)]) = rfC qs ++ [VS f.name, .slice a1 (f.sure + z) c1, .int .i64 (f.sure + z : Nat)] := by rw [rfC_app, hcF]; simp [rfC]
        have e10 : (qs ++ [((.slice a1 (f.sure + z) c1 : Value), crashF z f)]).length = qs.length + 1 := by simp
        refine .as ((i + 1 : Nat) : Int) (by simp) (by simp only [mn]; omega) (by simp only [mx]; omega) ?_
        refine ⟨(i + 1, r2, qs ++ [(.slice a1 (f.sure + z) c1, crashF z f)], fun i => (own i ∧ qs ≠ []) ∨ rowB r1 i), ⟨by (try simp only); omega, by rw [List.map_append, hqs, hmap]; rfl, by rw [e9, e10]; exact hR2⟩, by (try simp only); omega, ⟨⟨rfl, rfl, rfl, by simp only [e10]; rfl, rfl, trivial⟩, by simp only [e9]; exact .cons (.cons (.cons (.cons .nil))), rfl⟩⟩
      · refine cf (decide_eq_false (by omega)) ?_
        have hnl : f.bs.length ≤ f.bs.length := by omega
        have hcF : crashF z f = ⟨f.name, f.bs.take (f.bs.length), f.bs.length⟩ := by unfold crashF; rw [Int.toNat_natCast, show f.sure + min z (f.bs.length - f.sure) = f.bs.length by omega]
        obtain ⟨_, _, hcc, _, hspot, _⟩ := RdR.cut (k := f.bs.length) hpr hnl
        have htl : (Lib.byteCells (f.bs.take (f.bs.length))).length = f.bs.length := by rw [Lib.byteCells_length, List.length_take, Nat.min_eq_left hnl]
        refine dr [cl b2 (rdC M (.slice (some ⟨fb, fo, none⟩) ps.length fc)) TR, cl b4 (rdC ⟨0, 0, false, false, 0, []⟩ (.slice none 0 0)) TR, dead, dead, cl b7 #[VS f.name, .slice qa f.bs.length qc, .int .i64 f.sure] TFi] 99 (.t 0 (.t 1 (.t 2 (.t 4 (.t 5 (.t 6 (.t 7 (.t 9 (.n 3 (.n 8 (.t 10 (.n 11 (.n 12 (.t 13 .nil)))))))))))))) tab_ok mixed_ok (by kernel_rfl) (.cons (.cons (.dead (.dead (.cons .nil))))) ?_
        refine ld1 4 rfl (v := VS f.name) rfl ?_
        refine ld1 4 rfl (v := .slice qa f.bs.length qc) rfl ?_
        refine slTo hspot hnl hcc ?_
        refine .mk _ _ bsl0 (fun b10 => ?_)
        refine ⟨(.cons (.cons (.dead (.dead (.cons .nil))))), ?_⟩
        have hSf : ∀ w', Below w.heap.size w w' → Src Tryz.prog 1 22 (.slice qa (f.bs.length) qc) (f.bs.length) (Lib.byteCells (f.bs.take (f.bs.length))) w' := fun w' hb => by
          have h1 := Rd.src (tx := 22) (Rd.cap (c' := qc) (RdR.cut (k := f.bs.length) (RdR.below hb hr hpr) hnl).1.rd) und22 (one8 _)
          rwa [htl] at h1
        refine biImp (next' := fun v L' => ∃ r1, Rw 1 (f.bs.length) r1 (Lib.byteCells (f.bs.take (f.bs.length))) ∧ v = sv r1 (f.bs.length) ∧ L' = [cl b2 (rdC M (.slice (some ⟨fb, fo, none⟩) ps.length fc)) TR, cl b4 (rdC ⟨0, 0, false, false, 0, []⟩ (.slice none 0 0)) TR, se r (rfC qs) TFi, bagE own qs, cl b7 #[VS f.name, .slice qa f.bs.length qc, .int .i64 f.sure] TFi, se r1 (Lib.byteCells (f.bs.take (f.bs.length))) 5]) (ap (r := some (b10, 0, [])) (xs := []) (n := 0) (m := f.bs.length) (news := Lib.byteCells (f.bs.take (f.bs.length))) 5 tab_ok rfl info5 rfl rfl ⟨rfl, Nat.le_refl _, by unfold maxLen; omega, rfl⟩ (fun w' hs => hSf w' hs.below) (by omega) (by unfold maxLen; omega) (fun r1 hR1 => by rw [List.nil_append, Nat.zero_add] at *; exact ⟨r1, hR1, rfl, rfl⟩)) ?_
        rintro v L' ⟨r1, hR1, rfl, rfl⟩
        refine ⟨_, fun w1 hs => bag_add hs (k := 3) (j := 5) rfl rfl hR1 (by decide) (crashF z f) (by rw [hcF]), ?_⟩
        obtain ⟨a1, c1, hv1⟩ := rw_slice hR1
        rw [hv1]
        refine ⟨(.cons (.cons (.dead (.dead (.cons .nil))))), ?_⟩
        refine bu (c := #[VS f.name, .slice a1 (f.bs.length) c1, .int .i64 (f.bs.length : Nat)]) (by kernel_rfl) ?_
        refine .mk _ _ (bsF _ _ _ _ _) (fun b12 => ?_)
        refine ⟨(.cons (.cons (.dead (.dead (.cons .nil))))), ?_⟩
        refine ap 2 (z := 3) (n := qs.length) (m := 1) (news := [VS f.name, .slice a1 (f.bs.length) c1, .int .i64 (f.bs.length : Nat)]) tab_ok rfl infoFi rfl rfl hR (srcE (C := ⟨Tryz.prog, tab, 54, [], w, none⟩) (e' := TFi) (tx := TFs) (z := 3) rfl tab_ok (src 6 rfl rfl) rfl (by simp [Value.oneCell'])) (by omega) (by unfold maxLen; omega) (fun r2 hR2 => ?_)
        refine ⟨(.cons (.cons (.dead (.dead (.cons .nil))))), ?_⟩
        have e9 : rfC (qs ++ [(.slice a1 (f.bs.length) c1, crashF z f)]) = rfC qs ++ [VS f.name, .slice a1 (f.bs.length) c1, .int .i64 (f.bs.length : Nat)] := by rw [rfC_app, hcF]; simp [rfC]
        have e10 : (qs ++ [((.slice a1 (f.bs.length) c1 : Value), crashF z f)]).length = qs.length + 1 := by simp
        refine .as ((i + 1 : Nat) : Int) (by simp) (by simp only [mn]; omega) (by simp only [mx]; omega) ?_
        refine ⟨(i + 1, r2, qs ++ [(.slice a1 (f.bs.length) c1, crashF z f)], fun i => (own i ∧ qs ≠ []) ∨ rowB r1 i), ⟨by (try simp only); omega, by rw [List.map_append, hqs, hmap]; rfl, by rw [e9, e10]; exact hR2⟩, by (try simp only); omega, ⟨⟨rfl, rfl, rfl, by simp only [e10]; rfl, rfl, trivial⟩, by simp only [e9]; exact .cons (.cons (.cons (.cons .nil))), rfl⟩⟩
    · obtain rfl : i = ps.length := by (try simp only at h); omega
      rw [List.take_of_length_le (Nat.le_refl _), hps] at hqs
      refine s1 0 rfl (show 5 < 6 by decide) ?_ (h1 := by cases r <;> rfl) (hv := by cases r <;> rfl)
      refine s1 0 rfl (show 4 < 6 by decide) ?_
      refine s1 0 rfl (show 3 < 6 by decide) ?_
      refine ldN 0 rfl rfl ?_
      refine sN 1 rfl rfl (rdC_one (crashD M z) (by cases r <;> rfl)) ?_ (by kernel_rfl)
      refine ldN 1 rfl rfl ?_
      refine ⟨fun w1 hs => ⟨sv r qs.length, fun j => (own j ∧ qs ≠ []) ∨ rowB r j, rfl, hs.below, ?_, ?_⟩⟩
      · have := RFs.own (rr := fun j => own j ∧ qs ≠ []) hs 2 rfl hR (fun p hp => (bagE_ok (hs.ok _ (List.mem_of_getElem? (i := 3) rfl)) p hp).mono fun j hj => ⟨hj, by intro e; rw [e] at hp; cases hp⟩)
        rwa [hqs] at this
      · intro j hj
        rcases hj with ⟨h1, h2⟩ | h1
        · have h3 : (bagE own qs).W j := by unfold bagE; rw [if_neg h2]; simpa [bagR] using h1
          rcases hs.ownW _ (List.mem_of_getElem? (i := 3) rfl) j h3 with h4 | h4
          · exact h4
          · simp at h4
        · exact own_new hs 2 rfl j h1
end Go.Proofs.YteamnhpplclmfaaGreatDoor
end
section
namespace Go.Proofs.YteamnhpplclmfaaGreatDoor
open Go.RowKit Go.Sx
set_option linter.unusedVariables false

abbrev Nms (fs : List Fe) : Prop := (fs.map (·.name)).Nodup
abbrev Rise (fs : List Fe) : Prop := fs.Pairwise fun f g => f.name < g.name
theorem Rise.nd {fs : List Fe} (h : Rise fs) : Nms fs := by
  rw [Nms, List.nodup_iff_pairwise_ne, List.pairwise_map]
  refine h.imp fun {a b} h1 h2 => ?_
  rw [h2] at h1
  exact List.lt_irrefl _ h1
theorem Nms.nd {fs : List Fe} (h : Nms fs) : fs.Nodup := by
  rw [Nms, List.nodup_iff_pairwise_ne, List.pairwise_map] at h
  exact h.imp fun {a b} h1 h2 => h1 (by rw [h2])
theorem find_some {fs : List Fe} (h : Nms fs) {f : Fe} (hf : f ∈ fs) : findF f.name fs = some f := by
  induction fs with
  | nil => cases hf
  | cons g l ih =>
    simp only [Nms, List.map_cons, List.nodup_cons] at h
    unfold findF
    rcases List.mem_cons.1 hf with rfl | hf
    · rw [if_pos rfl]
    · rw [if_neg, ih h.2 hf]
      intro e
      exact h.1 (e ▸ List.mem_map_of_mem hf)
theorem find_none {fs : List Fe} {n : List UInt8} (h : ∀ f ∈ fs, f.name ≠ n) : findF n fs = none := by
  cases hf : findF n fs with
  | none => rfl
  | some f => exact absurd (findF_mem hf).2 (h f (findF_mem hf).1)
theorem find_perm {fs gs : List Fe} (hf : Nms fs) (hg : Nms gs) (hp : gs.Perm fs) (n : List UInt8) : findF n gs = findF n fs := by
  cases h : findF n fs with
  | none =>
    refine find_none fun f h1 h2 => ?_
    have := find_some hf (hp.mem_iff.1 h1)
    rw [h2, h] at this; cases this
  | some f =>
    obtain ⟨h1, h2⟩ := findF_mem h
    rw [← h2]
    exact find_some hg (hp.mem_iff.2 h1)
theorem set_mem {fs : List Fe} (h : Nms fs) (f g : Fe) : g ∈ setF f fs ↔ g = f ∨ (g ∈ fs ∧ g.name ≠ f.name) := by
  induction fs with
  | nil => simp [setF]
  | cons k l ih =>
    simp only [Nms, List.map_cons, List.nodup_cons] at h
    unfold setF
    by_cases he : f.name = k.name
    · rw [if_pos he]
      simp only [List.mem_cons]
      constructor
      · rintro (rfl | h1)
        · exact .inl rfl
        · exact .inr ⟨.inr h1, fun e => h.1 (by rw [← he, ← e]; exact List.mem_map_of_mem h1)⟩
      · rintro (h1 | ⟨rfl | h1, h2⟩)
        · exact .inl h1
        · exact absurd he.symm h2
        · exact .inr h1
    · rw [if_neg he]
      simp only [List.mem_cons, ih h.2]
      constructor
      · rintro (rfl | h1 | h1)
        · exact .inr ⟨.inl rfl, fun e => he e.symm⟩
        · exact .inl h1
        · exact .inr ⟨.inr h1.1, h1.2⟩
      · rintro (h1 | ⟨h1 | h1, h2⟩)
        · exact .inr (.inl h1)
        · exact .inl h1
        · exact .inr (.inr ⟨h1, h2⟩)
theorem set_nd {fs : List Fe} (h : Nms fs) (f : Fe) : Nms (setF f fs) := by
  rw [Nms, setF_names]
  split
  · exact h
  · rename_i h1
    refine List.nodup_append.2 ⟨h, by simp, ?_⟩
    intro a ha b hb
    obtain rfl : b = f.name := by simpa using hb
    exact fun e => h1 (e ▸ ha)
theorem del_mem {fs : List Fe} (h : Nms fs) (n : List UInt8) (g : Fe) : g ∈ delF n fs ↔ g ∈ fs ∧ g.name ≠ n := by
  induction fs with
  | nil => simp [delF]
  | cons k l ih =>
    simp only [Nms, List.map_cons, List.nodup_cons] at h
    unfold delF
    by_cases he : n = k.name
    · rw [if_pos he]
      simp only [List.mem_cons]
      constructor
      · intro h1; exact ⟨.inr h1, fun e => h.1 (by rw [← he, ← e]; exact List.mem_map_of_mem h1)⟩
      · rintro ⟨rfl | h1, h2⟩
        · exact absurd he.symm h2
        · exact h1
    · rw [if_neg he]
      simp only [List.mem_cons, ih h.2]
      constructor
      · rintro (rfl | h1)
        · exact ⟨.inl rfl, fun e => he e.symm⟩
        · exact ⟨.inr h1.1, h1.2⟩
      · rintro ⟨h1 | h1, h2⟩
        · exact .inl h1
        · exact .inr ⟨h1, h2⟩
theorem del_nd {fs : List Fe} (h : Nms fs) (n : List UInt8) : Nms (delF n fs) := List.Pairwise.sublist ((delF_sub n fs).map _) h
/-- the files, one more put in its place -/
def insF (f : Fe) : List Fe → List Fe
  | [] => [f]
  | g :: l => if g.name < f.name then g :: insF f l else f :: (g :: l).filter fun q => decide (q.name ≠ f.name)
def endF (f : Fe) (s : List Fe × Bool) : List Fe := if s.2 then s.1 else s.1 ++ [f]
theorem putF_ins (f : Fe) (fs : List Fe) : putF f fs = insF f fs := by
  have done : ∀ (l out : List Fe), l.foldl (putStepF f) (out, true) = (out ++ l.filter (fun q => decide (q.name ≠ f.name)), true) := by
    intro l
    induction l with
    | nil => intro out; simp
    | cons g l ih =>
      intro out
      rw [List.foldl_cons]
      by_cases he : g.name = f.name
      · have : putStepF f (out, true) g = (out, true) := by simp [putStepF, he]
        rw [this, ih, List.filter_cons_of_neg (by simp [he])]
      · have : putStepF f (out, true) g = (out ++ [g], true) := by simp [putStepF, he]
        rw [this, ih, List.filter_cons_of_pos (by simp [he])]; simp
  have go : ∀ (l out : List Fe), endF f (l.foldl (putStepF f) (out, false)) = out ++ insF f l := by
    intro l
    induction l with
    | nil => intro out; simp [insF, endF]
    | cons g l ih =>
      intro out
      rw [List.foldl_cons]
      by_cases hl : g.name < f.name
      · have hne : g.name ≠ f.name := fun e => List.lt_irrefl _ (e ▸ hl)
        have : putStepF f (out, false) g = (out ++ [g], false) := by simp [putStepF, hl, hne]
        rw [this, ih, insF, if_pos hl]; simp
      · by_cases he : g.name = f.name
        · have : putStepF f (out, false) g = (out ++ [f], true) := by simp [putStepF, he, List.lt_irrefl]
          rw [this, done, insF, if_neg hl, List.filter_cons_of_neg (by simp [he])]; simp [endF]
        · have : putStepF f (out, false) g = (out ++ [f] ++ [g], true) := by simp [putStepF, he, hl]
          rw [this, done, insF, if_neg hl, List.filter_cons_of_pos (by simp [he])]; simp [endF]
  have := go fs []
  rw [List.nil_append] at this
  exact this
theorem ins_mem (f g : Fe) (fs : List Fe) : g ∈ insF f fs ↔ g = f ∨ (g ∈ fs ∧ g.name ≠ f.name) := by
  induction fs with
  | nil => simp [insF]
  | cons k l ih =>
    unfold insF
    by_cases hl : k.name < f.name
    · have hne : k.name ≠ f.name := fun e => List.lt_irrefl _ (e ▸ hl)
      rw [if_pos hl]
      simp only [List.mem_cons, ih]
      constructor
      · rintro (rfl | h1 | h1)
        · exact .inr ⟨.inl rfl, hne⟩
        · exact .inl h1
        · exact .inr ⟨.inr h1.1, h1.2⟩
      · rintro (h1 | ⟨h1 | h1, h2⟩)
        · exact .inr (.inl h1)
        · exact .inl h1
        · exact .inr (.inr ⟨h1, h2⟩)
    · rw [if_neg hl]
      simp [List.mem_filter]
theorem ins_rise {f : Fe} {fs : List Fe} (h : Rise fs) : Rise (insF f fs) := by
  induction fs with
  | nil => simp [insF, Rise]
  | cons k l ih =>
    have hk := (List.pairwise_cons.1 h).1
    have hl := (List.pairwise_cons.1 h).2
    unfold insF
    by_cases hlt : k.name < f.name
    · rw [if_pos hlt]
      refine List.pairwise_cons.2 ⟨fun g hg => ?_, ih hl⟩
      rcases (ins_mem f g l).1 hg with rfl | ⟨h1, _⟩
      · exact hlt
      · exact hk g h1
    · rw [if_neg hlt]
      refine List.pairwise_cons.2 ⟨fun g hg => ?_, h.sublist List.filter_sublist⟩
      obtain ⟨h1, h2⟩ := List.mem_filter.1 hg
      have h2 : g.name ≠ f.name := by simpa using h2
      have hle : f.name ≤ g.name := by
        rcases List.mem_cons.1 h1 with rfl | h1
        · exact List.not_lt.1 hlt
        · exact List.le_of_lt (List.lt_of_le_of_lt (List.not_lt.1 hlt) (hk g h1))
      exact Decidable.byContradiction fun hn => h2 (List.le_antisymm (List.not_lt.1 hn) hle)
/-- the reference's files and the program's -/
structure PS (fs gs : List Fe) : Prop where
  n : Nms fs
  p : gs.Perm fs
  s : Rise gs
theorem PS.refl {fs : List Fe} (h : Rise fs) : PS fs fs := ⟨h.nd, .refl _, h⟩
theorem PS.of {fs gs : List Fe} (h1 : Nms fs) (h2 : Rise gs) (h : ∀ f, f ∈ gs ↔ f ∈ fs) : PS fs gs := ⟨h1, (List.perm_ext_iff_of_nodup h2.nd.nd h1.nd).2 h, h2⟩
theorem PS.put {fs gs : List Fe} (h : PS fs gs) (f : Fe) : PS (setF f fs) (putF f gs) := by
  rw [putF_ins]
  refine .of (set_nd h.n f) (ins_rise h.s) fun g => ?_
  rw [ins_mem, set_mem h.n, h.p.mem_iff]
theorem PS.del {fs gs : List Fe} (h : PS fs gs) (n : List UInt8) : PS (delF n fs) (woF n gs) := by
  refine .of (del_nd h.n n) (h.s.sublist List.filter_sublist) fun g => ?_
  rw [del_mem h.n, woF, List.mem_filter, h.p.mem_iff]
  simp
theorem PS.map {fs gs : List Fe} (h : PS fs gs) (k : Fe → Fe) (hk : ∀ f, (k f).name = f.name) : PS (fs.map k) (gs.map k) := by
  refine ⟨?_, h.p.map k, ?_⟩
  · rw [Nms, List.map_map, show ((·.name) ∘ k : Fe → List UInt8) = (·.name) from funext hk]; exact h.n
  · rw [Rise, List.pairwise_map]
    simpa only [hk] using h.s
theorem PS.find {fs gs : List Fe} (h : PS fs gs) (n : List UInt8) : findF n gs = findF n fs := find_perm h.n h.s.nd h.p n
theorem PS.used {fs gs : List Fe} (h : PS fs gs) : usedD gs = usedD fs := List.Perm.sum_nat (h.p.map _)
theorem PS.names {fs gs : List Fe} (h : PS fs gs) : sortT (fs.map (·.name)) = gs.map (·.name) := by
  refine sorted_eq ((sortT_perm _).trans (h.p.map _).symm) (sortT_pw _) ?_
  rw [List.pairwise_map]
  exact h.s.imp fun h => List.le_of_lt h
/-- the program's disk and the reference's -/
structure Eqv (D M : Dk) : Prop where
  st : D.steps = M.steps
  lf : D.left = M.left
  ar : D.armed = M.armed
  gn : D.gone = M.gone
  qt : D.quota = M.quota
  f : PS D.files M.files
theorem Eqv.refl {M : Dk} (h : Rise M.files) : Eqv M M := ⟨rfl, rfl, rfl, rfl, rfl, .refl h⟩
theorem Eqv.step {D M : Dk} (h : Eqv D M) : (stepD D).1 = (stepD M).1 ∧ Eqv (stepD D).2 (stepD M).2 := by
  unfold stepD
  rw [h.gn, h.ar, h.lf]
  split
  · exact ⟨rfl, h.st, rfl, rfl, rfl, h.qt, h.f⟩
  · exact ⟨rfl, by simp [h.st], rfl, rfl, rfl, h.qt, h.f⟩
theorem Eqv.act {D M : Dk} (h : Eqv D M) {fs gs : List Fe} (hf : PS fs gs) : (actD D fs).2 = (actD M gs).2 ∧ Eqv (actD D fs).1 (actD M gs).1 := by
  obtain ⟨h1, h2⟩ := h.step
  unfold actD
  rw [h1]
  split
  · exact ⟨rfl, h2.st, h2.lf, h2.ar, h2.gn, h2.qt, hf⟩
  · exact ⟨rfl, h2⟩
theorem Eqv.append {D M : Dk} (h : Eqv D M) (n x : List UInt8) : (appendD D n x).2 = (rappendD M n x).2 ∧ Eqv (appendD D n x).1 (rappendD M n x).1 := by
  have e1 : appendD D n x = if namedL n = false then (D, 5) else if (D.quota : Int) - usedD D.files < x.length then (D, 3) else actD D (setF ⟨n, (match findF n D.files with | some f => f.bs | none => []) ++ x, match findF n D.files with | some f => f.sure | none => 0⟩ D.files) := by
    unfold appendD actD; rfl
  rw [e1]
  unfold rappendD
  rw [h.f.find, h.f.used, h.qt]
  split
  · exact ⟨rfl, h⟩
  · split
    · exact ⟨rfl, h⟩
    · exact h.act (h.f.put _)
theorem Eqv.sync {D M : Dk} (h : Eqv D M) (n : List UInt8) : (syncD D n).2 = (rsyncD M n).2 ∧ Eqv (syncD D n).1 (rsyncD M n).1 := by
  unfold syncD rsyncD
  rw [h.f.find]
  cases findF n D.files
  · exact ⟨rfl, h⟩
  · exact h.act (h.f.put _)
theorem Eqv.cut {D M : Dk} (h : Eqv D M) (n : List UInt8) (k : Int) : (cutD D n k).2 = (rcutD M n k).2 ∧ Eqv (cutD D n k).1 (rcutD M n k).1 := by
  unfold cutD rcutD
  rw [h.f.find]
  cases findF n D.files
  · exact ⟨rfl, h⟩
  · simp only []
    split
    · exact ⟨rfl, h⟩
    · exact h.act (h.f.put _)
theorem Eqv.rename {D M : Dk} (h : Eqv D M) (n m : List UInt8) : (renameD D n m).2 = (rrenameD M n m).2 ∧ Eqv (renameD D n m).1 (rrenameD M n m).1 := by
  unfold renameD rrenameD
  rw [h.f.find]
  cases findF n D.files
  · exact ⟨rfl, h⟩
  · simp only []
    split
    · exact ⟨rfl, h⟩
    · exact h.act ((h.f.del n).put _)
theorem Eqv.drop {D M : Dk} (h : Eqv D M) (n : List UInt8) : (dropD D n).2 = (rdropD M n).2 ∧ Eqv (dropD D n).1 (rdropD M n).1 := by
  unfold dropD rdropD
  rw [h.f.find]
  cases findF n D.files
  · exact ⟨rfl, h⟩
  · exact h.act (h.f.del n)
theorem Eqv.read {D M : Dk} (h : Eqv D M) (n : List UInt8) : readD D n = readD M n := by
  unfold readD
  rw [h.f.find, h.gn]
theorem Eqv.crash {D M : Dk} (h : Eqv D M) (k : Int) : Eqv (crashD D k) (crashD M k) := ⟨h.st, h.lf, rfl, rfl, h.qt, h.f.map _ fun f => rfl⟩
/-- an act -/
structure Opn where
  kind : Int
  name : List UInt8
  to : List UInt8
  n : Int
  b : List UInt8
def armD (D : Dk) (n : Int) : Dk × Nat := if n < 0 then (D, 2) else ({ D with armed := true, left := n.toNat }, 0)
def doD (D : Dk) (o : Opn) : Dk × Nat := if o.kind = 1 then appendD D o.name o.b else if o.kind = 2 then syncD D o.name else if o.kind = 3 then cutD D o.name o.n else if o.kind = 4 then renameD D o.name o.to else if o.kind = 5 then dropD D o.name else if o.kind = 7 then armD D o.n else if o.kind = 8 then (crashD D o.n, 0) else (D, (readD D o.name).2)
def doM (D : Dk) (o : Opn) : Dk × Nat := if o.kind = 1 then rappendD D o.name o.b else if o.kind = 2 then rsyncD D o.name else if o.kind = 3 then rcutD D o.name o.n else if o.kind = 4 then rrenameD D o.name o.to else if o.kind = 5 then rdropD D o.name else if o.kind = 7 then armD D o.n else if o.kind = 8 then (crashD D o.n, 0) else (D, (readD D o.name).2)
theorem Eqv.arm {D M : Dk} (h : Eqv D M) (k : Int) : (armD D k).2 = (armD M k).2 ∧ Eqv (armD D k).1 (armD M k).1 := by
  unfold armD
  split
  · exact ⟨rfl, h⟩
  · exact ⟨rfl, h.st, rfl, rfl, h.gn, h.qt, h.f⟩
theorem Eqv.act1 {D M : Dk} (h : Eqv D M) (o : Opn) : (doD D o).2 = (doM M o).2 ∧ Eqv (doD D o).1 (doM M o).1 := by
  unfold doD doM
  split
  · exact h.append _ _
  split
  · exact h.sync _
  split
  · exact h.cut _ _
  split
  · exact h.rename _ _
  split
  · exact h.drop _
  split
  · exact h.arm _
  split
  · exact ⟨rfl, h.crash _⟩
  · exact ⟨by rw [h.read], h⟩
end Go.Proofs.YteamnhpplclmfaaGreatDoor
end
section
namespace Go.Proofs.YteamnhpplclmfaaGreatDoor
open Go.RowKit Go.Sx
set_option linter.unusedVariables false

theorem lt_same {u v : World} {k : Nat} (h1 : k < u.heap.size) (h2 : v.heap[k]? = u.heap[k]?) : k < v.heap.size := by
  rw [Array.getElem?_eq_getElem h1] at h2
  exact (Array.getElem?_eq_some_iff.1 h2).1
theorem RdR.has {rr : Nat → Prop} {w : World} {v : Value} {xs : List Value} (h : RdR rr w v xs) : RdR (fun k => rr k ∧ k < w.heap.size) w v xs := by
  obtain ⟨a, c, h0, h1, h2, h3, h3', h⟩ := h
  refine ⟨a, c, h0, h1, h2, h3, h3', fun hx => ?_⟩
  obtain ⟨b, o, e, hb, hl, hc⟩ := h hx
  exact ⟨b, o, e, ⟨hb, hl⟩, hl, hc⟩
theorem RFs.has {rr : Nat → Prop} {u : World} {fv : Value} {fs : List Fe} (h : RFs rr u fv fs) : RFs (fun k => rr k ∧ k < u.heap.size) u fv fs := by
  obtain ⟨ps, h1, h2, a, c, h3, h4⟩ := h
  refine ⟨ps, h1, fun p hp => RdR.has (h2 p hp), a, c, h3, fun hne => ?_⟩
  obtain ⟨b, o, e, hb, hl, hc⟩ := h4 hne
  exact ⟨b, o, e, ⟨hb, hl⟩, hl, hc⟩
/-- the reference's files, that are read -/
def mR (rr : Nat → Prop) (fv : Value) (fs : List Fe) : Res where
  w _ := False
  r := rr
  p u := RFs rr u fv fs ∧ ∀ k, rr k → k < u.heap.size
  st u v h := fun ⟨h1, h2⟩ => ⟨h1.same fun k hk => h k (.inr hk), fun k hk => lt_same (h2 k hk) (h k (.inr hk))⟩
  bd u := fun h k hk => hk.elim False.elim (h.2 k)
/-- cells that a slice reads, whatever lies behind them -/
def RdB (rr : Nat → Prop) (w : World) (v : Value) (xs : List Value) : Prop := ∃ a c, v = .slice a xs.length c ∧ (xs ≠ [] → ∃ b o, a = some ⟨b, o, none⟩ ∧ rr b ∧ b < w.heap.size ∧ ∀ j u, xs[j]? = some u → w.cell? ⟨b, o + j, none⟩ = some u)
theorem RdB.rd {rr : Nat → Prop} {w : World} {v : Value} {xs : List Value} (h : RdB rr w v xs) : Rd w v xs := by
  obtain ⟨a, c, h0, h⟩ := h
  refine ⟨a, c, h0, fun hx => ?_⟩
  obtain ⟨b, o, h1, h2, h3, h4⟩ := h hx
  exact ⟨b, o, h1, h3, h4⟩
theorem RdB.same {rr : Nat → Prop} {u v : World} {x : Value} {xs : List Value} (hs : ∀ k, rr k → v.heap[k]? = u.heap[k]?) (h : RdB rr u x xs) : RdB rr v x xs := by
  obtain ⟨a, c, h0, h⟩ := h
  refine ⟨a, c, h0, fun hx => ?_⟩
  obtain ⟨b, o, e, hb, hl, hc⟩ := h hx
  have hbb := hs b hb
  exact ⟨b, o, e, hb, lt_same hl hbb, fun j u' hu => by rw [← hc j u' hu]; simp only [World.cell?, hbb]⟩
theorem RdB.of {w : World} {v : Value} {xs : List Value} (h : Rd w v xs) : RdB (fun k => k < w.heap.size) w v xs := by
  obtain ⟨a, c, h0, h⟩ := h
  refine ⟨a, c, h0, fun hx => ?_⟩
  obtain ⟨b, o, h1, h3, h4⟩ := h hx
  exact ⟨b, o, h1, h3, h3, h4⟩
theorem rdb_slice {rr : Nat → Prop} {w : World} {v : Value} {l : List UInt8} (h : RdB rr w v (Lib.byteCells l)) : ∃ a c, v = .slice a l.length c := by
  obtain ⟨a, c, h1, _⟩ := h
  exact ⟨a, c, by rw [h1, Lib.byteCells_length]⟩
/-- bytes that are read -/
def oR (rr : Nat → Prop) (v : Value) (l : List UInt8) : Res where
  w _ := False
  r := rr
  p u := RdB rr u v (Lib.byteCells l) ∧ ∀ k, rr k → k < u.heap.size
  st u v h := fun ⟨h1, h2⟩ => ⟨h1.same fun k hk => h k (.inr hk), fun k hk => lt_same (h2 k hk) (h k (.inr hk))⟩
  bd u := fun h k hk => hk.elim False.elim (h.2 k)
/-- both disks -/
structure Two where
  S : DkS
  M : Dk
  fv : Value
  rr : Nat → Prop
structure TwoP (T : Two) (u : World) : Prop where
  d : DkP T.S u
  m : RFs T.rr u T.fv T.M.files
  r : ∀ k, T.rr k → k < u.heap.size ∧ k ≠ T.S.bd ∧ k ≠ T.S.bm
def twoR (T : Two) : Res where
  w k := k = T.S.bd ∨ k = T.S.bm
  r k := T.S.rr k ∨ T.rr k
  p u := TwoP T u
  st u v h := fun hp => ⟨(dkR T.S).st u v (fun k hk => h k (hk.imp id .inl)) hp.d, hp.m.same fun k hk => h k (.inr (.inr hk)), fun k hk => ⟨lt_same (hp.r k hk).1 (h k (.inr (.inr hk))), (hp.r k hk).2⟩⟩
  bd u := fun hp k hk => by
    rcases hk with hk | hk | hk
    · exact (dkR T.S).bd u hp.d k (.inl hk)
    · exact (dkR T.S).bd u hp.d k (.inr hk)
    · exact (hp.r k hk).1
/-- where an act begins -/
theorem two_start {T : Two} {w : World} (h : TwoP T w) {rb : Nat → Prop} {bv : Value} {l : List UInt8} (hb : RdB rb w bv (Lib.byteCells l)) (hr : ∀ k, rb k → k < w.heap.size ∧ k ≠ T.S.bd ∧ k ≠ T.S.bm) :
    St [bl T.S.bd, bl T.S.bm] w w [rs (dkR T.S), rs (mR T.rr T.fv T.M.files), rs (oR rb bv l)] :=
  St.from w _ _ (fun e he => by
    simp only [List.mem_cons, List.not_mem_nil, or_false] at he
    rcases he with rfl | rfl | rfl
    · exact ⟨by rw [rsOk]; exact h.d, fun k hk => by
        rcases (rsW _ _).1 hk with hk | hk
        · simp [bl, hk]
        · simp [bl, hk]⟩
    · exact ⟨by rw [rsOk]; exact ⟨h.m, fun k hk => (h.r k hk).1⟩, fun k hk => by simp [mR] at hk⟩
    · exact ⟨by rw [rsOk]; exact ⟨hb, fun k hk => (hr k hk).1⟩, fun k hk => by simp [oR] at hk⟩) (by
    refine .cons (fun y hy => ?_) (.cons (fun y hy => ?_) (by simp))
    · simp only [List.mem_cons, List.not_mem_nil, or_false] at hy
      rcases hy with rfl | rfl
      · refine fun k => ⟨fun h1 h2 => ?_, fun h1 _ => by simp [mR] at h1⟩
        have h3 : T.rr k := by simpa [mR] using h2
        rcases (rsW _ _).1 h1 with h4 | h4
        · exact (h.r k h3).2.1 h4
        · exact (h.r k h3).2.2 h4
      · refine fun k => ⟨fun h1 h2 => ?_, fun h1 _ => by simp [oR] at h1⟩
        have h3 : rb k := by simpa [oR] using h2
        rcases (rsW _ _).1 h1 with h4 | h4
        · exact (hr k h3).2.1 h4
        · exact (hr k h3).2.2 h4
    · obtain rfl : y = rs (oR rb bv l) := by simpa using hy
      exact fun k => ⟨fun h1 _ => by simp [mR] at h1, fun h1 _ => by simp [oR] at h1⟩)
section
variable {C : Cx} {L : List Ent}
/-- a copy of bytes, with the marks -/
theorem cvC {g : FuncId} {vs : List Value} {x : List UInt8} {next : Value → List Ent → Prop}
    (h : ∀ w, St C.M C.B w L → Calls C.P g vs.toArray w fun e w' => ∃ b c j, e = .returned (sv (some (b, c, marks ++ j)) x.length) ∧ Rw 1 x.length (some (b, c, marks ++ j)) (Lib.byteCells x) ∧ w.heap.size ≤ b ∧ w'.heap[b]? = some (.cells (Lib.byteCells x ++ (marks ++ j)).toArray 5 (0, 0)) ∧ Below w.heap.size w w')
    (go : ∀ b c j, Rw 1 x.length (some (b, c, marks ++ j)) (Lib.byteCells x) → next (sv (some (b, c, marks ++ j)) x.length) (L ++ [se (some (b, c, marks ++ j)) (Lib.byteCells x) 5])) : CallP C g vs L next :=
  ⟨fun w hs => (h w hs).mono fun e w' ⟨b, c, j, he, hR, hb, ho, hB⟩ => ⟨_, _, he, hs.add hB hb ho, go b c j hR⟩⟩
/-- a reference's function is called -/
theorem cRf (k : Nat) {g : FuncId} {vs : List Value} {M' : Dk} {code : Nat} {rr : Nat → Prop} {fv : Value} {fs : List Fe} {next : Value → List Ent → Prop} (hk : L[k]? = some (rs (mR rr fv fs)))
    (h : ∀ w, St C.M C.B w L → Calls C.P g vs.toArray w (RefR rr w M' code))
    (go : ∀ fv' rr', (∃ a n c, fv' = .slice a n c) → (∀ j, rr' j → rr j ∨ C.B.heap.size ≤ j) → next (.tuple #[.agg (rdC M' fv'), .int .i64 code]) (L ++ [rs (mR rr' fv' M'.files)])) : CallP C g vs L next := by
  refine ⟨fun w hs => (h w hs).mono fun e w' ⟨fv', rr', he, hb, hf, hr⟩ => ⟨_, _, he, hs.push hb ?_ (fun k hk => by simp [mR] at hk) (fun j hj => ?_), go fv' (fun k => rr' k ∧ k < w'.heap.size) ?_ (fun j hj => (hr j hj.1).imp id (Nat.le_trans hs.size))⟩⟩
  · rw [rsOk]
    exact ⟨hf.has, fun j hj => hj.2⟩
  · have h2 : rr' j ∧ j < w'.heap.size := by simpa [mR] using hj
    rcases hr j h2.1 with h1 | h1
    · exact .inr ⟨_, List.mem_of_getElem? hk, (rsA _ _).2 (.inr h1), by simp [mR]⟩
    · exact .inl h1
  · obtain ⟨_, _, _, a, c, e, _⟩ := hf
    exact ⟨a, _, c, e⟩
/-- where a turned disk lies -/
structure DkGo (B : World) (S S' : DkS) : Prop where
  bd : S'.bd = S.bd
  bm : S'.bm = S.bm
  rr : ∀ k, S'.rr k → (k = S.bd ∨ k = S.bm ∨ S.rr k) ∨ B.heap.size ≤ k
theorem DkGo.refl (B : World) (S : DkS) : DkGo B S S := ⟨rfl, rfl, fun k h => .inl (.inr (.inr h))⟩
theorem DkGo.of {B w w' : World} {S S' : DkS} (hB : B.heap.size ≤ w.heap.size) (h1 : S'.bd = S.bd) (h2 : S'.bm = S.bm) (h : Turns w w' (dkR S) (dkR S')) : DkGo B S S' :=
  ⟨h1, h2, fun k hk => by
    rcases h.A k (.inr hk) with (⟨h3 | h3⟩ | h3) | h3
    · exact .inl (.inl h3)
    · exact .inl (.inr (.inl h3))
    · exact .inl (.inr (.inr h3))
    · exact .inr (Nat.le_trans hB h3)⟩
/-- a disk's function is called -/
theorem cTd (k : Nat) {g : FuncId} {vs : List Value} {S : DkS} {D' : Dk} {code : Nat} {next : Value → List Ent → Prop} (hk : L[k]? = some (rs (dkR S)))
    (h : ∀ w, St C.M C.B w L → Calls C.P g vs.toArray w (TurnR S w D' code)) (go : ∀ S', S'.D = D' → DkGo C.B S S' → next (errV code) (L.set k (rs (dkR S')))) : CallP C g vs L next :=
  cT (α := DkS) (Φ := fun S' => S'.D = D' ∧ DkGo C.B S S') (v := fun _ => errV code) (r' := dkR) k hk (fun w hs => (h w hs).mono fun e w' ⟨S', h1, h2, h3, h4, h5⟩ => ⟨S', ⟨h1, .of hs.size h2 h3 h5⟩, h4, h5⟩) (fun S' hS => go S' hS.1 hS.2)
theorem two_end {T : Two} {w w1 : World} (h : TwoP T w) (hs : St [bl T.S.bd, bl T.S.bm] w w1 L) {S' : DkS} {M' : Dk} {fv' : Value} {rr' : Nat → Prop} {k : Nat} (h0 : L[0]? = some (rs (dkR S'))) (hk : L[k]? = some (rs (mR rr' fv' M'.files))) (hk0 : k ≠ 0) (hg : DkGo w T.S S') (hr : ∀ j, rr' j → T.rr j ∨ w.heap.size ≤ j) :
    Turns w w1 (twoR T) (twoR ⟨S', M', fv', rr'⟩) := by
  refine Turns.of_st hs (fun j hj => ?_) ⟨hs.res h0, (hs.res hk).1, fun j hj => ?_⟩ (fun j hj => ?_) (fun j hj => ?_)
  · simpa [bl, twoR] using hj
  · have ha := pw_ne hs.apart h0 hk (fun e => hk0 e.symm) j
    have h1 : (rs (mR rr' fv' M'.files)).A j := (rsA _ _).2 (.inr hj)
    exact ⟨(hs.res hk).2 j hj, fun e => ha.1 ((rsW _ _).2 (.inl e)) h1, fun e => ha.1 ((rsW _ _).2 (.inr e)) h1⟩
  · rcases hj with hj | hj
    · exact .inl (.inl (hj.trans hg.bd))
    · exact .inl (.inr (hj.trans hg.bm))
  · rcases hj with (hj | hj) | hj | hj
    · exact .inl (.inl (.inl (hj.trans hg.bd)))
    · exact .inl (.inl (.inr (hj.trans hg.bm)))
    · rcases hg.rr j hj with (h1 | h1 | h1) | h1
      · exact .inl (.inl (.inl h1))
      · exact .inl (.inl (.inr h1))
      · exact .inl (.inr (.inl h1))
      · exact .inr h1
    · rcases hr j hj with h1 | h1
      · exact .inl (.inr (.inr h1))
      · exact .inr h1
end
end Go.Proofs.YteamnhpplclmfaaGreatDoor
end
section
namespace Go.Proofs.YteamnhpplclmfaaGreatDoor
open Go.RowKit Go.Sx
set_option linter.unusedVariables false
def lenF (n : List UInt8) (fs : List Fe) : Nat := match findF n fs with | some g => g.bs.length | none => 0
theorem lenF_cons (n : List UInt8) (g : Fe) (l : List Fe) : lenF n (g :: l) = if n = g.name then g.bs.length else lenF n l := by
  unfold lenF
  rw [findF]
  by_cases h : n = g.name
  · rw [if_pos h, if_pos h]
  · rw [if_neg h, if_neg h]
theorem used_cons (g : Fe) (l : List Fe) : usedD (g :: l) = g.bs.length + usedD l := by simp [usedD]
theorem used_set (f : Fe) (fs : List Fe) : usedD (setF f fs) + lenF f.name fs = usedD fs + f.bs.length := by
  induction fs with
  | nil => simp [setF, lenF, findF, usedD]
  | cons g l ih =>
    rw [lenF_cons, setF]
    split
    · rw [used_cons, used_cons]; omega
    · rw [used_cons, used_cons]; omega
theorem used_del (n : List UInt8) (fs : List Fe) : usedD (delF n fs) + lenF n fs = usedD fs := by
  induction fs with
  | nil => simp [delF, lenF, findF, usedD]
  | cons g l ih =>
    rw [lenF_cons, delF]
    split
    · rw [used_cons]; omega
    · rw [used_cons, used_cons]; omega
theorem len_set (f : Fe) (fs : List Fe) : (setF f fs).length ≤ fs.length + 1 := by
  induction fs with
  | nil => simp [setF]
  | cons g l ih => rw [setF]; split <;> simp; omega
theorem used_crash (k : Int) (fs : List Fe) : usedD (fs.map (crashF k)) ≤ usedD fs := by
  induction fs with
  | nil => simp
  | cons g l ih =>
    rw [List.map_cons, used_cons, used_cons]
    have : (crashF k g).bs.length ≤ g.bs.length := by simp [crashF]; omega
    omega
/-- files that are not too many -/
structure Fw (q k : Nat) (fs : List Fe) : Prop where
  n : Nms fs
  z : ∀ f ∈ fs, f.sure ≤ f.bs.length
  q : usedD fs ≤ q
  l : fs.length ≤ k
theorem Fw.up {q k : Nat} {fs : List Fe} (h : Fw q k fs) : Fw q (k + 1) fs := ⟨h.n, h.z, h.q, by have := h.l; omega⟩
theorem Fw.set {q k : Nat} {fs : List Fe} (h : Fw q k fs) (f : Fe) (hs : f.sure ≤ f.bs.length) (hq : usedD fs + f.bs.length ≤ q + lenF f.name fs) : Fw q (k + 1) (setF f fs) := by
  have h1 := used_set f fs
  have h2 := len_set f fs
  have h4 := h.l
  exact ⟨set_nd h.n f, fun g hg => by rcases (set_mem h.n f g).1 hg with rfl | hg; exact hs; exact h.z g hg.1, by omega, by omega⟩
theorem Fw.del {q k : Nat} {fs : List Fe} (h : Fw q k fs) (n : List UInt8) : Fw q k (delF n fs) := by
  have h1 := used_del n fs
  have h2 := (delF_sub n fs).length_le
  have h4 := h.l
  have h5 := h.q
  exact ⟨del_nd h.n n, fun g hg => h.z g ((del_mem h.n n g).1 hg).1, by omega, by omega⟩
theorem Fw.perm {q k : Nat} {fs gs : List Fe} (h : Fw q k fs) (hp : PS fs gs) : Fw q k gs := ⟨hp.s.nd, fun f hf => h.z f (hp.p.mem_iff.1 hf), by rw [hp.used]; exact h.q, by rw [hp.p.length_eq]; exact h.l⟩
theorem lenF_some {n : List UInt8} {fs : List Fe} {f : Fe} (h : findF n fs = some f) : lenF n fs = f.bs.length := by unfold lenF; rw [h]
theorem lenF_none {n : List UInt8} {fs : List Fe} (h : findF n fs = none) : lenF n fs = 0 := by unfold lenF; rw [h]
/-- a disk behind so many acts -/
structure Bd (q k : Nat) (D : Dk) : Prop where
  qt : D.quota = q
  st : D.steps ≤ k
  lf : D.left ≤ 9223372036854775807
  f : Fw q k D.files
theorem Bd.up {q k : Nat} {D : Dk} (h : Bd q k D) : Bd q (k + 1) D := ⟨h.qt, by have := h.st; omega, h.lf, h.f.up⟩
theorem Bd.step {q k : Nat} {D : Dk} (h : Bd q k D) : (stepD D).2.quota = q ∧ (stepD D).2.steps ≤ k + 1 ∧ (stepD D).2.left ≤ 9223372036854775807 := by
  have h1 := h.st
  have h2 := h.lf
  unfold stepD
  split
  · exact ⟨h.qt, by simp only; omega, h2⟩
  · refine ⟨h.qt, by simp only; omega, ?_⟩
    simp only
    split <;> omega
theorem Bd.act {q k : Nat} {D : Dk} (h : Bd q k D) {fs : List Fe} (hf : Fw q (k + 1) fs) : Bd q (k + 1) (actD D fs).1 := by
  obtain ⟨h1, h2, h3⟩ := h.step
  unfold actD
  split
  · exact ⟨h1, h2, h3, hf⟩
  · exact ⟨h1, h2, h3, by rw [stepD_files]; exact h.f.up⟩
theorem Bd.append {q k : Nat} {D : Dk} (h : Bd q k D) (n x : List UInt8) : Bd q (k + 1) (appendD D n x).1 := by
  have e1 : appendD D n x = if namedL n = false then (D, 5) else if (D.quota : Int) - usedD D.files < x.length then (D, 3) else actD D (setF ⟨n, (match findF n D.files with | some f => f.bs | none => []) ++ x, match findF n D.files with | some f => f.sure | none => 0⟩ D.files) := by
    unfold appendD actD; rfl
  rw [e1]
  have hq := h.qt
  split
  · exact h.up
  · split
    · exact h.up
    · rename_i hfull
      cases hf : findF n D.files with
      | none =>
        have hl : lenF n D.files = 0 := lenF_none hf
        exact h.act (h.f.set _ (by simp) (by simp only [List.nil_append, hl]; omega))
      | some f =>
        have hl : lenF n D.files = f.bs.length := lenF_some hf
        have hz := h.f.z f (findF_mem hf).1
        exact h.act (h.f.set _ (by simp only [List.length_append]; omega) (by simp only [List.length_append, hl]; omega))
theorem Bd.sync {q k : Nat} {D : Dk} (h : Bd q k D) (n : List UInt8) : Bd q (k + 1) (syncD D n).1 := by
  unfold syncD
  cases hf : findF n D.files with
  | none => exact h.up
  | some f =>
    have hl : lenF n D.files = f.bs.length := lenF_some hf
    have hq := h.f.q
    exact h.act (h.f.set _ (Nat.le_refl _) (by simp only [hl]; omega))
theorem Bd.cut {q k : Nat} {D : Dk} (h : Bd q k D) (n : List UInt8) (z : Int) : Bd q (k + 1) (cutD D n z).1 := by
  unfold cutD
  cases hf : findF n D.files with
  | none => exact h.up
  | some f =>
    have hl : lenF n D.files = f.bs.length := lenF_some hf
    have hq := h.f.q
    have hz := h.f.z f (findF_mem hf).1
    simp only []
    split
    · exact h.up
    · exact h.act (h.f.set _ (by simp only [List.length_take]; omega) (by simp only [List.length_take, hl]; omega))
theorem Bd.rename {q k : Nat} {D : Dk} (h : Bd q k D) (n m : List UInt8) : Bd q (k + 1) (renameD D n m).1 := by
  unfold renameD
  cases hf : findF n D.files with
  | none => exact h.up
  | some f =>
    have hl : lenF n D.files = f.bs.length := lenF_some hf
    have hd := used_del n D.files
    have hs := used_set ⟨m, f.bs, f.bs.length⟩ (delF n D.files)
    have hq := h.f.q
    have hlen := len_set ⟨m, f.bs, f.bs.length⟩ (delF n D.files)
    have hl2 := (h.f.del n).l
    simp only at hs
    simp only []
    split
    · exact h.up
    · refine h.act ⟨set_nd (h.f.del n).n _, fun g hg => ?_, by omega, by omega⟩
      rcases (set_mem (h.f.del n).n _ g).1 hg with rfl | hg
      · exact Nat.le_refl _
      · exact (h.f.del n).z g hg.1
theorem Bd.drop {q k : Nat} {D : Dk} (h : Bd q k D) (n : List UInt8) : Bd q (k + 1) (dropD D n).1 := by
  unfold dropD
  cases hf : findF n D.files with
  | none => exact h.up
  | some f => exact h.act (h.f.del n).up
theorem Bd.crash {q k : Nat} {D : Dk} (h : Bd q k D) (z : Int) : Bd q k (crashD D z) := by
  have h1 := used_crash z D.files
  have h3 := h.f.q
  refine ⟨h.qt, h.st, h.lf, ⟨?_, fun f hf => ?_, by show usedD (D.files.map (crashF z)) ≤ _; omega, by show (D.files.map (crashF z)).length ≤ _; rw [List.length_map]; exact h.f.l⟩⟩
  · show Nms (D.files.map (crashF z))
    rw [Nms, List.map_map, show ((·.name) ∘ crashF z : Fe → List UInt8) = (·.name) from rfl]; exact h.f.n
  · obtain ⟨g, hg, rfl⟩ := List.mem_map.1 (show f ∈ D.files.map (crashF z) from hf)
    have := h.f.z g hg
    simp only [crashF, List.length_take]; omega
theorem Bd.arm {q k : Nat} {D : Dk} (h : Bd q k D) (n : Nat) (hn : n ≤ 9223372036854775807) : Bd q k { D with armed := true, left := n } := ⟨h.qt, h.st, hn, h.f⟩
theorem Bd.le {q k k' : Nat} {D : Dk} (h : Bd q k D) (hk : k ≤ k') : Bd q k' D := ⟨h.qt, by have := h.st; omega, h.lf, ⟨h.f.n, h.f.z, h.f.q, by have := h.f.l; omega⟩⟩
theorem Bd.zero (q : Nat) : Bd q 0 ⟨0, 0, false, false, q, []⟩ := ⟨rfl, Nat.zero_le _, Nat.zero_le _, ⟨List.nodup_nil, (fun f hf => by cases hf), by simp [usedD], Nat.zero_le _⟩⟩
theorem Bd.then {q k : Nat} {x : Dk × Nat} {f : Dk → Dk × Nat} (h : Bd q k x.1) (hf : Bd q (k + 1) (f x.1).1) : Bd q (k + 1) (thenD x f).1 := by
  unfold thenD
  split
  · exact hf
  · exact h.up
theorem Bd.next {q k : Nat} {D : Dk} (h : Bd q k D) (last : Nat) : Bd q (k + 4) (nextD D last).1 := by
  have h1 := h.sync (nameS last)
  have h2 := h1.then (x := syncD D (nameS last)) (f := fun D => appendD D newB (recP (le4 (last + 1)))) (h1.append _ _)
  have h3 := h2.then (f := fun D => syncD D newB) (h2.sync _)
  exact h3.then (f := fun D => renameD D newB manB) (h3.rename _ _)
end Go.Proofs.YteamnhpplclmfaaGreatDoor
end
section
namespace Go.Proofs.YteamnhpplclmfaaGreatDoor
open Go.RowKit Go.Sx
set_option linter.unusedVariables false
abbrev TS : Nat := 84
abbrev TB : Nat := 22
def stC (S : Sr) (bd : Nat) (v : Value) : Array Value := #[ptr bd, .int .i64 S.size, v, .int .i64 S.sure, .int .i64 S.last, .int .i64 S.length, .int .i64 S.stuck]
/-- slices and what they say: their lengths -/
structure Pls (vs : List Value) (ps : List Bs) : Prop where
  len : vs.length = ps.length
  sh : ∀ (i : Nat) v p, vs[i]? = some v → ps[i]? = some p → ∃ a c, v = .slice a p.length c
theorem Pls.at {vs : List Value} {ps : List Bs} (h : Pls vs ps) {i : Nat} {p : Bs} (hp : ps[i]? = some p) : ∃ a c, vs[i]? = some (.slice a p.length c) := by
  have hi := (List.getElem?_eq_some_iff.1 hp).1
  have hv : vs[i]? = some (vs[i]'(by rw [h.len]; exact hi)) := List.getElem?_eq_getElem _
  obtain ⟨a, c, e⟩ := h.sh i _ p hv hp
  exact ⟨a, c, by rw [hv, e]⟩
/-- cells that are read -/
def rdR (rr : Nat → Prop) (v : Value) (xs : List Value) : Res where
  w _ := False
  r := rr
  p u := RdB rr u v xs ∧ ∀ k, rr k → k < u.heap.size
  st u v h := fun ⟨h1, h2⟩ => ⟨h1.same fun k hk => h k (.inr hk), fun k hk => lt_same (h2 k hk) (h k (.inr hk))⟩
  bd u := fun h k hk => hk.elim False.elim (h.2 k)
/-- bytes that slices read -/
def psR (rr : Nat → Prop) (vs : List Value) (ps : List Bs) : Res where
  w _ := False
  r := rr
  p u := (∀ (i : Nat) v p, vs[i]? = some v → ps[i]? = some p → RdB rr u v (Lib.byteCells p)) ∧ ∀ k, rr k → k < u.heap.size
  st u v h := fun ⟨h1, h2⟩ => ⟨fun i v p hv hp => (h1 i v p hv hp).same fun k hk => h k (.inr hk), fun k hk => lt_same (h2 k hk) (h k (.inr hk))⟩
  bd u := fun h k hk => hk.elim False.elim (h.2 k)
theorem _root_.Go.Sx.Rd.lt0 {w : World} {x o n c : Nat} {xs : List Value} (h : Rd w (.slice (some ⟨x, o, none⟩) n c) xs) (hl : xs ≠ []) : x < w.heap.size := by
  obtain ⟨a', c', e, hr⟩ := h
  injection e with e1 _ _
  obtain ⟨b, o', g1, g2, _⟩ := hr hl
  rw [← e1] at g1
  injection g1 with g1
  injection g1 with g1 _
  rw [g1]; exact g2
/-- bytes that slices read, in blocks of one's own -/
def bgR (rr : Nat → Prop) (vs : List Value) (ps : List Bs) : Res where
  w := rr
  r _ := False
  p := (psR rr vs ps).p
  st u v h := (psR rr vs ps).st u v fun k hk => h k (hk.elim False.elim .inl)
  bd u h k hk := (psR rr vs ps).bd u h k (.inr (hk.elim id False.elim))
theorem bg_A {rr : Nat → Prop} {vs : List Value} {ps : List Bs} {p : Nat → Prop} : ∀ k, (rs (bgR rr vs ps)).A k → ¬ (rs (bgR rr vs ps)).W k → p k := fun k h1 h2 => ((rsA _ _).1 h1).elim (fun h => absurd ((rsW _ _).2 h) h2) False.elim
section
variable {S : Sr} {bs bd n c : Nat} {a : Option Addr} {w : World}
set_option maxRecDepth 100000 in
theorem stuck_any {v : Value} (h : w.heap[bs]? = some (.cells (stC S bd v) TS (0, 0))) : Calls Tryz.prog 14 ([ptr bs] : List Value).toArray w fun e w' => e = .returned (errV S.stuck) ∧ Below w.heap.size w w' := by
  refine enterV tab_ok Tryz.func14 rfl Tryz.ntmps14 rfl (St.reads1 h) ?_
  refine cf rfl ?_
  refine ld1 0 rfl rfl ?_
  by_cases h0 : S.stuck = 0
  · refine cf (by rw [h0]; rfl) ?_
    exact rt (by rw [h0]; rfl)
  · refine ct (by rw [bne_iff_ne]; omega) ?_
    refine ld1 0 rfl rfl ?_
    exact rt (by rw [errVs _ h0]; rfl)
set_option maxRecDepth 100000 in
theorem stuck_nil (w : World) : Calls Tryz.prog 14 ([.pointer none] : List Value).toArray w fun e w' => e = .returned (errV 12) ∧ Below w.heap.size w w' := by
  refine enterV tab_ok Tryz.func14 rfl Tryz.ntmps14 rfl (St.start w) ?_
  refine ct rfl ?_
  exact rt rfl
set_option maxRecDepth 100000 in
theorem ready_any {v : Value} (h : w.heap[bs]? = some (.cells (stC S bd v) TS (0, 0))) : Calls Tryz.prog 42 ([ptr bs] : List Value).toArray w fun e w' => e = .returned (errV S.stuck) ∧ Below w.heap.size w w' := by
  refine enterV tab_ok Tryz.func42 rfl Tryz.ntmps42 rfl (St.reads1 h) ?_
  refine cf rfl ?_
  refine cvs (fun w hs => stuck_any (hs.nth (k := 0) rfl)) ?_
  exact rt rfl
set_option maxRecDepth 100000 in
theorem ready_nil (w : World) : Calls Tryz.prog 42 ([.pointer none] : List Value).toArray w fun e w' => e = .returned (errV 12) ∧ Below w.heap.size w w' := by
  refine enterV tab_ok Tryz.func42 rfl Tryz.ntmps42 rfl (St.start w) ?_
  refine ct rfl ?_
  exact rt rfl
set_option maxRecDepth 100000 in
theorem len_any (h : w.heap[bs]? = some (.cells (stC S bd (.slice a n c)) TS (0, 0))) : Calls Tryz.prog 15 ([ptr bs] : List Value).toArray w fun e w' => e = .returned (.int .i64 n) ∧ Below w.heap.size w w' := by
  refine enterV tab_ok Tryz.func15 rfl Tryz.ntmps15 rfl (St.reads1 h) ?_
  refine cf rfl ?_
  refine ld1 0 rfl rfl ?_
  exact rt rfl
set_option maxRecDepth 100000 in
theorem len_nil (w : World) : Calls Tryz.prog 15 ([.pointer none] : List Value).toArray w fun e w' => e = .returned (.int .i64 0) ∧ Below w.heap.size w w' := by
  refine enterV tab_ok Tryz.func15 rfl Tryz.ntmps15 rfl (St.start w) ?_
  refine ct rfl ?_
  exact rt rfl
set_option maxRecDepth 100000 in
theorem sureS_any {v : Value} (h : w.heap[bs]? = some (.cells (stC S bd v) TS (0, 0))) : Calls Tryz.prog 16 ([ptr bs] : List Value).toArray w fun e w' => e = .returned (.int .i64 S.sure) ∧ Below w.heap.size w w' := by
  refine enterV tab_ok Tryz.func16 rfl Tryz.ntmps16 rfl (St.reads1 h) ?_
  refine cf rfl ?_
  refine ld1 0 rfl rfl ?_
  exact rt rfl
set_option maxRecDepth 100000 in
theorem sureS_nil (w : World) : Calls Tryz.prog 16 ([.pointer none] : List Value).toArray w fun e w' => e = .returned (.int .i64 0) ∧ Below w.heap.size w w' := by
  refine enterV tab_ok Tryz.func16 rfl Tryz.ntmps16 rfl (St.start w) ?_
  refine ct rfl ?_
  exact rt rfl
set_option maxRecDepth 100000 in
theorem last_any {v : Value} (h : w.heap[bs]? = some (.cells (stC S bd v) TS (0, 0))) : Calls Tryz.prog 17 ([ptr bs] : List Value).toArray w fun e w' => e = .returned (.int .i64 S.last) ∧ Below w.heap.size w w' := by
  refine enterV tab_ok Tryz.func17 rfl Tryz.ntmps17 rfl (St.reads1 h) ?_
  refine cf rfl ?_
  refine ld1 0 rfl rfl ?_
  exact rt rfl
set_option maxRecDepth 100000 in
theorem last_nil (w : World) : Calls Tryz.prog 17 ([.pointer none] : List Value).toArray w fun e w' => e = .returned (.int .i64 0) ∧ Below w.heap.size w w' := by
  refine enterV tab_ok Tryz.func17 rfl Tryz.ntmps17 rfl (St.start w) ?_
  refine ct rfl ?_
  exact rt rfl
set_option maxRecDepth 100000 in
theorem begins_any {v : Value} (len rec : Nat) (hl : len ≤ 1000000000000) (hr : rec ≤ 1000000000000) (h : w.heap[bs]? = some (.cells (stC S bd v) TS (0, 0))) : Calls Tryz.prog 51 ([ptr bs, .int .i64 len, .int .i64 rec] : List Value).toArray w fun e w' => e = .returned (.bool (begP S.size len rec)) ∧ Below w.heap.size w w' := by
  refine enterV tab_ok Tryz.func51 rfl Tryz.ntmps51 rfl (St.reads1 h) ?_
  by_cases h0 : 0 < len
  · have e1 : decide ((len : Int) > 0) = true := decide_eq_true (by omega)
    have e2 : (decide ((len : Int) > 0) == true) = true := by rw [e1]; rfl
    iterate 3 refine ct e2 ?_
    refine .as ((len + rec : Nat) : Int) (by omega) (by simp only [mn]; omega) (by simp only [mx]; omega) ?_
    iterate 4 refine ct e2 ?_
    refine ld1 0 rfl rfl ?_
    refine ct e2 ?_
    refine ct e1 ?_
    refine rt (congrArg Value.bool ?_)
    unfold begP
    rw [decide_eq_true h0, Bool.true_and, Bool.eq_iff_iff, decide_eq_true_eq, decide_eq_true_eq]; omega
  · have e1 : decide ((len : Int) > 0) = false := decide_eq_false (by omega)
    have e2 : (decide ((len : Int) > 0) == true) = false := by rw [e1]; rfl
    iterate 8 refine cf e2 ?_
    refine cf e1 ?_
    refine rt ?_
    show Value.bool _ = Value.bool _
    unfold begP
    rw [decide_eq_false h0, Bool.false_and]
set_option maxRecDepth 100000 in
theorem hasS_any {v : Value} (K : DkS) (m : Bs) (h : w.heap[bs]? = some (.cells (stC S K.bd v) TS (0, 0))) (hk : DkP K w) : Calls Tryz.prog 56 ([ptr bs, VS m] : List Value).toArray w fun e w' => e = .returned (.bool (hasD K.D m)) ∧ Below w.heap.size w w' := by
  refine enterV tab_ok Tryz.func56 rfl Tryz.ntmps56 rfl (St.reads1 h) ?_
  refine ld1 0 rfl rfl ?_
  refine cvs (fun w' hs => sure_any K m w' (dk_below hk hs.below)) ?_
  refine rt ?_
  show Value.bool _ = Value.bool _
  unfold hasD
  cases findF m K.D.files with
  | none => rfl
  | some f =>
    show Value.bool (decide ((f.sure : Int) ≥ 0)) = _
    rw [decide_eq_true (by omega)]; rfl
end
end Go.Proofs.YteamnhpplclmfaaGreatDoor
end
section
namespace Go.Proofs.YteamnhpplclmfaaGreatDoor
open Go.RowKit Go.Sx
set_option linter.unusedVariables false
abbrev TW : Nat := 93
abbrev TPS : Nat := 24
theorem go_A {es : List Ent} {w : World} {K K' : DkS} (hm : rs (dkR K) ∈ es) (hg : DkGo w K K') : ∀ k, (rs (dkR K')).A k → ¬ (rs (dkR K')).W k → (∃ f ∈ es, f.A k) ∨ w.heap.size ≤ k := fun k hk hw => by
  rcases (rsA _ _).1 hk with h1 | h1
  · exact absurd ((rsW _ _).2 h1) hw
  · rcases hg.rr k h1 with (h2 | h2 | h2) | h2
    · exact .inl ⟨_, hm, (rsA _ _).2 (.inl (.inl h2))⟩
    · exact .inl ⟨_, hm, (rsA _ _).2 (.inl (.inr h2))⟩
    · exact .inl ⟨_, hm, (rsA _ _).2 (.inr h2)⟩
    · exact .inr h2
theorem cl_A {b : Nat} {c : Array Value} {t : TypeId} {p : Nat → Prop} : ∀ k, (cl b c t).A k → ¬ (cl b c t).W k → p k := fun k h1 h2 => absurd (by simpa using h1) (by simpa using h2)
theorem same_A {es : List Ent} {w : World} {e : Ent} (hm : e ∈ es) : ∀ k, e.A k → ¬ e.W k → (∃ f ∈ es, f.A k) ∨ w.heap.size ≤ k := fun k h1 _ => .inl ⟨e, hm, h1⟩
theorem DkGo.trans {B : World} {S S' S'' : DkS} (h1 : DkGo B S S') (h2 : DkGo B S' S'') : DkGo B S S'' :=
  ⟨h2.bd.trans h1.bd, h2.bm.trans h1.bm, fun k hk => by
    rcases h2.rr k hk with (h3 | h3 | h3) | h3
    · exact .inl (.inl (h3.trans h1.bd))
    · exact .inl (.inr (.inl (h3.trans h1.bm)))
    · exact h1.rr k h3
    · exact .inr h3⟩
/-- a row of one's own says the same while a disk turns -/
theorem rd_far {M : Bks} {B w : World} {L : List Ent} (hs : St M B w L) (i j : Nat) (hij : i ≠ j) {S : DkS} (hi : L[i]? = some (rs (dkR S))) {r : Sx.Own} {xs : List Value} {e : TypeId} {n : Nat} (hj : L[j]? = some (se r xs e)) (hR : Rw 1 n r xs) (w' : World) (hz : w.heap.size ≤ w'.heap.size) (h : ∀ k, k < w.heap.size → ¬ InM [bl S.bd, bl S.bm] k → w'.heap[k]? = w.heap[k]?) : Rd w' (sv r n) xs := by
  cases r with
  | none =>
    obtain ⟨h1, h2⟩ := hR
    obtain rfl : n = 0 := h2
    obtain rfl : xs = [] := by cases xs with | nil => rfl | cons a l => simp at h1
    exact ⟨none, 0, rfl, fun h => absurd rfl h⟩
  | some q =>
    obtain ⟨b, c, jk⟩ := q
    have hb : w.heap[b]? = some (.cells (xs ++ jk).toArray e (0, 0)) := hs.nth hj
    have hl := (Array.getElem?_eq_some_iff.1 hb).1
    have ha := pw_ne hs.apart hj hi (fun e => hij e.symm) b
    have hn : ¬ InM [bl S.bd, bl S.bm] b := by
      intro hm
      refine ha.1 (by simp [se]) ((rsA _ _).2 (.inl ?_))
      obtain ⟨p, hp, hq⟩ := hm
      simp only [List.mem_cons, List.not_mem_nil, or_false] at hp
      rcases hp with rfl | rfl
      · exact .inl hq
      · exact .inr hq
    have hb' : w'.heap[b]? = some (.cells (xs ++ jk).toArray e (0, 0)) := (h b hl hn).trans hb
    have hs' : St [bl b] w' w' [se (some (b, c, jk)) xs e] := by
      refine St.from w' _ _ (fun f hf => ?_) (by simp)
      obtain rfl := List.mem_singleton.1 hf
      exact ⟨by simpa [se] using hb', fun k hk => ⟨_, List.mem_singleton.2 rfl, by simpa [se, eq_comm] using hk⟩⟩
    exact Rd.own hs' 0 rfl hR
section
variable {N : Nat} {M : Bks} {B : World} {F : Option Nat} {L : List Ent} {next : Value → List Ent → Prop}
set_option maxRecDepth 100000 in
/-- the error sticks -/
theorem fail_in (k : Nat) {S : Sr} {bs bd c : Nat} {v : Value} (hk : L[k]? = some (cl bs (stC S bd v) TS)) (hc : c ≠ 0) (go : next (errV c) (L.set k (cl bs (stC { S with stuck := c } bd v) TS))) :
    CallP ⟨Tryz.prog, tab, N, M, B, F⟩ 48 [ptr bs, errV c] L next := by
  rw [errVs _ hc] at go ⊢
  refine inl (C := ⟨Tryz.prog, tab, N, M, B, F⟩) tab_ok Tryz.func48 rfl Tryz.ntmps48 rfl ?_
  refine semV (fun w _ => assertN c w) ?_
  refine ct rfl ?_
  refine s1 k hk (by show 6 < 7; decide) ?_
  exact bk go
set_option maxRecDepth 100000 in
/-- one more step, unless there was an error -/
theorem do_in (k : Nat) {bw c g : Nat} {fs cs : Array Value} (hk : L[k]? = some (cl bw #[errV c] TW)) (hcl : callable tab g = true) (g0 : c ≠ 0 → next (.tuple #[]) L)
    (g1 : c = 0 → CallP ⟨Tryz.prog, tab, 14, M, B, none⟩ g (fs.toList ++ cs.toList) L (fun v L' => ∃ c', v = errV c' ∧ L'[k]? = some (cl bw #[errV 0] TW) ∧ next (.tuple #[]) (L'.set k (cl bw #[errV c'] TW)))) :
    CallP ⟨Tryz.prog, tab, N, M, B, F⟩ 52 [ptr bw, .func (.func g) fs cs] L next := by
  refine inl (C := ⟨Tryz.prog, tab, N, M, B, F⟩) tab_ok Tryz.func52 rfl Tryz.ntmps52 rfl ?_
  refine ld1 k hk rfl ?_
  by_cases h0 : c = 0
  · subst h0
    refine ct rfl ?_
    refine cbt hcl ?_
    refine CallP.imp (C := ⟨Tryz.prog, tab, 14, M, B, none⟩) (by simpa using g1 rfl) ?_
    rintro v L' ⟨c', rfl, h1, h2⟩
    refine s1 k h1 (by show 0 < 1; decide) ?_ (h1 := by unfold errV ErrN; split <;> rfl) (hv := by unfold errV ErrN; split <;> rfl)
    exact bk h2
  · rw [errVs _ h0]
    refine cf rfl ?_
    exact bk (g0 h0)
/-- a step that turns the disk -/
theorem doK (kw kd : Nat) {bw c g : Nat} {fs cs : Array Value} {K : DkS} (f : Dk → Dk × Nat) (L1 : DkS → Value → List Ent) (hkw : L[kw]? = some (cl bw #[errV c] TW)) (hkd : L[kd]? = some (rs (dkR K))) (hne : kd ≠ kw) (hcl : callable tab g = true)
    (hcall : c = 0 → CallP ⟨Tryz.prog, tab, 14, M, B, none⟩ g (fs.toList ++ cs.toList) L (fun v L' => ∃ K', K'.D = (f K.D).1 ∧ DkGo B K K' ∧ v = errV (f K.D).2 ∧ L' = L.set kd (rs (dkR K'))))
    (hL : ∀ K' v, (L.set kd (rs (dkR K'))).set kw (cl bw #[v] TW) = L1 K' v)
    (go : ∀ K', K'.D = (thenD (K.D, c) f).1 → DkGo B K K' → next (.tuple #[]) (L1 K' (errV (thenD (K.D, c) f).2))) :
    CallP ⟨Tryz.prog, tab, N, M, B, F⟩ 52 [ptr bw, .func (.func g) fs cs] L next := by
  simp only [← hL] at go
  refine do_in kw hkw hcl (fun h0 => ?_) (fun h0 => ?_)
  · have e : thenD (K.D, c) f = (K.D, c) := if_neg h0
    have := go K (by rw [e]) (DkGo.refl B K)
    rw [e, set_same hkd, set_same hkw] at this
    exact this
  · refine CallP.imp (hcall h0) ?_
    rintro v L' ⟨K', h1, h2, rfl, rfl⟩
    have e : thenD (K.D, c) f = f K.D := if_pos h0
    subst h0
    refine ⟨_, rfl, by rw [List.getElem?_set_ne hne]; exact hkw, ?_⟩
    have := go K' (by rw [e, h1]) h2
    rw [e] at this
    exact this
end
end Go.Proofs.YteamnhpplclmfaaGreatDoor
end
section
namespace Go.Proofs.YteamnhpplclmfaaGreatDoor
open Go.RowKit Go.Sx
set_option linter.unusedVariables false
set_option maxRecDepth 100000 in
set_option maxHeartbeats 1000000 in
theorem next_any (S : Sr) (K : DkS) (bs : Nat) (v : Value) (hv : ∃ a n c, v = .slice a n c) (w : World) (h : (mres [cl bs (stC S K.bd v) TS, rs (dkR K), rs laidR]).p w) (hlast : S.last ≤ 2000000)
    {q k : Nat} (hB : Bd q k K.D) (hk : k ≤ 999990) (hq : q ≤ 16777216) :
    Calls Tryz.prog 53 ([ptr bs] : List Value).toArray w fun e w' => ∃ K' : DkS, (K'.D = (nextD K.D S.last).1 ∧ DkGo w K K') ∧ e = .returned (errV (nextD K.D S.last).2) ∧
      Turns w w' (mres [cl bs (stC S K.bd v) TS, rs (dkR K), rs laidR]) (mres [cl bs (stC (if (nextD K.D S.last).2 = 0 then { S with last := S.last + 1, length := 0 } else S) K'.bd v) TS, rs (dkR K'), rs laidR]) := by
  obtain ⟨va, vn, vc, rfl⟩ := hv
  refine (enter tab_ok Tryz.func53 rfl Tryz.ntmps53 rfl (mres_in h) (R := fun u w' => ∃ K' : DkS, (K'.D = (nextD K.D S.last).1 ∧ DkGo w K K') ∧ u = errV (nextD K.D S.last).2 ∧
      Turns w w' (mres [cl bs (stC S K.bd (.slice va vn vc)) TS, rs (dkR K), rs laidR]) (mres [cl bs (stC (if (nextD K.D S.last).2 = 0 then { S with last := S.last + 1, length := 0 } else S) K'.bd (.slice va vn vc)) TS, rs (dkR K'), rs laidR])) ?_).mono (fun e w' ⟨u, he, K', h1, h2, h3⟩ => ⟨K', h1, by rw [he, h2], h3⟩)
  intro b1
  refine ld1 3 rfl rfl ?_
  refine ld1 0 rfl rfl ?_
  refine .as ((S.last + 1 : Nat) : Int) (by omega) (by simp only [mn]; omega) (by simp only [mx]; omega) ?_
  refine .same (by simp only [mn]; omega) (by simp only [mx]; omega) ?_
  refine co (fun w _ => bytes_any (S.last + 1) (by omega) w) (fun r1 hR1 => ?_)
  have h4 : (le4 (S.last + 1)).length = 4 := rfl
  refine coV (fun v => .tuple #[v, .nilIface]) (fun w1 hs => fput_any _ (le4 (S.last + 1)) (by rw [h4]; decide) w1 (Rd.own hs 4 rfl hR1)) (fun r2 hR2 => ?_)
  intro b3
  refine s1 6 rfl (by show 0 < 1; decide) ?_ (h1 := by cases r2 <;> rfl) (hv := by cases r2 <;> rfl)
  refine bu (c := #[.nilIface]) (by kernel_rfl) ?_
  intro b5
  refine sN 7 rfl rfl rfl ?_ (by kernel_rfl)
  let L1 : DkS → Value → List Ent := fun K' v => [cl bs (stC S K.bd (.slice va vn vc)) TS, rs (dkR K'), rs laidR, cl b1 #[ptr bs] TPS, se r1 (Lib.byteCells (le4 (S.last + 1))) 5, se r2 (Lib.byteCells (recP (le4 (S.last + 1)))) 5, cl b3 #[sv r2 (recP (le4 (S.last + 1))).length] TB, cl b5 #[v] TW]
  refine doK 7 1 (c := 0) (fun D => syncD D (nameS S.last)) L1 rfl rfl (by decide) rfl (fun _ => ?_) (fun K' v => rfl) (fun K1 h1 g1 => ?_)
  · refine inl (C := ⟨Tryz.prog, tab, 14, [_], w, none⟩) tab_ok Tryz.func96 rfl Tryz.ntmps96 rfl ?_
    refine drs [cl bs (stC S K.bd (.slice va vn vc)) TS, rs (dkR K), rs laidR, cl b1 #[ptr bs] TPS] [9, 10] (.t 0 (.t 1 (.t 2 (.t 3 (.t 4 (.t 5 (.t 6 (.t 7 (.t 8 (.n 9 (.n 10 .nil))))))))))) tab_ok mixed_ok (by kernel_rfl) (.cons (.cons (.cons (.cons (.drop (.drop (.drop (.drop .nil)))))))) ?_
    refine ld1 3 rfl rfl ?_
    refine ld1 0 rfl rfl ?_
    refine ld1 3 rfl rfl ?_
    refine ld1 0 rfl rfl ?_
    refine czs (fun w1 hs => name_any S.last (by omega) w1 (hs.res (k := 2) rfl)) ?_
    refine cTd 1 rfl (fun w1 hs => sync_any K _ w1 (hs.res (k := 1) rfl) (by have := hB.st; omega) hB.lf) (fun K1 h1 g1 => ?_)
    refine bk ?_
    exact ⟨K1, h1, g1, rfl, rfl⟩
  have hB1 : Bd q (k + 1) K1.D := by rw [h1]; exact hB.sync _
  obtain ⟨x1, hx1⟩ : ∃ x1, x1 = syncD K.D (nameS S.last) := ⟨_, rfl⟩
  rw [show thenD (K.D, 0) (fun D => syncD D (nameS S.last)) = x1 from hx1.symm ▸ rfl] at h1 ⊢
  refine doK 7 1 (fun D => appendD D newB (recP (le4 (S.last + 1)))) L1 rfl rfl (by decide) rfl (fun _ => ?_) (fun K' v => rfl) (fun K2 h2 g2 => ?_)
  · refine inl (C := ⟨Tryz.prog, tab, 14, [_], w, none⟩) tab_ok Tryz.func97 rfl Tryz.ntmps97 rfl ?_
    refine drs [cl bs (stC S K.bd (.slice va vn vc)) TS, rs (dkR K1), rs laidR, cl b1 #[ptr bs] TPS, dead, dead, cl b3 #[sv r2 (recP (le4 (S.last + 1))).length] TB] [5, 6] (.t 0 (.t 1 (.t 2 (.t 3 (.t 4 (.n 5 (.n 6 .nil))))))) tab_ok mixed_ok (by kernel_rfl) (.cons (.cons (.cons (.cons (.dead (.dead (.cons (.drop .nil)))))))) ?_
    refine ld1 3 rfl rfl ?_
    refine ld1 0 rfl rfl ?_
    refine ld1 6 rfl rfl ?_
    refine cTd 1 rfl (fun w1 hs => by rw [← g1.bd]; exact append_any K1 newB (recP (le4 (S.last + 1))) (by decide) (by rw [rec_len]; show 8 + 4 ≤ 1000000; decide) _ w1 (hs.res (k := 1) rfl) (Rd.own hs 5 rfl hR2) (rd_far hs 1 5 (by decide) rfl rfl hR2) (by have := hB1.st; omega) hB1.lf (by have := hB1.f.q; omega) (by have := hB1.qt; omega)) (fun K2 h2 g2 => ?_)
    refine bk ?_
    exact ⟨K2, h2, g2, rfl, rfl⟩
  have hB2 : Bd q (k + 2) K2.D := by rw [h2]; exact hB1.then (hB1.append _ _)
  obtain ⟨x2, hx2⟩ : ∃ x2, x2 = thenD x1 (fun D => appendD D newB (recP (le4 (S.last + 1)))) := ⟨_, rfl⟩
  rw [h1, show thenD (x1.1, x1.2) (fun D => appendD D newB (recP (le4 (S.last + 1)))) = x2 from hx2.symm] at h2
  rw [h1, show thenD (x1.1, x1.2) (fun D => appendD D newB (recP (le4 (S.last + 1)))) = x2 from hx2.symm]
  refine doK 7 1 (fun D => syncD D newB) L1 rfl rfl (by decide) rfl (fun _ => ?_) (fun K' v => rfl) (fun K3 h3 g3 => ?_)
  · refine inl (C := ⟨Tryz.prog, tab, 14, [_], w, none⟩) tab_ok Tryz.func98 rfl Tryz.ntmps98 rfl ?_
    refine ld1 3 rfl rfl ?_
    refine ld1 0 rfl rfl ?_
    refine cTd 1 rfl (fun w1 hs => by rw [← g1.bd, ← g2.bd]; exact sync_any K2 _ w1 (hs.res (k := 1) rfl) (by have := hB2.st; omega) hB2.lf) (fun K3 h3 g3 => ?_)
    refine bk ?_
    exact ⟨K3, h3, g3, rfl, rfl⟩
  have hB3 : Bd q (k + 3) K3.D := by rw [h3]; exact hB2.then (hB2.sync _)
  obtain ⟨x3, hx3⟩ : ∃ x3, x3 = thenD x2 (fun D => syncD D newB) := ⟨_, rfl⟩
  rw [h2, show thenD (x2.1, x2.2) (fun D => syncD D newB) = x3 from hx3.symm] at h3
  rw [h2, show thenD (x2.1, x2.2) (fun D => syncD D newB) = x3 from hx3.symm]
  refine doK 7 1 (fun D => renameD D newB manB) L1 rfl rfl (by decide) rfl (fun _ => ?_) (fun K' v => rfl) (fun K4 h4' g4 => ?_)
  · refine inl (C := ⟨Tryz.prog, tab, 14, [_], w, none⟩) tab_ok Tryz.func99 rfl Tryz.ntmps99 rfl ?_
    refine ld1 3 rfl rfl ?_
    refine ld1 0 rfl rfl ?_
    refine cTd 1 rfl (fun w1 hs => by rw [← g1.bd, ← g2.bd, ← g3.bd]; exact rename_any K3 _ manB (by decide) w1 (hs.res (k := 1) rfl) (by have := hB3.st; omega) hB3.lf) (fun K4 h4' g4 => ?_)
    refine bk ?_
    exact ⟨K4, h4', g4, rfl, rfl⟩
  have hx4 : nextD K.D S.last = thenD (x3.1, x3.2) (fun D => renameD D newB manB) := by rw [hx3, hx2, hx1]; rfl
  rw [h3, ← hx4] at h4'
  rw [h3, ← hx4]
  have hg := ((g1.trans g2).trans g3).trans g4
  refine ld1 7 rfl rfl ?_
  have fin : ∀ (S' : Sr) (L : List Ent) (w1 : World) (u : Value), u = errV (nextD K.D S.last).2 → St [(mres [cl bs (stC S K.bd (.slice va vn vc)) TS, rs (dkR K), rs laidR]).w] w w1 L → Sub [cl bs (stC S' K.bd (.slice va vn vc)) TS, rs (dkR K4), rs laidR] L → S' = (if (nextD K.D S.last).2 = 0 then { S with last := S.last + 1, length := 0 } else S) → ∃ K' : DkS, (K'.D = (nextD K.D S.last).1 ∧ DkGo w K K') ∧ u = errV (nextD K.D S.last).2 ∧
      Turns w w1 (mres [cl bs (stC S K.bd (.slice va vn vc)) TS, rs (dkR K), rs laidR]) (mres [cl bs (stC (if (nextD K.D S.last).2 = 0 then { S with last := S.last + 1, length := 0 } else S) K'.bd (.slice va vn vc)) TS, rs (dkR K'), rs laidR]) := by
    rintro S' L w1 u hu hs hsub rfl
    refine ⟨K4, ⟨h4', hg⟩, hu, mres_out hs (by rw [hg.bd]; exact hsub) fun e he => ?_⟩
    simp only [List.mem_cons, List.not_mem_nil, or_false] at he
    rcases he with rfl | rfl | rfl
    · exact cl_A
    · exact go_A (by simp) hg
    · exact same_A (by simp)
  by_cases h0 : (nextD K.D S.last).2 = 0
  · rw [h0]
    refine ct rfl ?_
    refine dr [dead, dead, dead, cl b1 #[ptr bs] TPS] 99 (.t 0 (.t 1 (.t 2 (.t 3 (.t 4 (.n 5 (.n 6 (.n 7 (.n 8 (.n 9 (.n 10 (.n 11 (.n 12 .nil))))))))))))) tab_ok mixed_ok (by kernel_rfl) (.dead (.dead (.dead (.cons (.drop (.drop (.drop (.drop .nil)))))))) ?_
    refine ld1 3 rfl rfl ?_
    refine ld1 3 rfl rfl ?_
    refine ld1 3 rfl rfl ?_
    refine ld1 0 rfl rfl ?_
    refine ⟨(.dead (.dead (.dead (.cons (.drop (.drop (.drop (.drop .nil)))))))), ?_⟩
    refine .as ((S.last + 1 : Nat) : Int) (by omega) (by simp only [mn]; omega) (by simp only [mx]; omega) ?_
    iterate 3 refine ⟨(.dead (.dead (.dead (.cons (.drop (.drop (.drop (.drop .nil)))))))), ?_⟩
    refine s1 0 rfl (by show 4 < 7; decide) ?_
    iterate 3 refine ⟨(.dead (.dead (.dead (.cons (.drop (.drop (.drop (.drop .nil)))))))), ?_⟩
    refine s1 0 rfl (by show 5 < 7; decide) ?_
    refine ⟨(.dead (.dead (.dead (.cons (.drop (.drop (.drop (.drop .nil)))))))), ?_⟩
    refine ld1 7 rfl rfl ?_
    refine ⟨fun w1 hs => ?_⟩
    have := fin { S with last := S.last + 1, length := 0 } _ w1 _ rfl hs (.cons (.cons (.cons (.drop (.drop (.drop (.drop (.drop .nil)))))))) (if_pos h0).symm
    rw [h0] at this
    exact this
  · rw [errVs _ h0]
    refine cf rfl ?_
    refine ld1 7 rfl rfl ?_
    refine ⟨fun w1 hs => ?_⟩
    have := fin S _ w1 _ rfl hs (.cons (.cons (.cons (.drop (.drop (.drop (.drop (.drop .nil)))))))) (if_neg h0).symm
    rw [errVs _ h0] at this
    exact this
end Go.Proofs.YteamnhpplclmfaaGreatDoor
end
section
namespace Go.Proofs.YteamnhpplclmfaaGreatDoor
open Go.RowKit Go.Sx
set_option linter.unusedVariables false
abbrev bigF : Value := .func (.func 44) #[] #[]
set_option maxRecDepth 100000 in
theorem big_any (a : Option Addr) (n c : Nat) (hn : n ≤ maxLen) (w : World) : Calls Tryz.prog 44 ([.slice a n c] : List Value).toArray w fun e w' => e = .returned (.bool (decide (65536 < n))) ∧ Below w.heap.size w w' := by
  refine enterV tab_ok Tryz.func44 rfl Tryz.ntmps44 rfl (St.start w) ?_
  refine cv (fun w => size_any n hn w) ?_
  refine rt (congrArg Value.bool ?_)
  unfold sizeN
  rw [Bool.eq_iff_iff, beq_iff_eq, decide_eq_true_eq]
  split <;> omega
def bigP (ps : List Bs) : Bool := ps.any fun p => decide (65536 < p.length)
theorem big_get {ps : List Bs} {i : Nat} (hi : i < ps.length) (h : decide (65536 < ps[i].length) = true) : bigP ps = true := List.any_eq_true.2 ⟨ps[i], List.getElem_mem hi, h⟩
theorem big_not {ps : List Bs} (h : ∀ i (hi : i < ps.length), decide (65536 < ps[i].length) = false) : bigP ps = false := by
  cases hb : bigP ps with
  | false => rfl
  | true =>
    obtain ⟨p, hp, h1⟩ := List.any_eq_true.1 hb
    obtain ⟨i, hi, rfl⟩ := List.getElem_of_mem hp
    rw [h i hi] at h1; cases h1
theorem big_le {ps : List Bs} (h : bigP ps = false) : ∀ p ∈ ps, p.length ≤ 65536 := fun p hp => by
  have := List.any_eq_false.1 h p hp
  simp at this; exact this
theorem idx_any (a : Option Addr) (c : Nat) (vs : List Value) (ps : List Bs) (hP : Pls vs ps) (hm : ∀ p ∈ ps, p.length ≤ maxLen) (hk : ps.length ≤ 1000000) (w : World) (hr : Rd w (.slice a ps.length c) vs) :
    Calls Tryz.prog 93 ([.slice a ps.length c, bigF] : List Value).toArray w fun e w' => ∃ z : Int, (decide (z ≥ 0) = bigP ps) ∧ e = .returned (.int .i64 z) ∧ Below w.heap.size w w' := by
  refine (enter tab_ok Tryz.func93 rfl Tryz.ntmps93 rfl (St.start w) (R := fun v w' => (∃ z : Int, (decide (z ≥ 0) = bigP ps) ∧ v = .int .i64 z) ∧ Below w.heap.size w w') ?_).mono (fun e w' ⟨v, he, ⟨z, h1, h2⟩, h3⟩ => ⟨z, h1, by rw [he, h2], h3⟩)
  refine lp tab_ok (fun i : Nat => i ≤ ps.length ∧ ∀ j (hj : j < ps.length), j < i → decide (65536 < ps[j].length) = false) (fun i => ⟨[(0, .slice a ps.length c), (1, bigF), (7, .int .i64 ps.length), (8, .int .i64 i)], [], []⟩) (fun i => ps.length - i) 0 ⟨Nat.zero_le _, fun j hj h => by omega⟩ ⟨⟨rfl, rfl, rfl, rfl, trivial⟩, .nil, rfl⟩ ?_
  rintro i ⟨hi, hno⟩
  refine cd (fun h => ?_) (fun h => ?_)
  · have hlt : i < ps.length := by omega
    have hne : vs ≠ [] := fun e => by have := hP.len; rw [e] at this; simp at this; omega
    obtain ⟨b, o, rfl⟩ := hr.addr hne
    obtain ⟨pa, pc, hpv⟩ := hP.at (i := i) (p := ps[i]) (by simp [hlt])
    refine ⟨by omega, by omega, ?_⟩
    refine ldo (hr.at hpv rfl) (hr.lt0 hne) ?_
    refine cv (v := .bool (decide (65536 < ps[i].length))) (fun w => by simpa using big_any pa ps[i].length pc (hm _ (List.getElem_mem hlt)) w) ?_
    cases hb : decide (65536 < ps[i].length) with
    | true =>
      refine ct rfl ?_
      exact ⟨fun w1 hs => ⟨⟨(i : Int), by rw [big_get hlt hb]; exact decide_eq_true (by omega), rfl⟩, hs.below⟩⟩
    | false =>
      refine cf rfl ?_
      refine .as ((i + 1 : Nat) : Int) (by omega) (by simp only [mn]; omega) (by simp only [mx]; omega) ?_
      refine ⟨i + 1, ⟨by omega, fun j hj h => ?_⟩, by omega, ⟨⟨rfl, rfl, rfl, rfl, trivial⟩, .nil, rfl⟩⟩
      by_cases hji : j = i
      · subst hji; exact hb
      · exact hno j hj (by omega)
  · exact ⟨fun w1 hs => ⟨⟨-1, by rw [big_not fun j hj => hno j hj (by omega)]; rfl, rfl⟩, hs.below⟩⟩
set_option maxRecDepth 100000 in
theorem cont_any (a : Option Addr) (c : Nat) (vs : List Value) (ps : List Bs) (hP : Pls vs ps) (hm : ∀ p ∈ ps, p.length ≤ maxLen) (hk : ps.length ≤ 1000000) (w : World) (hr : Rd w (.slice a ps.length c) vs) :
    Calls Tryz.prog 43 ([.slice a ps.length c, bigF] : List Value).toArray w fun e w' => e = .returned (.bool (bigP ps)) ∧ Below w.heap.size w w' := by
  refine enterV tab_ok Tryz.func43 rfl Tryz.ntmps43 rfl (St.start w) ?_
  refine ce (Φ := fun z : Int => decide (z ≥ 0) = bigP ps) (v := fun z => .int .i64 z) (fun w hs => idx_any a c vs ps hP hm hk w (hr.below hs.below)) (fun z hz => ?_)
  exact rt (congrArg Value.bool hz)
theorem need_step {size n len : Nat} {beg : Bool} {p : Bs} {ps : List Bs} : needF size (n, len, beg) (p :: ps) = needF size (n + (8 + p.length), (if begP size len (8 + p.length) = true then 0 else len) + (8 + p.length), beg || begP size len (8 + p.length)) ps := by
  rw [needF]
  cases h : begP size len (8 + p.length)
  · simp
  · simp
set_option maxRecDepth 100000 in
theorem need_any {S : Sr} {bs bd : Nat} {v : Value} (a : Option Addr) (c : Nat) (vs : List Value) (ps : List Bs) (hP : Pls vs ps) (hm : ∀ p ∈ ps, p.length ≤ 65536) (hk : ps.length ≤ 1000000) (hlen : S.length ≤ 100000000) (w : World) (h : w.heap[bs]? = some (.cells (stC S bd v) TS (0, 0))) (hr : Rd w (.slice a ps.length c) vs) :
    Calls Tryz.prog 46 ([ptr bs, .slice a ps.length c] : List Value).toArray w fun e w' => e = .returned (.int .i64 (needP S ps : Nat)) ∧ Below w.heap.size w w' := by
  refine enterV tab_ok Tryz.func46 rfl Tryz.ntmps46 rfl (St.reads1 h) ?_
  refine dr [cr bs (stC S bd v) TS] 99 (.t 0 (.t 1 (.t 2 (.t 3 (.t 4 (.t 5 (.t 6 .nil))))))) tab_ok mixed_ok (by kernel_rfl) (.cons .nil) ?_
  refine ld1 0 rfl rfl ?_
  refine lp tab_ok (fun x : Nat × Nat × Nat × Bool => x.1 ≤ ps.length ∧ needF S.size (0, S.length, false) ps = needF S.size x.2 (ps.drop x.1) ∧ x.2.1 ≤ 65544 * x.1 ∧ x.2.2.1 ≤ 100000000 + 65544 * x.1)
    (fun x => ⟨[(0, ptr bs), (5, .int .i64 x.2.1), (6, .int .i64 x.2.2.1), (7, .bool x.2.2.2), (15, .slice a ps.length c), (16, .int .i64 ps.length), (17, .int .i64 x.1)], [cr bs (stC S bd v) TS], []⟩) (fun x => ps.length - x.1) (0, 0, S.length, false) ⟨Nat.zero_le _, rfl, by simp, by simpa using hlen⟩ ⟨⟨rfl, rfl, rfl, rfl, rfl, rfl, rfl, trivial⟩, .cons .nil, rfl⟩ ?_
  rintro ⟨i, n, len, beg⟩ ⟨hi, hn, hz1, hz2⟩
  dsimp only at hi hn hz1 hz2 ⊢
  refine cd (fun h => ?_) (fun h => ?_)
  · have hlt : i < ps.length := by omega
    have hne : vs ≠ [] := fun e => by have := hP.len; rw [e] at this; simp at this; omega
    have hpl := hm _ (List.getElem_mem hlt)
    obtain ⟨b, o, rfl⟩ := hr.addr hne
    obtain ⟨pa, pc, hpv⟩ := hP.at (i := i) (p := ps[i]) (by simp [hlt])
    rw [List.drop_eq_getElem_cons hlt, need_step] at hn
    generalize hp : ps[i] = p at hn hpl hpv
    refine ⟨by omega, by omega, ?_⟩
    refine ldo (hr.at hpv rfl) (hr.lt0 hne) ?_
    refine cv (fun w => size_any p.length (by unfold maxLen; omega) w) ?_
    have hsz : sizeN p.length = 8 + p.length := if_pos hpl
    rw [hsz]
    refine cvs (fun w hs => begins_any len (8 + p.length) (by omega) (by omega) (hs.nth (k := 0) rfl)) ?_
    cases hb : begP S.size len (8 + p.length) with
    | true =>
      rw [hb] at hn
      refine ct rfl ?_
      refine .as ((n + (8 + p.length) : Nat) : Int) (by omega) (by simp only [mn]; omega) (by simp only [mx]; omega) ?_
      refine .as ((8 + p.length : Nat) : Int) (by omega) (by simp only [mn]; omega) (by simp only [mx]; omega) ?_
      refine .as ((i + 1 : Nat) : Int) (by omega) (by simp only [mn]; omega) (by simp only [mx]; omega) ?_
      exact ⟨(i + 1, n + (8 + p.length), 8 + p.length, true), ⟨by dsimp only; omega, by dsimp only; rw [hn, if_pos rfl, Nat.zero_add, Bool.or_true], by dsimp only; omega, by dsimp only; omega⟩, by dsimp only; omega, ⟨⟨rfl, rfl, rfl, rfl, rfl, rfl, rfl, trivial⟩, .cons .nil, rfl⟩⟩
    | false =>
      rw [hb] at hn
      refine cf rfl ?_
      refine .as ((n + (8 + p.length) : Nat) : Int) (by omega) (by simp only [mn]; omega) (by simp only [mx]; omega) ?_
      refine .as ((len + (8 + p.length) : Nat) : Int) (by omega) (by simp only [mn]; omega) (by simp only [mx]; omega) ?_
      refine .as ((i + 1 : Nat) : Int) (by omega) (by simp only [mn]; omega) (by simp only [mx]; omega) ?_
      exact ⟨(i + 1, n + (8 + p.length), len + (8 + p.length), beg), ⟨by dsimp only; omega, by dsimp only; rw [hn, if_neg (by decide), Bool.or_false], by dsimp only; omega, by dsimp only; omega⟩, by dsimp only; omega, ⟨⟨rfl, rfl, rfl, rfl, rfl, rfl, rfl, trivial⟩, .cons .nil, rfl⟩⟩
  · obtain rfl : i = ps.length := by omega
    rw [List.drop_length, needF] at hn
    have hN : needP S ps = if beg = true then n + 24 else n := by unfold needP; rw [hn]
    cases beg with
    | true =>
      rw [if_pos rfl] at hN
      refine ct rfl ?_
      refine cv (fun w => size_any 4 (by decide) w) ?_
      refine .as (24 : Int) (by decide) (by decide) (by decide) ?_
      refine .as ((n + 24 : Nat) : Int) (by omega) (by simp only [mn]; omega) (by simp only [mx]; omega) ?_
      exact rt (by rw [hN]; rfl)
    | false =>
      rw [if_neg (by decide)] at hN
      refine cf rfl ?_
      exact rt (by rw [hN]; rfl)
end Go.Proofs.YteamnhpplclmfaaGreatDoor
end
section
namespace Go.Proofs.YteamnhpplclmfaaGreatDoor
open Go.RowKit Go.Sx
set_option linter.unusedVariables false
/-- a store and where it lies -/
structure StS where
  S : Sr
  k : DkS
  bs : Nat
  r : Sx.Own
  vs : List Value
  rr : Nat → Prop
def stEs (T : StS) : List Ent := [cl T.bs (stC T.S T.k.bd (sv T.r T.S.pl.length)) TS, rs (dkR T.k), rs laidR, se T.r T.vs TB, rs (bgR T.rr T.vs T.S.pl)]
abbrev stR (T : StS) : Res := mres (stEs T)
structure StOk (T : StS) : Prop where
  row : Rw 1 T.S.pl.length T.r T.vs
  pls : Pls T.vs T.S.pl
/-- what a function that turns a store does -/
def TurnS (T : StS) (w : World) (x : Sd) (code : Nat) (e : Ending) (w' : World) : Prop := ∃ T' : StS, (T'.S = x.S ∧ T'.k.D = x.D ∧ T'.bs = T.bs ∧ DkGo w T.k T'.k) ∧ StOk T' ∧ e = .returned (errV code) ∧ Turns w w' (stR T) (stR T')
theorem se_A {r : Sx.Own} {xs : List Value} {e : TypeId} {p : Nat → Prop} : ∀ k, (se r xs e).A k → ¬ (se r xs e).W k → p k := fun k h1 h2 => by
  cases r with
  | none => simp [se] at h1
  | some q => exact absurd (by simpa [se] using h1) (by simpa [se] using h2)
theorem st_out {T T' : StS} {w w1 : World} {L : List Ent} (hs : St [(stR T).w] w w1 L) (hsub : Sub (stEs T') L) (hg : DkGo w T.k T'.k) : Turns w w1 (stR T) (stR T') := by
  refine mres_out hs hsub fun e he => ?_
  simp only [stEs, List.mem_cons, List.not_mem_nil, or_false] at he
  rcases he with rfl | rfl | rfl | rfl | rfl
  · exact cl_A
  · exact go_A (by simp [stEs]) hg
  · exact same_A (by simp [stEs])
  · exact se_A
  · exact bg_A
/-- into a function that turns several entries and reads others -/
theorem mres_inR {es X : List Ent} {w : World} (h : (mres es).p w) (hX : ∀ e ∈ X, e.Ok w ∧ ∀ k, ¬ e.W k ∧ (e.A k → ¬ (mres es).w k)) : St [(mres es).w] w w (es ++ X) := by
  refine St.from w _ _ (fun e he => ?_) ?_
  · rcases List.mem_append.1 he with he | he
    · exact ⟨h.1 e he, fun k hk => ⟨_, List.mem_singleton.2 rfl, e, he, hk⟩⟩
    · exact ⟨(hX e he).1, fun k hk => absurd hk ((hX e he).2 k).1⟩
  · rw [List.pairwise_append]
    refine ⟨h.2, ?_, fun e he x hx k => ⟨fun h1 h2 => ((hX x hx).2 k).2 h2 ⟨e, he, h1⟩, fun h1 => absurd h1 ((hX x hx).2 k).1⟩⟩
    have : ∀ Y : List Ent, (∀ e ∈ Y, ∀ k, ¬ e.W k) → Y.Pairwise Apart := fun Y hY => by
      induction Y with
      | nil => exact .nil
      | cons y Y ih => exact .cons (fun z hz k => ⟨fun h1 => absurd h1 (hY y (by simp) k), fun h1 => absurd h1 (hY z (by simp [hz]) k)⟩) (ih fun e he => hY e (by simp [he]))
    exact this X fun e he k => ((hX e he).2 k).1
/-- arguments that lie apart from a store -/
structure ArgP (T : StS) (ra : Nat → Prop) (w : World) (v : Value) (vs : List Value) (ps : List Bs) : Prop where
  row : RdB ra w v vs
  el : ∀ (i : Nat) v p, vs[i]? = some v → ps[i]? = some p → RdB ra w v (Lib.byteCells p)
  far : ∀ k, ra k → k < w.heap.size ∧ ¬ (stR T).w k
theorem ArgP.st {T : StS} {ra : Nat → Prop} {w : World} {v : Value} {vs : List Value} {ps : List Bs} (h : ArgP T ra w v vs ps) (hT : (stR T).p w) : St [(stR T).w] w w (stEs T ++ [rs (rdR ra v vs), rs (psR ra vs ps)]) := by
  refine mres_inR hT fun e he => ?_
  simp only [List.mem_cons, List.not_mem_nil, or_false] at he
  rcases he with rfl | rfl
  · exact ⟨(rsOk _ _).2 ⟨h.row, fun k hk => (h.far k hk).1⟩, fun k => ⟨fun h1 => ((rsW _ _).1 h1).elim, fun h1 => ((rsA _ _).1 h1).elim False.elim fun h2 => (h.far k h2).2⟩⟩
  · exact ⟨(rsOk _ _).2 ⟨h.el, fun k hk => (h.far k hk).1⟩, fun k => ⟨fun h1 => ((rsW _ _).1 h1).elim, fun h1 => ((rsA _ _).1 h1).elim False.elim fun h2 => (h.far k h2).2⟩⟩
theorem RdB.mono {rr rr' : Nat → Prop} {w : World} {v : Value} {xs : List Value} (hr : ∀ k, rr k → rr' k) (h : RdB rr w v xs) : RdB rr' w v xs := by
  obtain ⟨a, c, h0, h⟩ := h
  refine ⟨a, c, h0, fun hx => ?_⟩
  obtain ⟨b, o, h1, h2, h3⟩ := h hx
  exact ⟨b, o, h1, hr b h2, h3⟩
theorem RdR.rdb {rr : Nat → Prop} {w : World} {v : Value} {xs : List Value} (h : RdR rr w v xs) : RdB rr w v xs := by
  obtain ⟨a, c, h0, _, _, _, _, h⟩ := h
  exact ⟨a, c, h0, h⟩
/-- one more row is kept with others -/
theorem ps_add {M : Bks} {B w : World} {L : List Ent} (h : St M B w L) {k j : Nat} {rr : Nat → Prop} {vs : List Value} {ps : List Bs} {r : Sx.Own} {p : Bs} {t : TypeId} (hk : L[k]? = some (rs (bgR rr vs ps))) (hj : L[j]? = some (se r (Lib.byteCells p) t)) (hkj : k ≠ j) (hR : Rw 1 p.length r (Lib.byteCells p)) (hlen : vs.length = ps.length) :
    St M B w ((L.set j dead).set k (rs (bgR (fun i => rr i ∨ rowB r i) (vs ++ [sv r p.length]) (ps ++ [p])))) := by
  have hy : ∀ i, rowB r i → (se r (Lib.byteCells p) t).W i := by
    rintro i ⟨b, c, jj, rfl, rfl⟩
    simp [se]
  refine St.merge h hk hj hkj ((rsOk _ _).2 ⟨fun i v q hv hq => ?_, fun i hi => ?_⟩) (fun i hi => ?_) (fun i hi => ?_)
  · by_cases hi : i < vs.length
    · rw [List.getElem?_append_left hi] at hv
      rw [List.getElem?_append_left (by omega)] at hq
      exact ((hs_res h hk).1 i v q hv hq).mono fun _ h => .inl h
    · have hi2 : i = vs.length := by
        have := (List.getElem?_eq_some_iff.1 hv).1
        simp at this; omega
      subst hi2
      rw [List.getElem?_append_right (Nat.le_refl _), Nat.sub_self] at hv
      rw [hlen, List.getElem?_append_right (Nat.le_refl _), Nat.sub_self] at hq
      obtain rfl := Option.some.inj hv
      obtain rfl := Option.some.inj hq
      exact (RdR.rdb (RdR.own h j hj hR)).mono fun _ h => .inr h
  · rcases hi with hi | hi
    · exact (hs_res h hk).2 i hi
    · exact h.ltA (List.mem_of_getElem? hj) (hy i hi).a
  · rcases (rsW _ _).1 hi with h1 | h1
    · exact .inl ((rsW _ _).2 h1)
    · exact .inr (hy i h1)
  · rcases (rsA _ _).1 hi with (h1 | h1) | h1
    · exact .inl ((rsA _ _).2 (.inl h1))
    · exact .inr (hy i h1).a
    · exact h1.elim
where
  hs_res {M : Bks} {B w : World} {L : List Ent} (h : St M B w L) {k : Nat} {rr : Nat → Prop} {vs : List Value} {ps : List Bs} (hk : L[k]? = some (rs (bgR rr vs ps))) : (bgR rr vs ps).p w := h.res hk
/-- fewer of them -/
theorem ps_less {M : Bks} {B w : World} {L : List Ent} (h : St M B w L) {k : Nat} {rr : Nat → Prop} {vs vs' : List Value} {ps ps' : List Bs} (hk : L[k]? = some (rs (bgR rr (vs ++ vs') (ps ++ ps')))) (hlen : vs.length = ps.length) : St M B w (L.set k (rs (bgR rr vs ps))) := by
  have hp : (bgR rr (vs ++ vs') (ps ++ ps')).p w := h.res hk
  have h1 : (bgR rr vs ps).p w := ⟨fun i v q hv hq => hp.1 i v q (by rw [List.getElem?_append_left (List.getElem?_eq_some_iff.1 hv).1]; exact hv) (by rw [List.getElem?_append_left (List.getElem?_eq_some_iff.1 hq).1]; exact hq), hp.2⟩
  exact h.upd hk (Nat.le_refl _) ((rsOk _ _).2 h1) (fun _ _ _ => rfl) rfl rfl rfl (fun i hi => .inl ((rsW (bgR rr (vs ++ vs') (ps ++ ps')) i).2 ((rsW (bgR rr vs ps) i).1 hi))) (fun i hi => .inl ((rsA (bgR rr (vs ++ vs') (ps ++ ps')) i).2 ((rsA (bgR rr vs ps) i).1 hi)))
/-- where a disk's steps end -/
theorem St.none {M : Bks} {B w : World} {L : List Ent} (h : St M B w L) : St M B w (L ++ [rs (bgR (fun _ => False) [] [])]) := h.push (Below.refl _ _) ((rsOk _ _).2 ⟨fun i v q hv => by simp at hv, fun k hk => hk.elim⟩) (fun k hk => ((rsW _ _).1 hk).elim) (fun k hk => ((rsA _ _).1 hk).elim False.elim False.elim)
end Go.Proofs.YteamnhpplclmfaaGreatDoor
end
section
namespace Go.Proofs.YteamnhpplclmfaaGreatDoor
open Go.RowKit Go.Sx
set_option linter.unusedVariables false
set_option maxRecDepth 100000 in
set_option maxHeartbeats 2000000 in
theorem append_ref (T : StS) (hT : StOk T) (ra : Nat → Prop) (a : Option Addr) (c : Nat) (vs : List Value) (ps : List Bs) (hP : Pls vs ps) (hk : ps.length ≤ 100) (hm : ∀ p ∈ ps, p.length ≤ maxLen) (hpl : T.S.pl.length ≤ 1000000) (hlast : T.S.last ≤ 1500000) (hlen : T.S.length ≤ 50000000)
    {q k0 : Nat} (hB : Bd q k0 T.k.D) (hk0 : k0 ≤ 900000) (hq : q ≤ 16777216) (w : World) (h : (stR T).p w) (hA : ArgP T ra w (.slice a ps.length c) vs ps)
    (hbad : T.S.stuck ≠ 0 ∨ bigP ps = true ∨ (T.k.D.quota : Int) - usedD T.k.D.files < needP T.S ps ∨ T.k.D.gone = true) :
    Calls Tryz.prog 12 ([ptr T.bs, .slice a ps.length c] : List Value).toArray w (TurnS T w (appendS ⟨T.S, T.k.D⟩ ps).1 (appendS ⟨T.S, T.k.D⟩ ps).2) := by
  refine (enter tab_ok Tryz.func12 rfl Tryz.ntmps12 rfl (hA.st h) (R := fun v w' => TurnS T w (appendS ⟨T.S, T.k.D⟩ ps).1 (appendS ⟨T.S, T.k.D⟩ ps).2 (.returned v) w') ?_).mono (fun e w' ⟨u, he, h1⟩ => by rw [he]; exact h1)
  obtain ⟨va, vc, hva⟩ := sv_sl hT.row
  have same : ∀ (c : Nat) (S' : Sr) (u : Value), appendS ⟨T.S, T.k.D⟩ ps = (⟨S', T.k.D⟩, c) → S'.pl = T.S.pl → u = errV c → ∀ (L : List Ent) (w1 : World), St [(stR T).w] w w1 L → Sub (stEs { T with S := S' }) L → TurnS T w (appendS ⟨T.S, T.k.D⟩ ps).1 (appendS ⟨T.S, T.k.D⟩ ps).2 (.returned u) w1 := by
    intro c S' u he hpl hu L w1 hs hsub
    rw [he]
    refine ⟨{ T with S := S' }, ⟨rfl, rfl, rfl, DkGo.refl _ _⟩, ⟨by show Rw 1 S'.pl.length _ _; rw [hpl]; exact hT.row, by show Pls _ S'.pl; rw [hpl]; exact hT.pls⟩, by rw [hu], st_out hs hsub (DkGo.refl _ _)⟩
  intro b2
  refine ld1 7 rfl rfl ?_
  refine cvs (fun w1 hs => ready_any (hs.nth (k := 0) rfl)) ?_
  by_cases hst : T.S.stuck = 0
  case neg =>
    have e1 : appendS ⟨T.S, T.k.D⟩ ps = (⟨T.S, T.k.D⟩, T.S.stuck) := if_pos hst
    rw [errVs _ hst]
    refine ct rfl ?_
    exact ⟨fun w1 hs => same _ _ _ e1 rfl (errVs _ hst).symm _ _ hs (.cons (.cons (.cons (.cons (.cons (.drop (.drop (.drop .nil))))))))⟩
  rw [hst]
  refine cf rfl ?_
  refine cvs (fun w1 hs => cont_any a c vs ps hP hm (by omega) w1 (hs.res (k := 5) rfl : (rdR _ _ _).p w1).1.rd) ?_
  cases hbig : bigP ps with
  | true =>
    have e1 : appendS ⟨T.S, T.k.D⟩ ps = (⟨T.S, T.k.D⟩, 10) := by unfold appendS; rw [if_neg (by simpa using hst)]; exact if_pos hbig
    refine ct rfl ?_
    exact ⟨fun w1 hs => same _ _ _ e1 rfl rfl _ _ hs (.cons (.cons (.cons (.cons (.cons (.drop (.drop (.drop .nil))))))))⟩
  | false =>
  have hle := big_le hbig
  refine cf rfl ?_
  refine dr [cl T.bs (stC T.S T.k.bd (sv T.r T.S.pl.length)) TS, rs (dkR T.k), rs laidR, dead, dead, rs (rdR ra (.slice a ps.length c) vs), dead, cl b2 #[ptr T.bs] TPS] 99 (.t 0 (.t 1 (.t 2 (.t 3 (.t 4 (.t 5 (.t 6 (.t 7 (.t 8 .nil))))))))) tab_ok mixed_ok (by kernel_rfl) (.cons (.cons (.cons (.dead (.dead (.cons (.dead (.cons .nil)))))))) ?_
  refine ld1 7 rfl rfl ?_
  refine czs (fun w1 hs => need_any a c vs ps hP hle (by omega) (by omega) w1 (hs.nth (k := 0) rfl) (hs.res (k := 5) rfl : (rdR _ _ _).p w1).1.rd) ?_
  refine ld1 7 rfl rfl ?_
  refine ld1 0 rfl rfl ?_
  refine czs (fun w1 hs => free_any T.k w1 (hs.res (k := 1) rfl) (by have := hB.f.q; omega) (by have := hB.qt; omega)) ?_
  by_cases hfull : (T.k.D.quota : Int) - usedD T.k.D.files < needP T.S ps
  · have e1 : appendS ⟨T.S, T.k.D⟩ ps = (⟨{ T.S with stuck := 3 }, T.k.D⟩, 3) := by unfold appendS; rw [if_neg (by simpa using hst), if_neg (by rw [show (ps.any fun p => decide (65536 < p.length)) = false from hbig]; decide), if_pos hfull]
    refine ct (decide_eq_true (by omega)) ?_
    refine ld1 7 rfl rfl ?_
    refine fail_in 0 (c := 3) rfl (by decide) ?_
    exact ⟨fun w1 hs => same _ { T.S with stuck := 3 } _ e1 rfl rfl _ _ hs (.cons (.cons (.cons (.cons (.cons (.drop (.drop (.drop .nil))))))))⟩
  refine cf (decide_eq_false (by omega)) ?_
  refine ld1 7 rfl rfl ?_
  refine ld1 0 rfl rfl ?_
  refine cvs (fun w1 hs => down_any T.k w1 (hs.res (k := 1) rfl)) ?_
  cases hg : T.k.D.gone with
  | true =>
    have e1 : appendS ⟨T.S, T.k.D⟩ ps = (⟨{ T.S with stuck := 4 }, T.k.D⟩, 4) := by unfold appendS; rw [if_neg (by simpa using hst), if_neg (by rw [show (ps.any fun p => decide (65536 < p.length)) = false from hbig]; decide), if_neg hfull, if_pos hg]
    refine ct rfl ?_
    refine ld1 7 rfl rfl ?_
    refine fail_in 0 (c := 4) rfl (by decide) ?_
    exact ⟨fun w1 hs => same _ { T.S with stuck := 4 } _ e1 rfl rfl _ _ hs (.cons (.cons (.cons (.cons (.cons (.drop (.drop (.drop .nil))))))))⟩
  | false =>
    rcases hbad with h1 | h1 | h1 | h1
    · exact absurd hst h1
    · rw [h1] at hbig; cases hbig
    · exact absurd h1 hfull
    · rw [h1] at hg; cases hg
end Go.Proofs.YteamnhpplclmfaaGreatDoor
end
section
namespace Go.Proofs.YteamnhpplclmfaaGreatDoor
open Go.RowKit Go.Sx
set_option linter.unusedVariables false
section
variable {N : Nat} {M : Bks} {B : World} {F : Option Nat} {L : List Ent} {next : Value → List Ent → Prop}
/-- the next segment begins, «as» a step -/
theorem doN (kw : Nat) {S : Sr} {K : DkS} {bs bw : Nat} {v : Value} (rest : List Ent) (L1 : DkS → Sr → Value → List Ent) (hv : ∃ a n c, v = .slice a n c) (hL : L = [cl bs (stC S K.bd v) TS, rs (dkR K), rs laidR] ++ rest) (hkw : rest[kw]? = some (cl bw #[errV 0] TW)) (hlast : S.last ≤ 2000000)
    {q k : Nat} (hB : Bd q k K.D) (hk : k ≤ 999990) (hq : q ≤ 16777216)
    (hL1 : ∀ K' S' u, [cl bs (stC S' K'.bd v) TS, rs (dkR K'), rs laidR] ++ rest.set kw (cl bw #[u] TW) = L1 K' S' u)
    (go : ∀ K', K'.D = (nextD K.D S.last).1 → DkGo B K K' → next (.tuple #[]) (L1 K' (if (nextD K.D S.last).2 = 0 then { S with last := S.last + 1, length := 0 } else S) (errV (nextD K.D S.last).2))) :
    CallP ⟨Tryz.prog, tab, N, M, B, F⟩ 52 [ptr bw, .func (.func 53) #[ptr bs] #[]] L next := by
  have hkl := (List.getElem?_eq_some_iff.1 hkw).1
  subst hL
  refine do_in (kw + 3) (c := 0) (by simpa using hkw) rfl (fun h => absurd rfl h) (fun _ => ?_)
  refine cTm (α := DkS) (Φ := fun w K' => K'.D = (nextD K.D S.last).1 ∧ DkGo w K K') (v := fun _ => errV (nextD K.D S.last).2) (es' := fun K' => [cl bs (stC (if (nextD K.D S.last).2 = 0 then { S with last := S.last + 1, length := 0 } else S) K'.bd v) TS, rs (dkR K'), rs laidR]) _ rest rfl (fun w hs hm => next_any S K bs v hv w hm hlast hB hk hq) (fun w K' hw ⟨h1, h2⟩ => ?_)
  refine ⟨_, rfl, by simpa using hkw, ?_⟩
  have h3 : DkGo B K K' := ⟨h2.bd, h2.bm, fun k hk => (h2.rr k hk).imp id (Nat.le_trans hw)⟩
  have := go K' h1 h3
  rw [← hL1] at this
  exact this
/-- a row of one's own is made, and is kept with others -/
theorem coP {C : Cx} {L : List Ent} (k : Nat) {g : FuncId} {vs0 : List Value} {rr : Nat → Prop} {vs : List Value} {ps : List Bs} {p : Bs} {next : Value → List Ent → Prop} (hk : L[k]? = some (rs (bgR rr vs ps))) (hlen : vs.length = ps.length)
    (h : ∀ w, St C.M C.B w L → Calls C.P g vs0.toArray w fun en w' => ∃ r, en = .returned (sv r p.length) ∧ Rw 1 p.length r (Lib.byteCells p) ∧ Made w w' r (Lib.byteCells p) 5 ∧ Below w.heap.size w w')
    (go : ∀ r rr', Rw 1 p.length r (Lib.byteCells p) → next (sv r p.length) (L.set k (rs (bgR rr' (vs ++ [sv r p.length]) (ps ++ [p]))))) : CallP C g vs0 L next := by
  refine ⟨fun w hs => (h w hs).mono fun en w' ⟨r, he, hR, ho, hb⟩ => ?_⟩
  have hkl := (List.getElem?_eq_some_iff.1 hk).1
  have h1 : St C.M C.B w' (L ++ [se r (Lib.byteCells p) 5]) := by
    cases r with
    | none => exact (hs.call hb).deads
    | some q =>
      obtain ⟨b, c, j⟩ := q
      obtain ⟨h1, h2⟩ := ho b c j rfl
      exact hs.add hb h1 h2
  have h2 := ps_add h1 (k := k) (j := L.length) (at_app hk) at_new (by omega) hR hlen
  refine ⟨_, _, he, ?_, go r (fun i => rr i ∨ rowB r i) hR⟩
  · have h3 : ((L ++ [se r (Lib.byteCells p) 5]).set L.length dead).set k (rs (bgR (fun i => rr i ∨ rowB r i) (vs ++ [sv r p.length]) (ps ++ [p]))) = L.set k (rs (bgR (fun i => rr i ∨ rowB r i) (vs ++ [sv r p.length]) (ps ++ [p]))) ++ [dead] := by
      rw [List.set_append_right _ _ (Nat.le_refl _), Nat.sub_self, List.set_cons_zero, List.set_append_left _ _ hkl]
    rw [h3] at h2
    exact h2.sub (sub_app _)
end
theorem bsS1 (a : Option Addr) (n k : Nat) (w : World) : (Instr.buildSlice 36 1 #[(0, .slice a n k)]).run Tryz.prog w = .ok (.slice (some ⟨w.heap.size, 0, none⟩) 1 1) (w.alloc (.cells #[.slice a n k] 22)) := by
  obtain ⟨i, hi, hz, hs, hb⟩ := infoOf infoS
  exact run_buildSlice w _ _ 1 _ #[.slice a n k] i (.slice none 0 0) undSS hi hz (by rw [hs]; decide) (by rw [hs]; decide) (by rw [hs]; kernel_rfl)
/-- behind so many payloads -/
structure Ax where
  i : Nat
  y : Pt
  K : DkS
  rm : Sx.Own
  nv : List Value
  rr : Nat → Prop
  V : List Value
  P : List Bs
structure AxOk (T : StS) (ps : List Bs) (B : World) (q k0 : Nat) (x : Ax) : Prop where
  i : x.i ≤ ps.length
  d : x.K.D = x.y.D
  g : DkGo B T.k x.K
  p : putsD T.S.size ⟨T.k.D, T.S.last, T.S.length⟩ ps = putsD T.S.size x.y (ps.drop x.i)
  rm : Rw 1 x.i x.rm x.nv
  V : x.V = T.vs ++ x.nv
  P : x.P = T.S.pl ++ ps.take x.i
  pls : Pls x.V x.P
  bd : Bd q (k0 + 5 * x.i) x.y.D
  la : x.y.last ≤ T.S.last + x.i
  le : x.y.length ≤ T.S.length + 65544 * x.i
/-- the last segment is named otherwise -/
def upS (S : Sr) (l n : Nat) : Sr := ⟨S.size, S.pl, S.sure, l, n, S.stuck⟩
def axL (T : StS) (ra : Nat → Prop) (a : Option Addr) (n c : Nat) (vs : List Value) (ps : List Bs) (b2 : Nat) (x : Ax) : List Ent :=
  [cl T.bs (stC (upS T.S x.y.last x.y.length) x.K.bd (sv T.r T.S.pl.length)) TS, rs (dkR x.K), rs laidR, se T.r T.vs TB, rs (bgR x.rr x.V x.P), rs (rdR ra (.slice a n c) vs), rs (psR ra vs ps), cl b2 #[ptr T.bs] TPS, se x.rm x.nv TB]
theorem Pls.snoc {vs : List Value} {ps : List Bs} (h : Pls vs ps) {v : Value} {p : Bs} (hv : ∃ a c, v = .slice a p.length c) : Pls (vs ++ [v]) (ps ++ [p]) := by
  refine ⟨by simp [h.len], fun i u q hu hq => ?_⟩
  by_cases hi : i < vs.length
  · rw [List.getElem?_append_left hi] at hu
    rw [List.getElem?_append_left (by have := h.len; omega)] at hq
    exact h.sh i u q hu hq
  · have hi2 : i = vs.length := by
      have := (List.getElem?_eq_some_iff.1 hu).1
      simp at this; omega
    subst hi2
    rw [List.getElem?_append_right (Nat.le_refl _), Nat.sub_self] at hu
    rw [h.len, List.getElem?_append_right (Nat.le_refl _), Nat.sub_self] at hq
    obtain rfl := Option.some.inj hu
    obtain rfl := Option.some.inj hq
    exact hv
theorem Bd.put {q k : Nat} {x : Pt} (h : Bd q k x.D) (size : Nat) (p : Bs) : Bd q (k + 4) (goD size x p).1.D ∧ Bd q (k + 5) (putD size x p).1.D := by
  have h1 : Bd q (k + 4) (goD size x p).1.D := by
    unfold goD
    split
    · split
      · exact h.next x.last
      · exact h.next x.last
    · exact h.le (by omega)
  refine ⟨h1, ?_⟩
  unfold putD
  split
  · exact h1.append _ _
  · exact h1.le (by omega)
theorem go_last (size : Nat) (x : Pt) (p : Bs) : (goD size x p).1.last ≤ x.last + 1 ∧ (goD size x p).1.length ≤ x.length ∧ (putD size x p).1.last ≤ x.last + 1 ∧ (putD size x p).1.length ≤ x.length + (8 + p.length) := by
  have h : (goD size x p).1.last ≤ x.last + 1 ∧ (goD size x p).1.length ≤ x.length := by
    unfold goD
    split
    · split <;> exact ⟨by simp, by simp⟩
    · exact ⟨by simp, by simp⟩
  refine ⟨h.1, h.2, ?_⟩
  unfold putD
  split
  · exact ⟨h.1, by simp only; omega⟩
  · exact ⟨h.1, by omega⟩
end Go.Proofs.YteamnhpplclmfaaGreatDoor
end
section
namespace Go.Proofs.YteamnhpplclmfaaGreatDoor
open Go.RowKit Go.Sx
set_option linter.unusedVariables false
theorem name_len (n : Nat) : (nameS n).length = 12 := rfl
theorem put_then (size : Nat) (y : Pt) (p : Bs) (D1 : Dk) (c1 : Nat) (h : (goD size y p).1.D = D1 ∧ (goD size y p).2 = c1) :
    (putD size y p).2 = (thenD (D1, c1) fun D => appendD D (nameS (goD size y p).1.last) (recP p)).2 ∧ (putD size y p).1.D = (thenD (D1, c1) fun D => appendD D (nameS (goD size y p).1.last) (recP p)).1 ∧ (putD size y p).1.last = (goD size y p).1.last ∧ ((putD size y p).2 = 0 → (putD size y p).1.length = (goD size y p).1.length + (8 + p.length)) := by
  obtain ⟨rfl, rfl⟩ := h
  unfold putD thenD
  by_cases h0 : (goD size y p).2 = 0
  · simp [h0]
  · simp [h0]
set_option maxRecDepth 100000 in
set_option maxHeartbeats 2000000 in
theorem append_go (T : StS) (hT : StOk T) (ra : Nat → Prop) (a : Option Addr) (c : Nat) (vs : List Value) (ps : List Bs) (hP : Pls vs ps) (hk : ps.length ≤ 100) (hm : ∀ p ∈ ps, p.length ≤ maxLen) (hpl : T.S.pl.length ≤ 1000000) (hlast : T.S.last ≤ 1500000) (hlen : T.S.length ≤ 50000000)
    {q k0 : Nat} (hB : Bd q k0 T.k.D) (hk0 : k0 ≤ 900000) (hq : q ≤ 16777216) (w : World) (h : (stR T).p w) (hA : ArgP T ra w (.slice a ps.length c) vs ps)
    (hst : T.S.stuck = 0) (hbig : bigP ps = false) (hfull : ¬ (T.k.D.quota : Int) - usedD T.k.D.files < needP T.S ps) (hg : T.k.D.gone = false) :
    Calls Tryz.prog 12 ([ptr T.bs, .slice a ps.length c] : List Value).toArray w (TurnS T w (appendS ⟨T.S, T.k.D⟩ ps).1 (appendS ⟨T.S, T.k.D⟩ ps).2) := by
  refine (enter tab_ok Tryz.func12 rfl Tryz.ntmps12 rfl (hA.st h) (R := fun v w' => TurnS T w (appendS ⟨T.S, T.k.D⟩ ps).1 (appendS ⟨T.S, T.k.D⟩ ps).2 (.returned v) w') ?_).mono (fun e w' ⟨u, he, h1⟩ => by rw [he]; exact h1)
  obtain ⟨va, vc, hva⟩ := sv_sl hT.row
  intro b2
  refine ld1 7 rfl rfl ?_
  refine cvs (fun w1 hs => ready_any (hs.nth (k := 0) rfl)) ?_
  rw [hst]
  refine cf rfl ?_
  refine cvs (fun w1 hs => cont_any a c vs ps hP hm (by omega) w1 (hs.res (k := 5) rfl : (rdR _ _ _).p w1).1.rd) ?_
  rw [hbig]
  have hle := big_le hbig
  refine cf rfl ?_
  refine dr [cl T.bs (stC T.S T.k.bd (sv T.r T.S.pl.length)) TS, rs (dkR T.k), rs laidR, dead, dead, rs (rdR ra (.slice a ps.length c) vs), dead, cl b2 #[ptr T.bs] TPS] 99 (.t 0 (.t 1 (.t 2 (.t 3 (.t 4 (.t 5 (.t 6 (.t 7 (.t 8 .nil))))))))) tab_ok mixed_ok (by kernel_rfl) (.cons (.cons (.cons (.dead (.dead (.cons (.dead (.cons .nil)))))))) ?_
  refine ld1 7 rfl rfl ?_
  refine czs (fun w1 hs => need_any a c vs ps hP hle (by omega) (by omega) w1 (hs.nth (k := 0) rfl) (hs.res (k := 5) rfl : (rdR _ _ _).p w1).1.rd) ?_
  refine ld1 7 rfl rfl ?_
  refine ld1 0 rfl rfl ?_
  refine czs (fun w1 hs => free_any T.k w1 (hs.res (k := 1) rfl) (by have := hB.f.q; omega) (by have := hB.qt; omega)) ?_
  refine cf (decide_eq_false (by omega)) ?_
  refine ld1 7 rfl rfl ?_
  refine ld1 0 rfl rfl ?_
  refine cvs (fun w1 hs => down_any T.k w1 (hs.res (k := 1) rfl)) ?_
  rw [hg]
  refine cf rfl ?_
  have eapp : appendS ⟨T.S, T.k.D⟩ ps = if (putsD T.S.size ⟨T.k.D, T.S.last, T.S.length⟩ ps).2 = 0 then
    (⟨{ T.S with pl := T.S.pl ++ ps, last := (putsD T.S.size ⟨T.k.D, T.S.last, T.S.length⟩ ps).1.last, length := (putsD T.S.size ⟨T.k.D, T.S.last, T.S.length⟩ ps).1.length }, (putsD T.S.size ⟨T.k.D, T.S.last, T.S.length⟩ ps).1.D⟩, 0)
  else (⟨{ T.S with stuck := (putsD T.S.size ⟨T.k.D, T.S.last, T.S.length⟩ ps).2 }, (putsD T.S.size ⟨T.k.D, T.S.last, T.S.length⟩ ps).1.D⟩, (putsD T.S.size ⟨T.k.D, T.S.last, T.S.length⟩ ps).2) := by
    unfold appendS; rw [if_neg (by simpa using hst), if_neg (by rw [show (ps.any fun p => decide (65536 < p.length)) = false from hbig]; decide), if_neg hfull, if_neg (by rw [hg]; decide)]
  refine dr [cl T.bs (stC T.S T.k.bd (sv T.r T.S.pl.length)) TS, dead, dead, dead, dead, dead, dead, cl b2 #[ptr T.bs] TPS] 99 (.t 0 (.t 1 (.t 2 (.t 3 (.t 4 (.t 5 (.t 6 (.t 7 (.t 8 (.t 9 .nil)))))))))) tab_ok mixed_ok (by kernel_rfl) (.cons (.dead (.dead (.dead (.dead (.dead (.dead (.cons .nil)))))))) ?_
  refine ld1 7 rfl rfl ?_
  refine ld1 0 rfl rfl ?_
  refine ld1 7 rfl rfl ?_
  refine ld1 0 rfl rfl ?_
  refine lp tab_ok (AxOk T ps w q k0) (fun x => ⟨[(2, ptr b2), (6, .int .i64 T.S.last), (7, .int .i64 T.S.length), (8, sv x.rm x.i), (50, .slice a ps.length c), (51, .int .i64 ps.length), (52, .int .i64 x.i)], axL T ra a ps.length c vs ps b2 x, []⟩) (fun x => ps.length - x.i)
    ⟨0, ⟨T.k.D, T.S.last, T.S.length⟩, T.k, none, [], T.rr, T.vs, T.S.pl⟩ ⟨Nat.zero_le _, rfl, DkGo.refl _ _, rfl, Rw.nil 1, (List.append_nil _).symm, (by simp), hT.pls, hB, Nat.le_refl _, Nat.le_refl _⟩ ⟨⟨rfl, rfl, rfl, rfl, rfl, rfl, rfl, trivial⟩, .cons (.cons (.cons (.cons (.cons (.cons (.cons (.cons (.pad .nil)))))))), rfl⟩ ?_
  intro x hx
  unfold axL
  have hxb := hx.bd
  have hxl := hx.la
  have hxe := hx.le
  have hxi := hx.i
  refine cd (fun h => ?_) (fun h => ?_)
  · have hlt : x.i < ps.length := by omega
    have hne : vs ≠ [] := fun e => by have := hP.len; rw [e] at this; simp at this; omega
    have hpl' := hle _ (List.getElem_mem hlt)
    obtain ⟨ba, oa, rfl⟩ := (show ∃ b o, a = some ⟨b, o, none⟩ from by obtain ⟨_, _, e, h1⟩ := hA.row; injection e with e1 _ _; obtain ⟨b, o, h2, _⟩ := h1 hne; exact ⟨b, o, e1.trans h2⟩)
    obtain ⟨pa, pc, hpv⟩ := hP.at (i := x.i) (p := ps[x.i]) (by simp [hlt])
    have hpg : ps[x.i]? = some ps[x.i] := by simp [hlt]
    have hdrop : ps.drop x.i = ps[x.i] :: ps.drop (x.i + 1) := List.drop_eq_getElem_cons hlt
    have hpt : ps.take (x.i + 1) = ps.take x.i ++ [ps[x.i]] := by rw [List.take_succ_eq_append_getElem hlt]
    generalize hpe : ps[x.i] = p at hpl' hpv hpg hdrop hpt
    have hbp := Bd.put hxb T.S.size p
    have hgl := go_last T.S.size x.y p
    refine ⟨by omega, by omega, ?_⟩
    refine .mk (.slice pa p.length pc) (fun w' hs => (hs.res (k := 5) rfl : (rdR _ _ _).p w').1.rd.at hpv rfl) ?_
    refine coV (fun v => .tuple #[v, .nilIface]) (fun w1 hs => fput_any _ p hpl' w1 ((hs.res (k := 6) rfl : (psR _ _ _).p w1).1 x.i _ _ hpv hpg).rd) (fun rb hRb => ?_)
    intro b11
    refine s1 10 rfl (by show 0 < 1; decide) ?_ (h1 := by cases rb <;> rfl) (hv := by cases rb <;> rfl)
    refine bu (c := #[.nilIface]) (by kernel_rfl) ?_
    intro bw
    refine sN 11 rfl rfl rfl ?_ (by kernel_rfl)
    obtain ⟨sa, sc, hsv⟩ := sv_sl hRb
    refine dr [cl T.bs (stC (upS T.S (x.y.last) (x.y.length)) x.K.bd (sv T.r T.S.pl.length)) TS, dead, dead, dead, dead, dead, dead, cl b2 #[ptr T.bs] TPS, dead, dead, cl b11 #[sv rb (recP p).length] TB] 99 (.t 0 (.t 1 (.t 2 (.t 3 (.t 4 (.t 5 (.t 6 (.t 7 .nil)))))))) tab_ok mixed_ok (by kernel_rfl) (.cons (.dead (.dead (.dead (.dead (.dead (.dead (.cons (.dead (.dead (.cons (.drop .nil)))))))))))) ?_
    refine ld1 7 rfl rfl ?_
    refine ld1 7 rfl rfl ?_
    refine ld1 0 rfl rfl ?_
    refine ld1 10 rfl rfl ?_
    rw [hsv]
    refine czs (fun w1 hs => begins_any x.y.length (recP p).length (by omega) (by rw [rec_len]; omega) (hs.nth (k := 0) rfl)) ?_
    rw [← hsv]
    cases hbg : begP T.S.size x.y.length (8 + p.length) with
    | true =>
      have eg : goD T.S.size x.y p = if (nextD x.y.D x.y.last).2 = 0 then (⟨(nextD x.y.D x.y.last).1, x.y.last + 1, 0⟩, 0) else (⟨(nextD x.y.D x.y.last).1, x.y.last, x.y.length⟩, (nextD x.y.D x.y.last).2) := if_pos hbg
      refine ct (by rw [rec_len]; exact hbg) ?_
      refine ld1 7 rfl rfl ?_
      refine doN 8 (S := upS T.S x.y.last x.y.length) (K := x.K) (v := sv T.r T.S.pl.length) [se T.r T.vs TB, rs (bgR x.rr x.V x.P), rs (rdR ra (.slice (some ⟨ba, oa, none⟩) ps.length c) vs), rs (psR ra vs ps), cl b2 #[ptr T.bs] TPS, se x.rm x.nv TB, se rb (Lib.byteCells (recP p)) 5, cl b11 #[sv rb (recP p).length] TB, cl bw #[errV 0] TW]
        (fun K' S' u => [cl T.bs (stC S' K'.bd (sv T.r T.S.pl.length)) TS, rs (dkR K'), rs laidR, se T.r T.vs TB, rs (bgR x.rr x.V x.P), rs (rdR ra (.slice (some ⟨ba, oa, none⟩) ps.length c) vs), rs (psR ra vs ps), cl b2 #[ptr T.bs] TPS, se x.rm x.nv TB, se rb (Lib.byteCells (recP p)) 5, cl b11 #[sv rb (recP p).length] TB, cl bw #[u] TW])
        ⟨va, _, vc, hva⟩ rfl rfl (by show x.y.last ≤ 2000000; omega) (q := q) (k := k0 + 5 * x.i) (by rw [hx.d]; exact hxb) (by omega) hq (fun K' S' u => rfl) (fun K1 hK g1 => ?_)
      rw [hx.d] at hK
      obtain ⟨cd, hcd⟩ : ∃ cd, cd = (nextD x.y.D x.y.last).2 := ⟨_, rfl⟩
      have hg1 : (goD T.S.size x.y p).1.D = K1.D ∧ (goD T.S.size x.y p).2 = cd := by
        rw [eg, hK, hcd]; split
        · rename_i h0; exact ⟨rfl, h0.symm⟩
        · exact ⟨rfl, rfl⟩
      rw [hx.d, show (upS T.S x.y.last x.y.length).last = x.y.last from rfl, ← hcd, show (if cd = 0 then ({ upS T.S x.y.last x.y.length with last := x.y.last + 1, length := 0 } : Sr) else upS T.S x.y.last x.y.length) = upS T.S (goD T.S.size x.y p).1.last (goD T.S.size x.y p).1.length from by rw [eg, ← hcd]; split <;> rfl]
      have hB1 : Bd q (k0 + 5 * x.i + 4) K1.D := by rw [← hg1.1]; exact hbp.1
      refine doK 11 1 (c := cd) (fun D => appendD D (nameS (goD T.S.size x.y p).1.last) (recP p)) (fun K' v => [cl T.bs (stC (upS T.S (goD T.S.size x.y p).1.last (goD T.S.size x.y p).1.length) K1.bd (sv T.r T.S.pl.length)) TS, rs (dkR K'), rs laidR, se T.r T.vs TB, rs (bgR x.rr x.V x.P), rs (rdR ra (.slice (some ⟨ba, oa, none⟩) ps.length c) vs), rs (psR ra vs ps), cl b2 #[ptr T.bs] TPS, se x.rm x.nv TB, se rb (Lib.byteCells (recP p)) 5, cl b11 #[sv rb (recP p).length] TB, cl bw #[v] TW]) rfl rfl (by decide) rfl (fun _ => ?_) (fun K' v => rfl) (fun K2 h2 g2 => ?_)
      · refine inl (C := ⟨Tryz.prog, tab, 14, [_], w, none⟩) tab_ok Tryz.func54 rfl Tryz.ntmps54 rfl ?_
        refine drs [cl T.bs (stC (upS T.S (goD T.S.size x.y p).1.last (goD T.S.size x.y p).1.length) K1.bd (sv T.r T.S.pl.length)) TS, rs (dkR K1), rs laidR, dead, dead, dead, dead, cl b2 #[ptr T.bs] TPS, dead, dead, cl b11 #[sv rb (recP p).length] TB] [10, 11] (.t 0 (.t 1 (.t 2 (.t 3 (.t 4 (.t 5 (.t 6 (.t 7 (.t 8 (.t 9 (.n 10 (.n 11 .nil)))))))))))) tab_ok mixed_ok (by kernel_rfl) (.cons (.cons (.cons (.dead (.dead (.dead (.dead (.cons (.dead (.dead (.cons (.drop .nil)))))))))))) ?_
        refine ld1 7 rfl rfl ?_
        refine ld1 0 rfl rfl ?_
        refine ld1 7 rfl rfl ?_
        refine ld1 0 rfl rfl ?_
        refine czs (fun w1 hs => name_any (goD T.S.size x.y p).1.last (by omega) w1 (hs.res (k := 2) rfl)) ?_
        refine ld1 10 rfl rfl ?_
        refine cTd 1 rfl (fun w1 hs => append_any K1 _ (recP p) (by rw [name_len]; decide) (by rw [rec_len]; omega) _ w1 (hs.res (k := 1) rfl) (Rd.own hs 9 rfl hRb) (rd_far hs 1 9 (by decide) rfl rfl hRb) (by have := hB1.st; omega) hB1.lf (by have := hB1.f.q; omega) (by have := hB1.qt; omega)) (fun K2 h2 g2 => ?_)
        refine bk ?_
        exact ⟨K2, h2, g2, rfl, rfl⟩
      obtain ⟨f, hf⟩ : ∃ f, f = fun D => appendD D (nameS (goD T.S.size x.y p).1.last) (recP p) := ⟨_, rfl⟩
      rw [← hf] at h2 ⊢
      have hput : (putD T.S.size x.y p).2 = (thenD (K1.D, cd) f).2 ∧ (putD T.S.size x.y p).1.D = (thenD (K1.D, cd) f).1 ∧ (putD T.S.size x.y p).1.last = (goD T.S.size x.y p).1.last ∧ ((putD T.S.size x.y p).2 = 0 → (putD T.S.size x.y p).1.length = (goD T.S.size x.y p).1.length + (8 + p.length)) := by
        rw [hf]; exact put_then T.S.size x.y p _ _ hg1
      obtain ⟨hp1, hp2, hp3, hp4⟩ := hput
      have hB2 := hbp.2
      rw [← hp1]
      rw [← hp2] at h2
      refine ld1 11 rfl rfl ?_
      have hgo := (hx.g.trans g1).trans g2
      by_cases hc2 : (putD T.S.size x.y p).2 = 0
      case neg =>
        rw [errVs _ hc2]
        refine ct rfl ?_
        refine dr [dead, dead, dead, dead, dead, dead, dead, cl b2 #[ptr T.bs] TPS] 99 (.t 0 (.t 1 (.t 2 (.t 3 (.t 4 (.t 5 (.n 6 (.n 7 (.n 8 (.n 9 .nil)))))))))) tab_ok mixed_ok (by kernel_rfl) (.dead (.dead (.dead (.dead (.dead (.dead (.dead (.cons (.drop (.drop (.drop (.drop .nil)))))))))))) ?_
        iterate 2 refine ld1 7 rfl rfl ?_
        refine s1 0 rfl (by show 4 < 7; decide) ?_
        iterate 3 refine ⟨(.dead (.dead (.dead (.dead (.dead (.dead (.dead (.cons (.drop (.drop (.drop (.drop .nil)))))))))))), ?_⟩
        refine s1 0 rfl (by show 5 < 7; decide) ?_
        refine ⟨(.dead (.dead (.dead (.dead (.dead (.dead (.dead (.cons (.drop (.drop (.drop (.drop .nil)))))))))))), ?_⟩
        refine ld1 7 rfl rfl ?_
        refine ld1 11 rfl rfl ?_
        rw [← errVs _ hc2]
        refine fail_in 0 (S := T.S) (c := (putD T.S.size x.y p).2) rfl hc2 ?_
        refine ⟨fun w1 hs => ?_⟩
        have hs2 := ps_less (vs := T.vs) (vs' := x.nv) (ps := T.S.pl) (ps' := ps.take x.i) hs (k := 4) (by rw [← hx.V, ← hx.P]; rfl) (by rw [hT.pls.len])
        rw [eapp, hx.p, hdrop, putsD, if_neg hc2, if_neg hc2]
        refine ⟨⟨{ T.S with stuck := (putD T.S.size x.y p).2 }, K2, T.bs, T.r, T.vs, x.rr⟩, ⟨rfl, h2, rfl, hgo⟩, ⟨hT.row, hT.pls⟩, rfl, st_out hs2 ?_ hgo⟩
        have eb : K1.bd = K2.bd := g2.bd.symm
        rw [eb]
        exact (.cons (.cons (.cons (.cons (.cons (.drop (.drop (.drop (.drop (.drop (.drop (.drop .nil))))))))))))
      rw [hc2]
      refine cf rfl ?_
      refine dr [cl T.bs (stC (upS T.S (goD T.S.size x.y p).1.last (goD T.S.size x.y p).1.length) K1.bd (sv T.r T.S.pl.length)) TS, dead, dead, dead, dead, dead, dead, cl b2 #[ptr T.bs] TPS, dead, dead, cl b11 #[sv rb (recP p).length] TB] 9 (.t 0 (.t 1 (.t 2 (.t 3 (.t 4 (.t 5 (.t 6 (.t 7 (.t 8 (.n 9 .nil)))))))))) tab_ok mixed_ok (by kernel_rfl) (.cons (.dead (.dead (.dead (.dead (.dead (.dead (.cons (.dead (.dead (.cons (.drop .nil)))))))))))) ?_
      refine ld1 7 rfl rfl ?_
      refine ld1 0 rfl rfl ?_
      refine ld1 10 rfl rfl ?_
      rw [hsv]
      refine .as (((putD T.S.size x.y p).1.length : Nat) : Int) (by rw [hp4 hc2]; show (((goD T.S.size x.y p).1.length : Nat) : Int) + (((recP p).length : Nat) : Int) = _; rw [rec_len]; omega) (by simp only [mn]; omega) (by rw [hp4 hc2]; simp only [mx]; omega) ?_
      refine s1 0 rfl (by show 5 < 7; decide) ?_
      refine coP 4 (rr := x.rr) (vs := x.V) (ps := x.P) (p := p) rfl hx.pls.len (fun w1 hs => clone_any (.slice pa p.length pc) p (by omega) w1 ((hs.res (k := 6) rfl : (psR _ _ _).p w1).1 x.i _ _ hpv hpg).rd) (fun rc rr' hRc => ?_)
      obtain ⟨ca, cc, hcv⟩ := sv_sl hRc
      rw [hcv]
      refine .mk _ _ (bsS1 _ _ _) (fun b12 => ?_)
      refine ap1 8 12 tab_ok rfl infoS rfl rfl hx.rm rfl rfl (by omega) (by unfold maxLen; omega) (fun rm' hRm' => ?_)
      refine .as ((x.i + 1 : Nat) : Int) (by omega) (by simp only [mn]; omega) (by simp only [mx]; omega) ?_
      have hB3 := hbp.2
      refine ⟨⟨x.i + 1, (putD T.S.size x.y p).1, K2, rm', x.nv ++ [.slice ca p.length cc], rr', x.V ++ [.slice ca p.length cc], x.P ++ [p]⟩, ⟨by show x.i + 1 ≤ ps.length; omega, h2, hgo, ?_, hRm', by show _ = _; rw [hx.V, List.append_assoc], by show _ = _; rw [hx.P, hpt, List.append_assoc], hx.pls.snoc ⟨ca, cc, rfl⟩, by show Bd q (k0 + 5 * (x.i + 1)) _; exact hB3.le (by omega), by show (putD T.S.size x.y p).1.last ≤ T.S.last + (x.i + 1); omega, by show (putD T.S.size x.y p).1.length ≤ T.S.length + 65544 * (x.i + 1); omega⟩, by show ps.length - (x.i + 1) < ps.length - x.i; omega, ⟨⟨rfl, rfl, rfl, rfl, rfl, rfl, rfl, trivial⟩, ?_, rfl⟩⟩
      · show _ = putsD T.S.size (putD T.S.size x.y p).1 (ps.drop (x.i + 1)); rw [hx.p, hdrop, putsD, if_pos hc2]
      · dsimp only; rw [hp3]; rw [show K2.bd = K1.bd from g2.bd]; exact (.cons (.cons (.cons (.cons (.cons (.cons (.cons (.cons (.cons (.drop (.drop (.drop (.drop .nil)))))))))))))
    | false =>
      have eg : goD T.S.size x.y p = (x.y, 0) := if_neg (by rw [hbg]; decide)
      refine cf (by rw [rec_len]; exact hbg) ?_
      have g1 := DkGo.refl w x.K
      have hg1 : (goD T.S.size x.y p).1.D = x.K.D ∧ (goD T.S.size x.y p).2 = 0 := by rw [eg]; exact ⟨hx.d.symm, rfl⟩
      have hB1 : Bd q (k0 + 5 * x.i + 4) x.K.D := by rw [hx.d]; exact hxb.le (by omega)
      rw [show upS T.S x.y.last x.y.length = upS T.S (goD T.S.size x.y p).1.last (goD T.S.size x.y p).1.length from by rw [eg]]
      refine doK 11 1 (c := 0) (fun D => appendD D (nameS (goD T.S.size x.y p).1.last) (recP p)) (fun K' v => [cl T.bs (stC (upS T.S (goD T.S.size x.y p).1.last (goD T.S.size x.y p).1.length) x.K.bd (sv T.r T.S.pl.length)) TS, rs (dkR K'), rs laidR, se T.r T.vs TB, rs (bgR x.rr x.V x.P), rs (rdR ra (.slice (some ⟨ba, oa, none⟩) ps.length c) vs), rs (psR ra vs ps), cl b2 #[ptr T.bs] TPS, se x.rm x.nv TB, se rb (Lib.byteCells (recP p)) 5, cl b11 #[sv rb (recP p).length] TB, cl bw #[v] TW]) rfl rfl (by decide) rfl (fun _ => ?_) (fun K' v => rfl) (fun K2 h2 g2 => ?_)
      · refine inl (C := ⟨Tryz.prog, tab, 14, [_], w, none⟩) tab_ok Tryz.func54 rfl Tryz.ntmps54 rfl ?_
        refine drs [cl T.bs (stC (upS T.S (goD T.S.size x.y p).1.last (goD T.S.size x.y p).1.length) x.K.bd (sv T.r T.S.pl.length)) TS, rs (dkR x.K), rs laidR, dead, dead, dead, dead, cl b2 #[ptr T.bs] TPS, dead, dead, cl b11 #[sv rb (recP p).length] TB] [10, 11] (.t 0 (.t 1 (.t 2 (.t 3 (.t 4 (.t 5 (.t 6 (.t 7 (.t 8 (.t 9 (.n 10 (.n 11 .nil)))))))))))) tab_ok mixed_ok (by kernel_rfl) (.cons (.cons (.cons (.dead (.dead (.dead (.dead (.cons (.dead (.dead (.cons (.drop .nil)))))))))))) ?_
        refine ld1 7 rfl rfl ?_
        refine ld1 0 rfl rfl ?_
        refine ld1 7 rfl rfl ?_
        refine ld1 0 rfl rfl ?_
        refine czs (fun w1 hs => name_any (goD T.S.size x.y p).1.last (by omega) w1 (hs.res (k := 2) rfl)) ?_
        refine ld1 10 rfl rfl ?_
        refine cTd 1 rfl (fun w1 hs => append_any x.K _ (recP p) (by rw [name_len]; decide) (by rw [rec_len]; omega) _ w1 (hs.res (k := 1) rfl) (Rd.own hs 9 rfl hRb) (rd_far hs 1 9 (by decide) rfl rfl hRb) (by have := hB1.st; omega) hB1.lf (by have := hB1.f.q; omega) (by have := hB1.qt; omega)) (fun K2 h2 g2 => ?_)
        refine bk ?_
        exact ⟨K2, h2, g2, rfl, rfl⟩
      obtain ⟨f, hf⟩ : ∃ f, f = fun D => appendD D (nameS (goD T.S.size x.y p).1.last) (recP p) := ⟨_, rfl⟩
      rw [← hf] at h2 ⊢
      have hput : (putD T.S.size x.y p).2 = (thenD (x.K.D, 0) f).2 ∧ (putD T.S.size x.y p).1.D = (thenD (x.K.D, 0) f).1 ∧ (putD T.S.size x.y p).1.last = (goD T.S.size x.y p).1.last ∧ ((putD T.S.size x.y p).2 = 0 → (putD T.S.size x.y p).1.length = (goD T.S.size x.y p).1.length + (8 + p.length)) := by
        rw [hf]; exact put_then T.S.size x.y p _ _ hg1
      obtain ⟨hp1, hp2, hp3, hp4⟩ := hput
      have hB2 := hbp.2
      rw [← hp1]
      rw [← hp2] at h2
      refine ld1 11 rfl rfl ?_
      have hgo := (hx.g.trans g1).trans g2
      by_cases hc2 : (putD T.S.size x.y p).2 = 0
      case neg =>
        rw [errVs _ hc2]
        refine ct rfl ?_
        refine dr [dead, dead, dead, dead, dead, dead, dead, cl b2 #[ptr T.bs] TPS] 99 (.t 0 (.t 1 (.t 2 (.t 3 (.t 4 (.t 5 (.n 6 (.n 7 (.n 8 (.n 9 .nil)))))))))) tab_ok mixed_ok (by kernel_rfl) (.dead (.dead (.dead (.dead (.dead (.dead (.dead (.cons (.drop (.drop (.drop (.drop .nil)))))))))))) ?_
        iterate 2 refine ld1 7 rfl rfl ?_
        refine s1 0 rfl (by show 4 < 7; decide) ?_
        iterate 3 refine ⟨(.dead (.dead (.dead (.dead (.dead (.dead (.dead (.cons (.drop (.drop (.drop (.drop .nil)))))))))))), ?_⟩
        refine s1 0 rfl (by show 5 < 7; decide) ?_
        refine ⟨(.dead (.dead (.dead (.dead (.dead (.dead (.dead (.cons (.drop (.drop (.drop (.drop .nil)))))))))))), ?_⟩
        refine ld1 7 rfl rfl ?_
        refine ld1 11 rfl rfl ?_
        rw [← errVs _ hc2]
        refine fail_in 0 (S := T.S) (c := (putD T.S.size x.y p).2) rfl hc2 ?_
        refine ⟨fun w1 hs => ?_⟩
        have hs2 := ps_less (vs := T.vs) (vs' := x.nv) (ps := T.S.pl) (ps' := ps.take x.i) hs (k := 4) (by rw [← hx.V, ← hx.P]; rfl) (by rw [hT.pls.len])
        rw [eapp, hx.p, hdrop, putsD, if_neg hc2, if_neg hc2]
        refine ⟨⟨{ T.S with stuck := (putD T.S.size x.y p).2 }, K2, T.bs, T.r, T.vs, x.rr⟩, ⟨rfl, h2, rfl, hgo⟩, ⟨hT.row, hT.pls⟩, rfl, st_out hs2 ?_ hgo⟩
        have eb : x.K.bd = K2.bd := g2.bd.symm
        rw [eb]
        exact (.cons (.cons (.cons (.cons (.cons (.drop (.drop (.drop (.drop (.drop (.drop (.drop .nil))))))))))))
      rw [hc2]
      refine cf rfl ?_
      refine dr [cl T.bs (stC (upS T.S (goD T.S.size x.y p).1.last (goD T.S.size x.y p).1.length) x.K.bd (sv T.r T.S.pl.length)) TS, dead, dead, dead, dead, dead, dead, cl b2 #[ptr T.bs] TPS, dead, dead, cl b11 #[sv rb (recP p).length] TB] 9 (.t 0 (.t 1 (.t 2 (.t 3 (.t 4 (.t 5 (.t 6 (.t 7 (.t 8 (.n 9 .nil)))))))))) tab_ok mixed_ok (by kernel_rfl) (.cons (.dead (.dead (.dead (.dead (.dead (.dead (.cons (.dead (.dead (.cons (.drop .nil)))))))))))) ?_
      refine ld1 7 rfl rfl ?_
      refine ld1 0 rfl rfl ?_
      refine ld1 10 rfl rfl ?_
      rw [hsv]
      refine .as (((putD T.S.size x.y p).1.length : Nat) : Int) (by rw [hp4 hc2]; show (((goD T.S.size x.y p).1.length : Nat) : Int) + (((recP p).length : Nat) : Int) = _; rw [rec_len]; omega) (by simp only [mn]; omega) (by rw [hp4 hc2]; simp only [mx]; omega) ?_
      refine s1 0 rfl (by show 5 < 7; decide) ?_
      refine coP 4 (rr := x.rr) (vs := x.V) (ps := x.P) (p := p) rfl hx.pls.len (fun w1 hs => clone_any (.slice pa p.length pc) p (by omega) w1 ((hs.res (k := 6) rfl : (psR _ _ _).p w1).1 x.i _ _ hpv hpg).rd) (fun rc rr' hRc => ?_)
      obtain ⟨ca, cc, hcv⟩ := sv_sl hRc
      rw [hcv]
      refine .mk _ _ (bsS1 _ _ _) (fun b12 => ?_)
      refine ap1 8 12 tab_ok rfl infoS rfl rfl hx.rm rfl rfl (by omega) (by unfold maxLen; omega) (fun rm' hRm' => ?_)
      refine .as ((x.i + 1 : Nat) : Int) (by omega) (by simp only [mn]; omega) (by simp only [mx]; omega) ?_
      have hB3 := hbp.2
      refine ⟨⟨x.i + 1, (putD T.S.size x.y p).1, K2, rm', x.nv ++ [.slice ca p.length cc], rr', x.V ++ [.slice ca p.length cc], x.P ++ [p]⟩, ⟨by show x.i + 1 ≤ ps.length; omega, h2, hgo, ?_, hRm', by show _ = _; rw [hx.V, List.append_assoc], by show _ = _; rw [hx.P, hpt, List.append_assoc], hx.pls.snoc ⟨ca, cc, rfl⟩, by show Bd q (k0 + 5 * (x.i + 1)) _; exact hB3.le (by omega), by show (putD T.S.size x.y p).1.last ≤ T.S.last + (x.i + 1); omega, by show (putD T.S.size x.y p).1.length ≤ T.S.length + 65544 * (x.i + 1); omega⟩, by show ps.length - (x.i + 1) < ps.length - x.i; omega, ⟨⟨rfl, rfl, rfl, rfl, rfl, rfl, rfl, trivial⟩, ?_, rfl⟩⟩
      · show _ = putsD T.S.size (putD T.S.size x.y p).1 (ps.drop (x.i + 1)); rw [hx.p, hdrop, putsD, if_pos hc2]
      · dsimp only; rw [hp3]; rw [show K2.bd = x.K.bd from g2.bd]; exact (.cons (.cons (.cons (.cons (.cons (.cons (.cons (.cons (.cons (.drop (.drop (.drop (.drop .nil)))))))))))))
  · have hie : x.i = ps.length := by omega
    have hdn : ps.drop x.i = [] := by rw [hie]; exact List.drop_length
    have hpt : ps.take x.i = ps := by rw [hie]; exact List.take_length
    have hpp := hx.p
    rw [hdn, putsD] at hpp
    have hxr := hx.rm
    rw [hie] at hxr
    obtain ⟨na, nc, hnv⟩ := sv_sl hxr
    refine dr [cl T.bs (stC (upS T.S (x.y.last) (x.y.length)) x.K.bd (sv T.r T.S.pl.length)) TS, dead, dead, dead, dead, dead, dead, cl b2 #[ptr T.bs] TPS] 9 (.t 0 (.t 1 (.t 2 (.t 3 (.t 4 (.t 5 (.n 6 (.n 7 (.n 8 (.n 9 .nil)))))))))) tab_ok mixed_ok (by kernel_rfl) (.cons (.dead (.dead (.dead (.dead (.dead (.dead (.cons (.drop .nil))))))))) ?_
    refine ld1 7 rfl rfl ?_
    refine ld1 7 rfl rfl ?_
    refine ld1 0 rfl rfl ?_
    rw [hie]
    refine ap (k := 3) (news := x.nv) (m := ps.length) (r := T.r) (xs := T.vs) (n := T.S.pl.length) tab_ok rfl infoS rfl rfl hT.row (fun w1 hs => ?_) (by omega) (by unfold maxLen; omega) (fun r' hr' => ?_)
    · have hrd := Rd.own hs 8 rfl hxr
      have hl : x.nv.length = ps.length := by have := hxr.1; omega
      have := hrd.src (P := Tryz.prog) (tx := 36) (e' := 22) undSS (fun u hu => ?_)
      · rw [hl] at this; exact this
      · obtain ⟨i, hi, rfl⟩ := List.getElem_of_mem hu
        obtain ⟨a', c', e⟩ := hx.pls.sh (T.vs.length + i) x.nv[i] ((x.P)[T.vs.length + i]'(by have h1 := hx.pls.len; rw [hx.V] at h1; simp at h1; omega)) (by rw [hx.V]; simp [hi]) (by simp)
        rw [e]; rfl
    iterate 3 refine ⟨(.cons (.dead (.dead (.dead (.dead (.dead (.dead (.cons (.drop .nil))))))))), ?_⟩
    refine s1 0 rfl (by show 2 < 7; decide) ?_ (h1 := by cases r' <;> rfl) (hv := by cases r' <;> rfl)
    refine ⟨fun w1 hs => ?_⟩
    rw [eapp, hpp, if_pos rfl]
    have hV := hx.V
    have hP2 := hx.P
    rw [hpt] at hP2
    have hL : T.S.pl.length + ps.length = (T.S.pl ++ ps).length := by rw [List.length_append]
    refine ⟨⟨{ T.S with pl := T.S.pl ++ ps, last := x.y.last, length := x.y.length }, x.K, T.bs, r', T.vs ++ x.nv, x.rr⟩, ⟨rfl, hx.d, rfl, hx.g⟩, ⟨by show Rw 1 (T.S.pl ++ ps).length r' _; rw [← hL]; exact hr', by show Pls (T.vs ++ x.nv) (T.S.pl ++ ps); rw [← hV, ← hP2]; exact hx.pls⟩, rfl, st_out hs ?_ hx.g⟩
    rw [hV, hP2, hL]
    exact (.cons (.cons (.cons (.cons (.cons (.drop (.drop (.drop (.drop .nil)))))))))
end Go.Proofs.YteamnhpplclmfaaGreatDoor
end
section
namespace Go.Proofs.YteamnhpplclmfaaGreatDoor
open Go.RowKit Go.Sx
set_option linter.unusedVariables false
set_option maxRecDepth 100000 in
set_option maxHeartbeats 2000000 in
theorem syncS_any (T : StS) (hT : StOk T) (hlast : T.S.last ≤ 2000000) {q k0 : Nat} (hB : Bd q k0 T.k.D) (hk0 : k0 ≤ 900000) (w : World) (h : (stR T).p w) :
    Calls Tryz.prog 13 ([ptr T.bs] : List Value).toArray w (TurnS T w (syncS ⟨T.S, T.k.D⟩).1 (syncS ⟨T.S, T.k.D⟩).2) := by
  refine (enter tab_ok Tryz.func13 rfl Tryz.ntmps13 rfl (mres_in h) (R := fun v w' => TurnS T w (syncS ⟨T.S, T.k.D⟩).1 (syncS ⟨T.S, T.k.D⟩).2 (.returned v) w') ?_).mono (fun e w' ⟨u, he, h1⟩ => by rw [he]; exact h1)
  obtain ⟨va, vc, hva⟩ := sv_sl hT.row
  have fin : ∀ (c : Nat) (S' : Sr) (K' : DkS) (u : Value), syncS ⟨T.S, T.k.D⟩ = (⟨S', K'.D⟩, c) → S'.pl = T.S.pl → DkGo w T.k K' → u = errV c → ∀ (L : List Ent) (w1 : World), St [(stR T).w] w w1 L → Sub (stEs { T with S := S', k := K' }) L → TurnS T w (syncS ⟨T.S, T.k.D⟩).1 (syncS ⟨T.S, T.k.D⟩).2 (.returned u) w1 := by
    intro c S' K' u he hpl hg hu L w1 hs hsub
    rw [he]
    refine ⟨{ T with S := S', k := K' }, ⟨rfl, rfl, rfl, hg⟩, ⟨by show Rw 1 S'.pl.length _ _; rw [hpl]; exact hT.row, by show Pls _ S'.pl; rw [hpl]; exact hT.pls⟩, by rw [hu], st_out hs hsub hg⟩
  refine cvs (fun w1 hs => ready_any (hs.nth (k := 0) rfl)) ?_
  by_cases hst : T.S.stuck = 0
  case neg =>
    have e1 : syncS ⟨T.S, T.k.D⟩ = (⟨T.S, T.k.D⟩, T.S.stuck) := if_pos hst
    rw [errVs _ hst]
    refine ct rfl ?_
    exact ⟨fun w1 hs => fin _ _ T.k _ e1 rfl (DkGo.refl _ _) (errVs _ hst).symm _ _ hs (.cons (.cons (.cons (.cons (.cons .nil)))))⟩
  have e1 : syncS ⟨T.S, T.k.D⟩ = if T.k.D.gone = true then (⟨{ T.S with stuck := 4 }, T.k.D⟩, 4)
      else if hasD T.k.D (nameS T.S.last) = true then
        (if (syncD T.k.D (nameS T.S.last)).2 = 0 then (⟨{ T.S with sure := T.S.pl.length }, (syncD T.k.D (nameS T.S.last)).1⟩, 0) else (⟨{ T.S with stuck := (syncD T.k.D (nameS T.S.last)).2 }, (syncD T.k.D (nameS T.S.last)).1⟩, (syncD T.k.D (nameS T.S.last)).2))
      else (⟨{ T.S with sure := T.S.pl.length }, T.k.D⟩, 0) := if_neg (by simpa using hst)
  rw [hst]
  refine cf rfl ?_
  refine ld1 0 rfl rfl ?_
  refine cvs (fun w1 hs => down_any T.k w1 (hs.res (k := 1) rfl)) ?_
  cases hg : T.k.D.gone with
  | true =>
    rw [if_pos hg] at e1
    refine ct rfl ?_
    refine fail_in 0 (c := 4) rfl (by decide) ?_
    exact ⟨fun w1 hs => fin _ { T.S with stuck := 4 } T.k _ e1 rfl (DkGo.refl _ _) rfl _ _ hs (.cons (.cons (.cons (.cons (.cons .nil)))))⟩
  | false =>
  rw [if_neg (by rw [hg]; decide)] at e1
  refine cf rfl ?_
  refine ld1 0 rfl rfl ?_
  refine cvs (fun w1 hs => name_any T.S.last (by omega) w1 (hs.res (k := 2) rfl)) ?_
  refine cvs (fun w1 hs => hasS_any T.k (nameS T.S.last) (hs.nth (k := 0) rfl) (hs.res (k := 1) rfl)) ?_
  cases hh : hasD T.k.D (nameS T.S.last) with
  | false =>
    rw [if_neg (by rw [hh]; decide)] at e1
    refine cf rfl ?_
    refine ld1 0 rfl rfl ?_
    rw [hva]
    refine s1 0 rfl (by show 3 < 7; decide) ?_
    rw [← hva]
    exact ⟨fun w1 hs => fin _ { T.S with sure := T.S.pl.length } T.k _ e1 rfl (DkGo.refl _ _) rfl _ _ hs (.cons (.cons (.cons (.cons (.cons .nil)))))⟩
  | true =>
    rw [if_pos hh] at e1
    refine ct rfl ?_
    refine ld1 0 rfl rfl ?_
    refine cTd 1 rfl (fun w1 hs => sync_any T.k _ w1 (hs.res (k := 1) rfl) (by have := hB.st; omega) hB.lf) (fun K1 h1 g1 => ?_)
    by_cases hc : (syncD T.k.D (nameS T.S.last)).2 = 0
    · rw [if_pos hc, ← h1] at e1
      rw [hc]
      refine cf rfl ?_
      refine ld1 0 rfl rfl ?_
      rw [hva]
      refine s1 0 rfl (by show 3 < 7; decide) ?_
      rw [← hva, ← g1.bd]
      exact ⟨fun w1 hs => fin _ { T.S with sure := T.S.pl.length } K1 _ e1 rfl g1 rfl _ _ hs (.cons (.cons (.cons (.cons (.cons .nil)))))⟩
    · rw [if_neg hc, ← h1] at e1
      rw [errVs _ hc]
      refine ct rfl ?_
      rw [← errVs _ hc]
      refine fail_in 0 (S := T.S) rfl hc ?_
      rw [← g1.bd]
      exact ⟨fun w1 hs => fin _ { T.S with stuck := (syncD T.k.D (nameS T.S.last)).2 } K1 _ e1 rfl g1 rfl _ _ hs (.cons (.cons (.cons (.cons (.cons .nil)))))⟩
end Go.Proofs.YteamnhpplclmfaaGreatDoor
end
section
namespace Go.Proofs.YteamnhpplclmfaaGreatDoor
open Go.RowKit Go.Sx
set_option linter.unusedVariables false
/-- a store that is read, where a box holds it -/
def stH (b1 : Nat) (T : StS) : Res where
  w := fun _ => False
  r := fun k => k = b1 ∨ (rs (stR T)).A k
  p := fun u => u.heap[b1]? = some (.cells #[ptr T.bs] TPS (0, 0)) ∧ (stR T).p u
  st := fun u v h ⟨h1, h2⟩ => ⟨(h b1 (.inr (.inl rfl))).trans h1, (stR T).st u v (fun k hk => h k (.inr (.inr ((rsA _ _).2 hk)))) h2⟩
  bd := fun u ⟨h1, h2⟩ k hk => by
    rcases hk with hk | rfl | hk
    · exact hk.elim
    · exact (Array.getElem?_eq_some_iff.1 h1).1
    · exact (stR T).bd u h2 k ((rsA _ _).1 hk)
theorem stR_cl {T : StS} {u : World} (h : (stR T).p u) : u.heap[T.bs]? = some (.cells (stC T.S T.k.bd (sv T.r T.S.pl.length)) TS (0, 0)) := (h.1 (cl T.bs (stC T.S T.k.bd (sv T.r T.S.pl.length)) TS) (by simp [stEs])).1 _ rfl
theorem stR_dk {T : StS} {u : World} (h : (stR T).p u) : DkP T.k u := (rsOk _ _).1 (h.1 (rs (dkR T.k)) (by simp [stEs]))
theorem stR_laid {T : StS} {u : World} (h : (stR T).p u) : Laid u := (rsOk _ _).1 (h.1 (rs laidR) (by simp [stEs]))
theorem stR_ps {T : StS} {u : World} (h : (stR T).p u) : (psR T.rr T.vs T.S.pl).p u := (rsOk (bgR T.rr T.vs T.S.pl) u).1 (h.1 (rs (bgR T.rr T.vs T.S.pl)) (by simp [stEs]))
theorem stR_row {T : StS} (hT : StOk T) {u : World} (h : (stR T).p u) : Rd u (sv T.r T.S.pl.length) T.vs := Rd.own (mres_in h) 3 rfl hT.row
/-- a round: the number, the payload «as» a row of one's own -/
def stNx (T : StS) (i : Nat) (args : List Value) (q : List Ent) (j : Nat) : Prop := ∃ p r, T.S.pl[i]? = some p ∧ args = [.int .i64 i, sv r p.length] ∧ q = [se r (Lib.byteCells p) 5] ∧ Rw 1 p.length r (Lib.byteCells p) ∧ j = i + 1
set_option maxRecDepth 100000 in
set_option maxHeartbeats 1000000 in
theorem stall_itr (b1 : Nat) (T : StS) (hT : StOk T) (hpl : T.S.pl.length ≤ 2199023255552) (hm : ∀ p ∈ T.S.pl, p.length ≤ 16777216) :
    ItrO Tryz.prog 40 [ptr b1] 0 (stNx T) (fun i => i = T.S.pl.length) (stH b1 T) := by
  refine ⟨fun k α β R S W x0 hR hH hd hround => ?_⟩
  have hst : St [fun k => (R 0 x0).w k] W W [rs (R 0 x0), rs (stH b1 T)] := by
    refine St.from W _ _ (fun y hy => ?_) ?_
    · simp only [List.mem_cons, List.not_mem_nil, or_false] at hy
      rcases hy with rfl | rfl
      · exact ⟨by simpa using hR, fun k hk => ⟨_, List.mem_singleton.2 rfl, by simpa using hk⟩⟩
      · exact ⟨(rsOk _ _).2 hH, fun k hk => ((rsW _ _).1 hk).elim⟩
    · refine .cons (fun y hy => ?_) (.cons (fun y hy => by simp at hy) .nil)
      obtain rfl : y = rs (stH b1 T) := by simpa using hy
      exact fun k => ⟨fun h1 h2 => hd k ((rsA _ _).1 h2) ((rsW _ _).1 h1), fun h1 => ((rsW _ _).1 h1).elim⟩
  refine (enter tab_ok Tryz.func40 rfl Tryz.ntmps40 rfl hst (R := fun v w' => (∃ i y, i = T.S.pl.length ∧ Turns W w' (R 0 x0) (R i y)) ∨ ∃ y, Turns W w' (R 0 x0) (S y)) ?_).mono (fun e w' ⟨v, he, h⟩ => ⟨⟨v, he⟩, h⟩)
  have fin' : ∀ (r : Res) (L : List Ent) (w' : World), St [fun k => (R 0 x0).w k] W w' L → L[0]? = some (rs r) → (∀ k, r.A k → (R 0 x0).A k ∨ W.heap.size ≤ k) → Turns W w' (R 0 x0) r := by
    intro r L w' hs h0 hA
    refine Turns.of_st hs (fun k hk => by simpa using hk) (hs.res h0) (fun k hk => ?_) hA
    rcases hs.ownW _ (List.mem_of_getElem? h0) k (by simpa using hk) with h | h
    · exact .inr h
    · exact .inl (by simpa using h)
  have hbox : ∀ {M : Bks} {B w : World} {L : List Ent}, St M B w L → L[1]? = some (rs (stH b1 T)) → w.cell? ⟨b1, 0, none⟩ = some (ptr T.bs) := fun hs h => by
    have := (hs.res h : _ ∧ _).1
    simp [World.cell?, this]
  have hcl : ∀ {M : Bks} {B w : World} {L : List Ent}, St M B w L → L[1]? = some (rs (stH b1 T)) → w.cell? ⟨T.bs, nad 0 2, none⟩ = some (sv T.r T.S.pl.length) := fun hs h => by
    have := stR_cl (hs.res h : _ ∧ _).2
    simp [World.cell?, this, stC, nad]
  obtain ⟨va, vc, hva⟩ := sv_sl hT.row
  refine .mk (ptr T.bs) (fun w' hs => hbox hs rfl) ?_
  refine cf rfl ?_
  refine .mk (ptr T.bs) (fun w' hs => hbox hs rfl) ?_
  refine .mk (sv T.r T.S.pl.length) (fun w' hs => hcl hs rfl) ?_
  rw [hva]
  refine lp tab_ok (fun q : Nat × α => q.1 ≤ T.S.pl.length ∧ (∀ b, (R q.1 q.2).A b → (R 0 x0).A b ∨ W.heap.size ≤ b)) (fun q => ⟨[(0, .func (.yield k) #[] #[]), (10, .slice va T.S.pl.length vc), (11, .int .i64 T.S.pl.length), (12, .int .i64 q.1)], [rs (R q.1 q.2), rs (stH b1 T)], []⟩) (fun q => T.S.pl.length - q.1) (0, x0) ⟨Nat.zero_le _, fun b h => .inl h⟩ ⟨⟨rfl, rfl, rfl, rfl, trivial⟩, .cons (.cons .nil), rfl⟩ ?_
  rintro ⟨i, y⟩ ⟨hi, hA⟩
  dsimp only at hi hA ⊢
  refine cd (fun h => ?_) (fun h => ?_)
  · have hlt : i < T.S.pl.length := by omega
    have hne : T.vs ≠ [] := fun e => by have := hT.pls.len; rw [e] at this; simp at this; omega
    have hrow := stR_row hT hH.2
    rw [hva] at hrow
    obtain ⟨b, o, rfl⟩ := hrow.addr hne
    obtain ⟨pa, pc, hpv⟩ := hT.pls.at (i := i) (p := T.S.pl[i]) (by simp [hlt])
    have hpg : T.S.pl[i]? = some T.S.pl[i] := by simp [hlt]
    have hpm := hm _ (List.getElem_mem hlt)
    refine ⟨by omega, by omega, ?_⟩
    refine .mk (.slice pa T.S.pl[i].length pc) (fun w' hs => ?_) ?_
    · have h1 := stR_row hT (hs.res (k := 1) rfl : _ ∧ _).2
      rw [hva] at h1
      exact h1.at hpv rfl
    refine coF (n := T.S.pl[i].length) (z := 1) (xs := Lib.byteCells T.S.pl[i]) (e := 5) (fun w' hs => by simpa using clone_any _ T.S.pl[i] hpm w' ((stR_ps (hs.res (k := 1) rfl : _ ∧ _).2).1 i _ _ hpv hpg).rd) (fun r hR hfr => ?_)
    refine ydO (L := [rs (stH b1 T)]) (e := se r (Lib.byteCells T.S.pl[i]) 5) hround ⟨T.S.pl[i], r, hpg, rfl, rfl, hR, rfl⟩ (fun w hs k hk => hfr k hk) (fun y' hA' => ?_) (fun y' hA' => ?_)
    · refine cf rfl ?_
      refine .as ((i + 1 : Nat) : Int) (by omega) (by simp only [mn]; omega) (by simp only [mx]; omega) ?_
      exact ⟨(i + 1, y'), ⟨hlt, fun b hb => (hA' b hb).elim (hA b) .inr⟩, by dsimp only; omega, ⟨⟨rfl, rfl, rfl, rfl, trivial⟩, .cons (.cons .nil), rfl⟩⟩
    · refine ct rfl ?_
      exact ⟨fun w1 hs => .inr ⟨y', fin' _ _ _ hs rfl fun b hb => (hA' b hb).elim (hA b) .inr⟩⟩
  · exact ⟨fun w1 hs => .inl ⟨i, y, by omega, fin' _ _ _ hs rfl hA⟩⟩
/-- a nil store, where a box holds it -/
def nlH (b1 : Nat) : Res where
  w := fun _ => False
  r := fun k => k = b1
  p := fun u => u.heap[b1]? = some (.cells #[.pointer none] TPS (0, 0))
  st := fun u v h h1 => (h b1 (.inr rfl)).trans h1
  bd := fun u h1 k hk => by
    rcases hk with hk | rfl
    · exact hk.elim
    · exact (Array.getElem?_eq_some_iff.1 h1).1
set_option maxRecDepth 100000 in
theorem nlall_itr (b1 : Nat) : ItrO Tryz.prog 40 [ptr b1] () (fun _ _ _ _ => False) (fun _ => True) (nlH b1) := by
  refine ⟨fun k α β R S W x0 hR hH hd hround => ?_⟩
  have hst : St [fun k => (R () x0).w k] W W [rs (R () x0), rs (nlH b1)] := by
    refine St.from W _ _ (fun y hy => ?_) ?_
    · simp only [List.mem_cons, List.not_mem_nil, or_false] at hy
      rcases hy with rfl | rfl
      · exact ⟨by simpa using hR, fun k hk => ⟨_, List.mem_singleton.2 rfl, by simpa using hk⟩⟩
      · exact ⟨(rsOk _ _).2 hH, fun k hk => ((rsW _ _).1 hk).elim⟩
    · refine .cons (fun y hy => ?_) (.cons (fun y hy => by simp at hy) .nil)
      obtain rfl : y = rs (nlH b1) := by simpa using hy
      exact fun k => ⟨fun h1 h2 => hd k ((rsA _ _).1 h2) ((rsW _ _).1 h1), fun h1 => ((rsW _ _).1 h1).elim⟩
  refine (enter tab_ok Tryz.func40 rfl Tryz.ntmps40 rfl hst (R := fun v w' => (∃ i y, True ∧ Turns W w' (R () x0) (R i y)) ∨ ∃ y, Turns W w' (R () x0) (S y)) ?_).mono (fun e w' ⟨v, he, h⟩ => ⟨⟨v, he⟩, h⟩)
  refine .mk (.pointer none) (fun w' hs => by have : w'.heap[b1]? = some (.cells #[.pointer none] TPS (0, 0)) := hs.res (k := 1) rfl; simp [World.cell?, this]) ?_
  refine ct rfl ?_
  refine ⟨fun w1 hs => .inl ⟨(), x0, trivial, Turns.of_st hs (fun k hk => by simpa using hk) (hs.res (k := 0) rfl) (fun k hk => .inl hk) (fun k hk => .inl hk)⟩⟩
end Go.Proofs.YteamnhpplclmfaaGreatDoor
end
section
namespace Go.Proofs.YteamnhpplclmfaaGreatDoor
open Go.RowKit Go.Sx
set_option linter.unusedVariables false
theorem perm_ld (bs dk la r ps : Ent) (X : List Ent) : (dk :: la :: X ++ [bs, r, ps]).Perm (bs :: dk :: la :: r :: ps :: X) := by
  refine (List.perm_append_comm (l₁ := dk :: la :: X) (l₂ := [bs, r, ps])).trans ?_
  show ([bs, r, ps, dk, la] ++ X).Perm ([bs, dk, la, r, ps] ++ X)
  exact (List.Perm.cons bs (List.perm_append_comm (l₁ := [r, ps]) (l₂ := [dk, la]))).append_right X
theorem sv_full {n : Nat} {r : Sx.Own} {xs : List Value} (h : Rw 1 n r xs) : ∃ a c, sv r n = .slice a n c ∧ n ≤ c ∧ (∀ x, a = some x → x.spot = none) ∧ ∀ k o, a = some ⟨k, o, none⟩ → ∃ c j, r = some (k, c, j) := by
  cases r with
  | none =>
    have : n = 0 := h.2
    subst this
    exact ⟨none, 0, rfl, Nat.le_refl _, (fun x h => by cases h), (fun k o h => by cases h)⟩
  | some q =>
    obtain ⟨b, c, j⟩ := q
    exact ⟨some ⟨b, 0, none⟩, c, rfl, h.2.1, (fun x h => by obtain rfl := Option.some.inj h; rfl), fun k o h => by injection h with h; injection h with h1 h2 h3; subst h1; exact ⟨c, j, rfl⟩⟩
/-- what a store is behind a segment -/
def ldS (S : Sr) (x : Ld) : Sr := ⟨S.size, x.pl, S.sure, S.last, x.length, S.stuck⟩
def ldX (T : StS) : Ld := ⟨T.k.D, T.S.pl, T.S.length⟩
theorem TurnS.same {T : StS} (hT : StOk T) {w w1 : World} {L : List Ent} {x : Sd} {c : Nat} {u : Value} (hx : x = ⟨T.S, T.k.D⟩) (hu : u = errV c) (hs : St [(stR T).w] w w1 L) (hsub : Sub (stEs T) L) : TurnS T w x c (.returned u) w1 := by
  subst hx
  exact ⟨T, ⟨rfl, rfl, rfl, DkGo.refl _ _⟩, hT, by rw [hu], st_out hs hsub (DkGo.refl _ _)⟩
set_option maxRecDepth 100000 in
set_option maxHeartbeats 2000000 in
theorem load_none (T : StS) (hT : StOk T) (n : Nat) (hn : n ≤ T.S.last) (hlast : T.S.last ≤ 1048576) (hpl : T.S.pl.length ≤ 2199023255552) {q k0 : Nat} (hB : Bd q k0 T.k.D) (hk0 : k0 ≤ 900000) (hq : q ≤ 16777216) (w : World) (h : (stR T).p w)
    (hf : findF (nameS n) T.k.D.files = none) : Calls Tryz.prog 64 ([ptr T.bs, .int .i64 n] : List Value).toArray w (TurnS T w ⟨ldS T.S (loadD (ldX T) T.S.last n).1, (loadD (ldX T) T.S.last n).1.D⟩ (loadD (ldX T) T.S.last n).2) := by
  refine (enter tab_ok Tryz.func64 rfl Tryz.ntmps64 rfl (mres_in h) (R := fun v w' => TurnS T w ⟨ldS T.S (loadD (ldX T) T.S.last n).1, (loadD (ldX T) T.S.last n).1.D⟩ (loadD (ldX T) T.S.last n).2 (.returned v) w') ?_).mono (fun e w' ⟨u, he, h1⟩ => by rw [he]; exact h1)
  obtain ⟨va, vc, hva⟩ := sv_sl hT.row
  intro b2
  refine cvs (fun w1 hs => name_any n (by omega) w1 (hs.res (k := 2) rfl)) ?_
  intro b5
  refine s1 6 rfl (by show 0 < 1; decide) ?_
  refine ld1 5 rfl rfl ?_
  refine ld1 6 rfl rfl ?_
  refine cvs (fun w1 hs => hasS_any T.k (nameS n) (hs.nth (k := 0) rfl) (hs.res (k := 1) rfl)) ?_
  rw [show hasD T.k.D (nameS n) = (findF (nameS n) T.k.D.files).isSome from rfl, hf]
  have e1 : loadD (ldX T) T.S.last n = (ldX T, if n < T.S.last then 6 else 0) := by unfold loadD; rw [show (ldX T).D = T.k.D from rfl, hf]
  rw [e1]
  refine ct rfl ?_
  refine ld1 5 rfl rfl ?_
  refine ld1 0 rfl rfl ?_
  refine cd (fun h => ?_) (fun h => ?_)
  · rw [if_pos (show n < T.S.last by omega)]
    exact ⟨fun w1 hs => .same hT rfl rfl hs (.cons (.cons (.cons (.cons (.cons (.drop (.drop .nil)))))))⟩
  · rw [if_neg (show ¬ n < T.S.last by omega)]
    exact ⟨fun w1 hs => .same hT rfl rfl hs (.cons (.cons (.cons (.cons (.cons (.drop (.drop .nil)))))))⟩
set_option maxRecDepth 100000 in
set_option maxHeartbeats 2000000 in
theorem load_gone (T : StS) (hT : StOk T) (n : Nat) (hn : n ≤ T.S.last) (hlast : T.S.last ≤ 1048576) (hpl : T.S.pl.length ≤ 2199023255552) {q k0 : Nat} (hB : Bd q k0 T.k.D) (hk0 : k0 ≤ 900000) (hq : q ≤ 16777216) (w : World) (h : (stR T).p w)
    {f : Fe} (hf : findF (nameS n) T.k.D.files = some f) (hg : T.k.D.gone = true) : Calls Tryz.prog 64 ([ptr T.bs, .int .i64 n] : List Value).toArray w (TurnS T w ⟨ldS T.S (loadD (ldX T) T.S.last n).1, (loadD (ldX T) T.S.last n).1.D⟩ (loadD (ldX T) T.S.last n).2) := by
  refine (enter tab_ok Tryz.func64 rfl Tryz.ntmps64 rfl (mres_in h) (R := fun v w' => TurnS T w ⟨ldS T.S (loadD (ldX T) T.S.last n).1, (loadD (ldX T) T.S.last n).1.D⟩ (loadD (ldX T) T.S.last n).2 (.returned v) w') ?_).mono (fun e w' ⟨u, he, h1⟩ => by rw [he]; exact h1)
  obtain ⟨va, vc, hva⟩ := sv_sl hT.row
  intro b2
  refine cvs (fun w1 hs => name_any n (by omega) w1 (hs.res (k := 2) rfl)) ?_
  intro b5
  refine s1 6 rfl (by show 0 < 1; decide) ?_
  refine ld1 5 rfl rfl ?_
  refine ld1 6 rfl rfl ?_
  refine cvs (fun w1 hs => hasS_any T.k (nameS n) (hs.nth (k := 0) rfl) (hs.res (k := 1) rfl)) ?_
  rw [show hasD T.k.D (nameS n) = (findF (nameS n) T.k.D.files).isSome from rfl, hf]
  have e0 : loadD (ldX T) T.S.last n = if T.k.D.gone = true then (ldX T, 4)
    else if n < T.S.last then (if wholeP f.bs < f.bs.length then (ldX T, 6) else (⟨T.k.D, T.S.pl ++ recsP f.bs, T.S.length⟩, 0))
    else (⟨(thenD (if wholeP f.bs < f.bs.length then cutD T.k.D (nameS n) (wholeP f.bs : Nat) else (T.k.D, 0)) fun D => syncD D (nameS n)).1, T.S.pl ++ recsP f.bs, wholeP f.bs⟩, (thenD (if wholeP f.bs < f.bs.length then cutD T.k.D (nameS n) (wholeP f.bs : Nat) else (T.k.D, 0)) fun D => syncD D (nameS n)).2) := by
    unfold loadD; rw [show (ldX T).D = T.k.D from rfl, hf]; rfl
  have hfz := hB.f.z f (findF_mem hf).1
  have hfl : f.bs.length ≤ 16777216 := by
    have h1 := hB.f.q
    have h2 : f.bs.length ≤ usedD T.k.D.files := by unfold usedD; exact le_sum (List.mem_map_of_mem (f := fun f : Fe => f.bs.length) (findF_mem hf).1)
    omega
  refine cf rfl ?_
  refine dr [cl T.bs (stC T.S T.k.bd (sv T.r T.S.pl.length)) TS, rs (dkR T.k), rs laidR, dead, dead, cl b2 #[ptr T.bs] TPS, cl b5 #[VS (nameS n)] 9] 99 (.t 0 (.t 1 (.t 2 (.t 3 (.t 4 (.n 5 (.n 6 (.t 7 (.t 8 (.t 9 (.t 10 .nil))))))))))) tab_ok mixed_ok (by kernel_rfl) (.cons (.cons (.cons (.dead (.dead (.cons (.cons .nil))))))) ?_
  refine ld1 5 rfl rfl ?_
  refine ld1 0 rfl rfl ?_
  refine ld1 6 rfl rfl ?_
  refine coV (fun v => .tuple #[v, errV (readD T.k.D (nameS n)).2]) (fun w1 hs => read_any T.k (nameS n) w1 (hs.res (k := 1) rfl)) (fun rb hRb => ?_)
  iterate 2 refine ⟨(.cons (.cons (.cons (.dead (.dead (.cons (.cons .nil))))))), ?_⟩
  have e1 : readD T.k.D (nameS n) = ([], 4) := if_pos hg
  rw [e1] at hRb ⊢
  rw [e0, if_pos hg]
  refine ct rfl ?_
  exact ⟨fun w1 hs => .same hT rfl rfl hs (.cons (.cons (.cons (.cons (.cons (.drop (.drop (.drop .nil))))))))⟩
end Go.Proofs.YteamnhpplclmfaaGreatDoor
end
section
namespace Go.Proofs.YteamnhpplclmfaaGreatDoor
open Go.RowKit Go.Sx
set_option linter.unusedVariables false
/-- behind so many records of a segment -/
structure Rx where
  r : Sx.Own
  vs : List Value
  rr : Nat → Prop
def ldE (T : StS) (ps : List Bs) (x : Rx) : List Ent := [cl T.bs (stC (ldS T.S ⟨T.k.D, T.S.pl ++ ps, T.S.length⟩) T.k.bd (sv x.r (T.S.pl ++ ps).length)) TS, se x.r x.vs TB, rs (bgR x.rr x.vs (T.S.pl ++ ps))]
structure RxOk (T : StS) (B : World) (l : Bs) (ps : List Bs) (x : Rx) : Prop where
  a : ps ++ recsP (l.drop (wholeL ps)) = recsP l
  n : wholeL ps ≤ l.length
  row : Rw 1 (T.S.pl ++ ps).length x.r x.vs
  pls : Pls x.vs (T.S.pl ++ ps)
theorem whole_len (ps : List Bs) : 8 * ps.length ≤ wholeL ps := by
  induction ps with
  | nil => simp [wholeL]
  | cons p ps ih => rw [whole_cons, List.length_cons]; omega
set_option maxRecDepth 100000 in
set_option maxHeartbeats 4000000 in
theorem load_mid (T : StS) (hT : StOk T) (n : Nat) (hn : n ≤ T.S.last) (hlast : T.S.last ≤ 1048576) (hpl : T.S.pl.length ≤ 2199023255552) {q k0 : Nat} (hB : Bd q k0 T.k.D) (hk0 : k0 ≤ 900000) (hq : q ≤ 16777216) (w : World) (h : (stR T).p w)
    {f : Fe} (hf : findF (nameS n) T.k.D.files = some f) (hg : T.k.D.gone = false) (hnl : n < T.S.last) : Calls Tryz.prog 64 ([ptr T.bs, .int .i64 n] : List Value).toArray w (TurnS T w ⟨ldS T.S (loadD (ldX T) T.S.last n).1, (loadD (ldX T) T.S.last n).1.D⟩ (loadD (ldX T) T.S.last n).2) := by
  refine (enter tab_ok Tryz.func64 rfl Tryz.ntmps64 rfl (mres_in h) (R := fun v w' => TurnS T w ⟨ldS T.S (loadD (ldX T) T.S.last n).1, (loadD (ldX T) T.S.last n).1.D⟩ (loadD (ldX T) T.S.last n).2 (.returned v) w') ?_).mono (fun e w' ⟨u, he, h1⟩ => by rw [he]; exact h1)
  obtain ⟨va, vc, hva⟩ := sv_sl hT.row
  intro b2
  refine cvs (fun w1 hs => name_any n (by omega) w1 (hs.res (k := 2) rfl)) ?_
  intro b5
  refine s1 6 rfl (by show 0 < 1; decide) ?_
  refine ld1 5 rfl rfl ?_
  refine ld1 6 rfl rfl ?_
  refine cvs (fun w1 hs => hasS_any T.k (nameS n) (hs.nth (k := 0) rfl) (hs.res (k := 1) rfl)) ?_
  rw [show hasD T.k.D (nameS n) = (findF (nameS n) T.k.D.files).isSome from rfl, hf]
  have e0 : loadD (ldX T) T.S.last n = if T.k.D.gone = true then (ldX T, 4)
    else if n < T.S.last then (if wholeP f.bs < f.bs.length then (ldX T, 6) else (⟨T.k.D, T.S.pl ++ recsP f.bs, T.S.length⟩, 0))
    else (⟨(thenD (if wholeP f.bs < f.bs.length then cutD T.k.D (nameS n) (wholeP f.bs : Nat) else (T.k.D, 0)) fun D => syncD D (nameS n)).1, T.S.pl ++ recsP f.bs, wholeP f.bs⟩, (thenD (if wholeP f.bs < f.bs.length then cutD T.k.D (nameS n) (wholeP f.bs : Nat) else (T.k.D, 0)) fun D => syncD D (nameS n)).2) := by
    unfold loadD; rw [show (ldX T).D = T.k.D from rfl, hf]; rfl
  have hfz := hB.f.z f (findF_mem hf).1
  have hfl : f.bs.length ≤ 16777216 := by
    have h1 := hB.f.q
    have h2 : f.bs.length ≤ usedD T.k.D.files := by unfold usedD; exact le_sum (List.mem_map_of_mem (f := fun f : Fe => f.bs.length) (findF_mem hf).1)
    omega
  refine cf rfl ?_
  refine dr [cl T.bs (stC T.S T.k.bd (sv T.r T.S.pl.length)) TS, rs (dkR T.k), rs laidR, dead, dead, cl b2 #[ptr T.bs] TPS, cl b5 #[VS (nameS n)] 9] 99 (.t 0 (.t 1 (.t 2 (.t 3 (.t 4 (.n 5 (.n 6 (.t 7 (.t 8 (.t 9 (.t 10 .nil))))))))))) tab_ok mixed_ok (by kernel_rfl) (.cons (.cons (.cons (.dead (.dead (.cons (.cons .nil))))))) ?_
  refine ld1 5 rfl rfl ?_
  refine ld1 0 rfl rfl ?_
  refine ld1 6 rfl rfl ?_
  refine coV (fun v => .tuple #[v, errV (readD T.k.D (nameS n)).2]) (fun w1 hs => read_any T.k (nameS n) w1 (hs.res (k := 1) rfl)) (fun rb hRb => ?_)
  iterate 2 refine ⟨(.cons (.cons (.cons (.dead (.dead (.cons (.cons .nil))))))), ?_⟩
  have er : readD T.k.D (nameS n) = (f.bs, 0) := by unfold readD; rw [if_neg (by rw [hg]; decide), hf]
  rw [er] at hRb ⊢
  rw [if_neg (by rw [hg]; decide), if_pos hnl] at e0
  obtain ⟨a, c, hsv, hac, hsp, hbk⟩ := sv_full hRb
  dsimp only at hsv hRb ⊢
  rw [hsv]
  refine cf rfl ?_
  refine cvs (fun w1 hs => whole_any a f.bs c hac hfl hsp w1 (by rw [← hsv]; exact Rd.own hs 7 rfl hRb)) ?_
  intro b8
  refine s1 8 rfl (by show 0 < 1; decide) ?_
  refine ld1 5 rfl rfl ?_
  refine ld1 0 rfl rfl ?_
  have d1 : decide ((n : Int) < (T.S.last : Int)) = true := decide_eq_true (by omega)
  have d2 : (decide ((n : Int) < (T.S.last : Int)) == true) = true := by rw [d1]; rfl
  refine ct d2 ?_
  refine ld1 8 rfl rfl ?_
  iterate 3 refine ct d2 ?_
  refine ct d1 ?_
  by_cases hw : wholeP f.bs < f.bs.length
  · rw [if_pos hw] at e0
    rw [e0]
    refine ct (decide_eq_true (by omega)) ?_
    exact ⟨fun w1 hs => .same hT rfl rfl hs (.cons (.cons (.cons (.cons (.cons (.drop (.drop (.drop (.drop .nil)))))))))⟩
  rw [if_neg hw] at e0
  rw [e0]
  refine cf (decide_eq_false (by omega)) ?_
  refine inl (C := ⟨Tryz.prog, tab, _, [(stR T).w], w, _⟩) tab_ok Tryz.func106 rfl Tryz.ntmps106 rfl ?_
  intro b3
  refine bk ?_
  refine rfiO (C := ⟨Tryz.prog, tab, 86, [(stR T).w], w, none⟩) (L0 := [rs (dkR T.k), rs laidR, cl b2 #[ptr T.bs] TPS, cl b5 #[VS (nameS n)] 9, se rb (Lib.byteCells f.bs) 5, cl b8 #[.int .i64 (wholeP f.bs : Nat)] 3, cl b3 #[.slice a f.bs.length c] TB]) (α := Rx) (β := Empty) tab_ok rfl rfl rfl
    (all_itr b3 a c f.bs hac hfl hsp) (RxOk T w f.bs) (ldE T) (fun y => y.elim) (fun y => y.elim) ⟨T.r, T.vs, T.rr⟩ ⟨rfl, Nat.zero_le _, by rw [List.append_nil]; exact hT.row, by rw [List.append_nil]; exact hT.pls⟩ ?_
    (fun w' hs' => ⟨⟨hs'.nth (k := 6) rfl, by rw [← hsv]; exact Rd.own hs' 4 rfl hRb⟩, ?_⟩) ?_ ?_ ?_ ?_
  · unfold ldE
    rw [List.append_nil]
    exact perm_ld _ _ _ _ _ _
  · rintro x (hx | hx | ⟨hx, o, ho⟩) e he hw
    · exact hx.elim
    · subst hx
      simp only [ldE, List.mem_cons, List.not_mem_nil, or_false] at he
      rcases he with rfl | rfl | rfl
      · exact (pw_ne hs'.apart (i := 7) (j := 6) rfl rfl (by decide) _).1 hw (by simp)
      · exact (pw_ne hs'.apart (i := 8) (j := 6) rfl rfl (by decide) _).1 hw (by simp)
      · exact (pw_ne hs'.apart (i := 9) (j := 6) rfl rfl (by decide) _).1 hw (by simp)
    · obtain ⟨cc, jj, rfl⟩ := hbk x o ho
      simp only [ldE, List.mem_cons, List.not_mem_nil, or_false] at he
      rcases he with rfl | rfl | rfl
      · exact (pw_ne hs'.apart (i := 7) (j := 4) rfl rfl (by decide) _).1 hw (by simp [se])
      · exact (pw_ne hs'.apart (i := 8) (j := 4) rfl rfl (by decide) _).1 hw (by simp [se])
      · exact (pw_ne hs'.apart (i := 9) (j := 4) rfl rfl (by decide) _).1 hw (by simp [se])
  · rintro i args q j ⟨p, r, _, rfl, _⟩; rfl
  · rintro lq ps args q ps' x w' ready busy ⟨p, rp, hfp, rfl, rfl, hRp, rfl⟩ hx
    have hl := first_len hfp
    rw [List.length_drop] at hl
    have hxa := hx.a
    have hwl := whole_len ps
    have hxn := hx.n
    obtain ⟨pa, pc, hpv⟩ := sv_sl hRp
    obtain ⟨xa, xc, hxv⟩ := sv_sl hx.row
    rw [hpv]
    refine ⟨rfl, ?_⟩
    refine dr [dead, dead, cr b2 #[ptr T.bs] TPS, dead, dead, dead, dead, cl T.bs (stC (ldS T.S ⟨T.k.D, T.S.pl ++ ps, T.S.length⟩) T.k.bd (sv x.r (T.S.pl ++ ps).length)) TS] 10 (.t 0 (.t 1 (.t 2 (.t 3 (.t 4 (.t 5 (.n 6 (.n 7 (.n 8 (.n 9 (.n 10 .nil))))))))))) tab_ok mixed_ok (by kernel_rfl) (.dead (.dead (.cons (.dead (.dead (.dead (.dead (.cons (.drop (.drop (.drop (.drop .nil)))))))))))) ?_
    refine ld1 2 rfl rfl ?_
    refine ld1 2 rfl rfl ?_
    refine ld1 7 rfl rfl ?_
    refine .mk _ _ (bsS1 _ _ _) (fun b12 => ?_)
    refine ⟨(.dead (.dead (.cons (.dead (.dead (.dead (.dead (.cons (.drop (.drop (.drop (.drop .nil)))))))))))), ?_⟩
    have hlen : (T.S.pl ++ (ps ++ [p])).length = (T.S.pl ++ ps).length + 1 := by simp; omega
    refine biImp (next' := fun v L' => ∃ r', Rw 1 ((T.S.pl ++ ps).length + 1) r' (x.vs ++ [.slice pa p.length pc]) ∧ v = sv r' ((T.S.pl ++ ps).length + 1) ∧ L' = [(rs (dkR T.k)).rd, (rs laidR).rd, cr b2 #[ptr T.bs] TPS, cr b5 #[VS (nameS n)] 9, (se rb (Lib.byteCells f.bs) 5).rd, cr b8 #[.int .i64 (wholeP f.bs : Nat)] 3, cr b3 #[.slice a f.bs.length c] TB, cl T.bs (stC (ldS T.S ⟨T.k.D, T.S.pl ++ ps, T.S.length⟩) T.k.bd (sv x.r (T.S.pl ++ ps).length)) TS, se r' (x.vs ++ [.slice pa p.length pc]) TB, rs (bgR x.rr x.vs (T.S.pl ++ ps)), se rp (Lib.byteCells p) 5, ⟨lq, some busy, false, none⟩, cl b12 #[.slice pa p.length pc] TB])
      (ap1 8 12 tab_ok rfl infoS rfl rfl hx.row rfl rfl (by rw [List.length_append]; omega) (by rw [List.length_append]; unfold maxLen; omega) (fun r' hr' => ⟨r', hr', rfl, rfl⟩)) ?_
    rintro v L' ⟨r', hr', rfl, rfl⟩
    refine ⟨_, fun w2 hs => ps_add (t := 5) hs (k := 9) (j := 10) rfl rfl (by decide) hRp hx.pls.len, ?_⟩
    iterate 3 refine ⟨(.dead (.dead (.cons (.dead (.dead (.dead (.dead (.cons (.drop (.drop (.drop (.drop .nil)))))))))))), ?_⟩
    refine s1 7 rfl (by show 2 < 7; decide) ?_ (h1 := by cases r' <;> rfl) (hv := by cases r' <;> rfl)
    refine ⟨⟨r', x.vs ++ [.slice pa p.length pc], fun i => x.rr i ∨ rowB rp i⟩, ⟨ahead hx.a hfp, by rw [whole_app]; omega, by rw [hlen]; exact hr', by rw [← List.append_assoc]; exact hx.pls.snoc ⟨pa, pc, rfl⟩⟩, ?_, fun e he b hb hnw => ?_⟩
    · unfold ldE
      rw [hlen, ← List.append_assoc]
      rw [hpv]
      exact (.drop (.drop (.drop (.drop (.drop (.drop (.drop (.cons (.cons (.cons (.drop (.cons (.drop .nil)))))))))))))
    · simp only [ldE, List.mem_cons, List.not_mem_nil, or_false] at he
      rcases he with rfl | rfl | rfl
      · exact cl_A (p := fun b => _) b hb hnw
      · exact se_A (p := fun b => _) b hb hnw
      · exact bg_A (p := fun b => _) b hb hnw
  · rintro ps y b0 hf' hy
    have hps : ps = recsP f.bs := by have := hy.a; rw [recs_none hf', List.append_nil] at this; exact this
    subst hps
    refine ld1 2 rfl rfl ?_
    refine ld1 7 rfl rfl ?_
    refine ct (decide_eq_true (show (n : Int) < T.S.last by omega)) ?_
    refine .mk 10 rfl ?_
    refine ⟨fun w1 hs => ?_⟩
    have h2 := (hs.sub (L' := [rs (dkR T.k), rs laidR, cl T.bs (stC (ldS T.S ⟨T.k.D, T.S.pl ++ recsP f.bs, T.S.length⟩) T.k.bd (sv y.r (T.S.pl ++ recsP f.bs).length)) TS, se y.r y.vs TB, rs (bgR y.rr y.vs (T.S.pl ++ recsP f.bs))]) (.cons (.cons (.drop (.drop (.drop (.drop (.drop (.cons (.cons (.cons (.drop .nil)))))))))))).perm (perm_ld _ _ _ _ _ []).symm
    exact ⟨⟨ldS T.S ⟨T.k.D, T.S.pl ++ recsP f.bs, T.S.length⟩, T.k, T.bs, y.r, y.vs, y.rr⟩, ⟨rfl, rfl, rfl, DkGo.refl _ _⟩, ⟨hy.row, hy.pls⟩, rfl, st_out h2 (Sub.refl _) (DkGo.refl _ _)⟩
  · intro y; exact y.elim
end Go.Proofs.YteamnhpplclmfaaGreatDoor
end
section
namespace Go.Proofs.YteamnhpplclmfaaGreatDoor
open Go.RowKit Go.Sx
set_option linter.unusedVariables false
set_option maxRecDepth 100000 in
set_option maxHeartbeats 4000000 in
theorem load_last (T : StS) (hT : StOk T) (n : Nat) (hn : n ≤ T.S.last) (hlast : T.S.last ≤ 1048576) (hpl : T.S.pl.length ≤ 2199023255552) {q k0 : Nat} (hB : Bd q k0 T.k.D) (hk0 : k0 ≤ 900000) (hq : q ≤ 16777216) (w : World) (h : (stR T).p w)
    {f : Fe} (hf : findF (nameS n) T.k.D.files = some f) (hg : T.k.D.gone = false) (hnl : n = T.S.last) : Calls Tryz.prog 64 ([ptr T.bs, .int .i64 n] : List Value).toArray w (TurnS T w ⟨ldS T.S (loadD (ldX T) T.S.last n).1, (loadD (ldX T) T.S.last n).1.D⟩ (loadD (ldX T) T.S.last n).2) := by
  refine (enter tab_ok Tryz.func64 rfl Tryz.ntmps64 rfl (mres_in h) (R := fun v w' => TurnS T w ⟨ldS T.S (loadD (ldX T) T.S.last n).1, (loadD (ldX T) T.S.last n).1.D⟩ (loadD (ldX T) T.S.last n).2 (.returned v) w') ?_).mono (fun e w' ⟨u, he, h1⟩ => by rw [he]; exact h1)
  obtain ⟨va, vc, hva⟩ := sv_sl hT.row
  intro b2
  refine cvs (fun w1 hs => name_any n (by omega) w1 (hs.res (k := 2) rfl)) ?_
  intro b5
  refine s1 6 rfl (by show 0 < 1; decide) ?_
  refine ld1 5 rfl rfl ?_
  refine ld1 6 rfl rfl ?_
  refine cvs (fun w1 hs => hasS_any T.k (nameS n) (hs.nth (k := 0) rfl) (hs.res (k := 1) rfl)) ?_
  rw [show hasD T.k.D (nameS n) = (findF (nameS n) T.k.D.files).isSome from rfl, hf]
  have e0 : loadD (ldX T) T.S.last n = if T.k.D.gone = true then (ldX T, 4)
    else if n < T.S.last then (if wholeP f.bs < f.bs.length then (ldX T, 6) else (⟨T.k.D, T.S.pl ++ recsP f.bs, T.S.length⟩, 0))
    else (⟨(thenD (if wholeP f.bs < f.bs.length then cutD T.k.D (nameS n) (wholeP f.bs : Nat) else (T.k.D, 0)) fun D => syncD D (nameS n)).1, T.S.pl ++ recsP f.bs, wholeP f.bs⟩, (thenD (if wholeP f.bs < f.bs.length then cutD T.k.D (nameS n) (wholeP f.bs : Nat) else (T.k.D, 0)) fun D => syncD D (nameS n)).2) := by
    unfold loadD; rw [show (ldX T).D = T.k.D from rfl, hf]; rfl
  have hfz := hB.f.z f (findF_mem hf).1
  have hfl : f.bs.length ≤ 16777216 := by
    have h1 := hB.f.q
    have h2 : f.bs.length ≤ usedD T.k.D.files := by unfold usedD; exact le_sum (List.mem_map_of_mem (f := fun f : Fe => f.bs.length) (findF_mem hf).1)
    omega
  refine cf rfl ?_
  refine dr [cl T.bs (stC T.S T.k.bd (sv T.r T.S.pl.length)) TS, rs (dkR T.k), rs laidR, dead, dead, cl b2 #[ptr T.bs] TPS, cl b5 #[VS (nameS n)] 9] 99 (.t 0 (.t 1 (.t 2 (.t 3 (.t 4 (.n 5 (.n 6 (.t 7 (.t 8 (.t 9 (.t 10 .nil))))))))))) tab_ok mixed_ok (by kernel_rfl) (.cons (.cons (.cons (.dead (.dead (.cons (.cons .nil))))))) ?_
  refine ld1 5 rfl rfl ?_
  refine ld1 0 rfl rfl ?_
  refine ld1 6 rfl rfl ?_
  refine coV (fun v => .tuple #[v, errV (readD T.k.D (nameS n)).2]) (fun w1 hs => read_any T.k (nameS n) w1 (hs.res (k := 1) rfl)) (fun rb hRb => ?_)
  iterate 2 refine ⟨(.cons (.cons (.cons (.dead (.dead (.cons (.cons .nil))))))), ?_⟩
  have er : readD T.k.D (nameS n) = (f.bs, 0) := by unfold readD; rw [if_neg (by rw [hg]; decide), hf]
  rw [er] at hRb ⊢
  rw [if_neg (by rw [hg]; decide), if_neg (by omega)] at e0
  obtain ⟨a, c, hsv, hac, hsp, hbk⟩ := sv_full hRb
  dsimp only at hsv hRb ⊢
  rw [hsv]
  refine cf rfl ?_
  refine cvs (fun w1 hs => whole_any a f.bs c hac hfl hsp w1 (by rw [← hsv]; exact Rd.own hs 7 rfl hRb)) ?_
  intro b8
  refine s1 8 rfl (by show 0 < 1; decide) ?_
  refine ld1 5 rfl rfl ?_
  refine ld1 0 rfl rfl ?_
  have d1 : decide ((n : Int) < (T.S.last : Int)) = false := decide_eq_false (by omega)
  have d2 : (decide ((n : Int) < (T.S.last : Int)) == true) = false := by rw [d1]; rfl
  iterate 4 refine cf d2 ?_
  refine cf d1 ?_
  refine cf rfl ?_
  rw [e0]
  refine inl (C := ⟨Tryz.prog, tab, _, [(stR T).w], w, _⟩) tab_ok Tryz.func106 rfl Tryz.ntmps106 rfl ?_
  intro b3
  refine bk ?_
  refine rfiO (C := ⟨Tryz.prog, tab, 86, [(stR T).w], w, none⟩) (L0 := [rs (dkR T.k), rs laidR, cl b2 #[ptr T.bs] TPS, cl b5 #[VS (nameS n)] 9, se rb (Lib.byteCells f.bs) 5, cl b8 #[.int .i64 (wholeP f.bs : Nat)] 3, cl b3 #[.slice a f.bs.length c] TB]) (α := Rx) (β := Empty) tab_ok rfl rfl rfl
    (all_itr b3 a c f.bs hac hfl hsp) (RxOk T w f.bs) (ldE T) (fun y => y.elim) (fun y => y.elim) ⟨T.r, T.vs, T.rr⟩ ⟨rfl, Nat.zero_le _, by rw [List.append_nil]; exact hT.row, by rw [List.append_nil]; exact hT.pls⟩ ?_
    (fun w' hs' => ⟨⟨hs'.nth (k := 6) rfl, by rw [← hsv]; exact Rd.own hs' 4 rfl hRb⟩, ?_⟩) ?_ ?_ ?_ ?_
  · unfold ldE
    rw [List.append_nil]
    exact perm_ld _ _ _ _ _ _
  · rintro x (hx | hx | ⟨hx, o, ho⟩) e he hw
    · exact hx.elim
    · subst hx
      simp only [ldE, List.mem_cons, List.not_mem_nil, or_false] at he
      rcases he with rfl | rfl | rfl
      · exact (pw_ne hs'.apart (i := 7) (j := 6) rfl rfl (by decide) _).1 hw (by simp)
      · exact (pw_ne hs'.apart (i := 8) (j := 6) rfl rfl (by decide) _).1 hw (by simp)
      · exact (pw_ne hs'.apart (i := 9) (j := 6) rfl rfl (by decide) _).1 hw (by simp)
    · obtain ⟨cc, jj, rfl⟩ := hbk x o ho
      simp only [ldE, List.mem_cons, List.not_mem_nil, or_false] at he
      rcases he with rfl | rfl | rfl
      · exact (pw_ne hs'.apart (i := 7) (j := 4) rfl rfl (by decide) _).1 hw (by simp [se])
      · exact (pw_ne hs'.apart (i := 8) (j := 4) rfl rfl (by decide) _).1 hw (by simp [se])
      · exact (pw_ne hs'.apart (i := 9) (j := 4) rfl rfl (by decide) _).1 hw (by simp [se])
  · rintro i args q j ⟨p, r, _, rfl, _⟩; rfl
  · rintro lq ps args q ps' x w' ready busy ⟨p, rp, hfp, rfl, rfl, hRp, rfl⟩ hx
    have hl := first_len hfp
    rw [List.length_drop] at hl
    have hxa := hx.a
    have hwl := whole_len ps
    have hxn := hx.n
    obtain ⟨pa, pc, hpv⟩ := sv_sl hRp
    obtain ⟨xa, xc, hxv⟩ := sv_sl hx.row
    rw [hpv]
    refine ⟨rfl, ?_⟩
    refine dr [dead, dead, cr b2 #[ptr T.bs] TPS, dead, dead, dead, dead, cl T.bs (stC (ldS T.S ⟨T.k.D, T.S.pl ++ ps, T.S.length⟩) T.k.bd (sv x.r (T.S.pl ++ ps).length)) TS] 10 (.t 0 (.t 1 (.t 2 (.t 3 (.t 4 (.t 5 (.n 6 (.n 7 (.n 8 (.n 9 (.n 10 .nil))))))))))) tab_ok mixed_ok (by kernel_rfl) (.dead (.dead (.cons (.dead (.dead (.dead (.dead (.cons (.drop (.drop (.drop (.drop .nil)))))))))))) ?_
    refine ld1 2 rfl rfl ?_
    refine ld1 2 rfl rfl ?_
    refine ld1 7 rfl rfl ?_
    refine .mk _ _ (bsS1 _ _ _) (fun b12 => ?_)
    refine ⟨(.dead (.dead (.cons (.dead (.dead (.dead (.dead (.cons (.drop (.drop (.drop (.drop .nil)))))))))))), ?_⟩
    have hlen : (T.S.pl ++ (ps ++ [p])).length = (T.S.pl ++ ps).length + 1 := by simp; omega
    refine biImp (next' := fun v L' => ∃ r', Rw 1 ((T.S.pl ++ ps).length + 1) r' (x.vs ++ [.slice pa p.length pc]) ∧ v = sv r' ((T.S.pl ++ ps).length + 1) ∧ L' = [(rs (dkR T.k)).rd, (rs laidR).rd, cr b2 #[ptr T.bs] TPS, cr b5 #[VS (nameS n)] 9, (se rb (Lib.byteCells f.bs) 5).rd, cr b8 #[.int .i64 (wholeP f.bs : Nat)] 3, cr b3 #[.slice a f.bs.length c] TB, cl T.bs (stC (ldS T.S ⟨T.k.D, T.S.pl ++ ps, T.S.length⟩) T.k.bd (sv x.r (T.S.pl ++ ps).length)) TS, se r' (x.vs ++ [.slice pa p.length pc]) TB, rs (bgR x.rr x.vs (T.S.pl ++ ps)), se rp (Lib.byteCells p) 5, ⟨lq, some busy, false, none⟩, cl b12 #[.slice pa p.length pc] TB])
      (ap1 8 12 tab_ok rfl infoS rfl rfl hx.row rfl rfl (by rw [List.length_append]; omega) (by rw [List.length_append]; unfold maxLen; omega) (fun r' hr' => ⟨r', hr', rfl, rfl⟩)) ?_
    rintro v L' ⟨r', hr', rfl, rfl⟩
    refine ⟨_, fun w2 hs => ps_add (t := 5) hs (k := 9) (j := 10) rfl rfl (by decide) hRp hx.pls.len, ?_⟩
    iterate 3 refine ⟨(.dead (.dead (.cons (.dead (.dead (.dead (.dead (.cons (.drop (.drop (.drop (.drop .nil)))))))))))), ?_⟩
    refine s1 7 rfl (by show 2 < 7; decide) ?_ (h1 := by cases r' <;> rfl) (hv := by cases r' <;> rfl)
    refine ⟨⟨r', x.vs ++ [.slice pa p.length pc], fun i => x.rr i ∨ rowB rp i⟩, ⟨ahead hx.a hfp, by rw [whole_app]; omega, by rw [hlen]; exact hr', by rw [← List.append_assoc]; exact hx.pls.snoc ⟨pa, pc, rfl⟩⟩, ?_, fun e he b hb hnw => ?_⟩
    · unfold ldE
      rw [hlen, ← List.append_assoc]
      rw [hpv]
      exact (.drop (.drop (.drop (.drop (.drop (.drop (.drop (.cons (.cons (.cons (.drop (.cons (.drop .nil)))))))))))))
    · simp only [ldE, List.mem_cons, List.not_mem_nil, or_false] at he
      rcases he with rfl | rfl | rfl
      · exact cl_A (p := fun b => _) b hb hnw
      · exact se_A (p := fun b => _) b hb hnw
      · exact bg_A (p := fun b => _) b hb hnw
  · rintro ps y b0 hf' hy
    have hps : ps = recsP f.bs := by have := hy.a; rw [recs_none hf', List.append_nil] at this; exact this
    subst hps
    refine ld1 2 rfl rfl ?_
    refine ld1 7 rfl rfl ?_
    refine cf (decide_eq_false (show ¬ (n : Int) < T.S.last by omega)) ?_
    refine ld1 2 rfl rfl ?_
    refine ld1 5 rfl rfl ?_
    refine s1e 7 (stC (ldS T.S ⟨T.k.D, T.S.pl ++ recsP f.bs, wholeP f.bs⟩) T.k.bd (sv y.r (T.S.pl ++ recsP f.bs).length)) rfl (by show 5 < 7; decide) rfl ?_
    intro bw
    refine ld1 5 rfl rfl ?_
    by_cases hw : wholeP f.bs < f.bs.length
    · rw [if_pos hw]
      refine ct (decide_eq_true (show ((wholeP f.bs : Nat) : Int) < (f.bs.length : Int) by omega)) ?_
      refine doK 11 0 (c := 0) (fun D => cutD D (nameS n) (wholeP f.bs : Nat)) (fun K' v => [rs (dkR K'), rs laidR, cl b2 #[ptr T.bs] TPS, cl b5 #[VS (nameS n)] 9, se rb (Lib.byteCells f.bs) 5, cl b8 #[.int .i64 (wholeP f.bs : Nat)] 3, cl b3 #[.slice a f.bs.length c] TB, cl T.bs (stC (ldS T.S ⟨T.k.D, T.S.pl ++ recsP f.bs, wholeP f.bs⟩) T.k.bd (sv y.r (T.S.pl ++ recsP f.bs).length)) TS, se y.r y.vs TB, rs (bgR y.rr y.vs (T.S.pl ++ recsP f.bs)), ⟨b0, some (.deferred (some [])), false, none⟩, cl bw #[v] TW]) rfl rfl (by decide) rfl (fun _ => ?_) (fun K' v => rfl) (fun K1 h1 g1 => ?_)
      · refine inl (C := ⟨Tryz.prog, tab, 14, [_], w, none⟩) tab_ok Tryz.func109 rfl Tryz.ntmps109 rfl ?_
        refine drs [rs (dkR T.k), dead, cl b2 #[ptr T.bs] TPS, cl b5 #[VS (nameS n)] 9, dead, cl b8 #[.int .i64 (wholeP f.bs : Nat)] 3, dead, cl T.bs (stC (ldS T.S ⟨T.k.D, T.S.pl ++ recsP f.bs, wholeP f.bs⟩) T.k.bd (sv y.r (T.S.pl ++ recsP f.bs).length)) TS] [6, 7] (.t 0 (.t 1 (.t 2 (.t 3 (.t 4 (.t 5 (.n 6 (.n 7 .nil)))))))) tab_ok mixed_ok (by kernel_rfl) (.cons (.dead (.cons (.cons (.dead (.cons (.dead (.cons (.drop (.drop (.drop (.drop .nil)))))))))))) ?_
        refine ld1 2 rfl rfl ?_
        refine ld1 7 rfl rfl ?_
        refine ld1 3 rfl rfl ?_
        refine ld1 5 rfl rfl ?_
        refine cTd 0 rfl (fun w1 hs => cut_any T.k _ _ w1 (hs.res (k := 0) rfl) (by have := hB.st; omega) hB.lf) (fun K1 h1 g1 => ?_)
        refine bk ?_
        exact ⟨K1, h1, g1, rfl, rfl⟩
      have e1 : thenD (T.k.D, 0) (fun D => cutD D (nameS n) (wholeP f.bs : Nat)) = cutD T.k.D (nameS n) (wholeP f.bs : Nat) := if_pos rfl
      rw [e1] at h1 ⊢
      have hB1 : Bd q (k0 + 1) K1.D := by rw [h1]; exact hB.cut _ _
      refine doK 11 0 (c := (cutD T.k.D (nameS n) (wholeP f.bs : Nat)).2) (fun D => syncD D (nameS n)) (fun K' v => [rs (dkR K'), rs laidR, cl b2 #[ptr T.bs] TPS, cl b5 #[VS (nameS n)] 9, se rb (Lib.byteCells f.bs) 5, cl b8 #[.int .i64 (wholeP f.bs : Nat)] 3, cl b3 #[.slice a f.bs.length c] TB, cl T.bs (stC (ldS T.S ⟨T.k.D, T.S.pl ++ recsP f.bs, wholeP f.bs⟩) T.k.bd (sv y.r (T.S.pl ++ recsP f.bs).length)) TS, se y.r y.vs TB, rs (bgR y.rr y.vs (T.S.pl ++ recsP f.bs)), ⟨b0, some (.deferred (some [])), false, none⟩, cl bw #[v] TW]) rfl rfl (by decide) rfl (fun _ => ?_) (fun K' v => rfl) (fun K2 h2 g2 => ?_)
      · refine inl (C := ⟨Tryz.prog, tab, 14, [_], w, none⟩) tab_ok Tryz.func111 rfl Tryz.ntmps111 rfl ?_
        refine drs [rs (dkR K1), dead, cl b2 #[ptr T.bs] TPS, cl b5 #[VS (nameS n)] 9, dead, dead, dead, cl T.bs (stC (ldS T.S ⟨T.k.D, T.S.pl ++ recsP f.bs, wholeP f.bs⟩) T.k.bd (sv y.r (T.S.pl ++ recsP f.bs).length)) TS] [5, 6] (.t 0 (.t 1 (.t 2 (.t 3 (.t 4 (.n 5 (.n 6 .nil))))))) tab_ok mixed_ok (by kernel_rfl) (.cons (.dead (.cons (.cons (.dead (.dead (.dead (.cons (.drop (.drop (.drop (.drop .nil)))))))))))) ?_
        refine ld1 2 rfl rfl ?_
        refine ld1 7 rfl rfl ?_
        refine ld1 3 rfl rfl ?_
        refine cTd 0 rfl (fun w1 hs => by rw [← g1.bd]; exact sync_any K1 _ w1 (hs.res (k := 0) rfl) (by have := hB1.st; omega) hB1.lf) (fun K2 h2 g2 => ?_)
        refine bk ?_
        exact ⟨K2, h2, g2, rfl, rfl⟩
      refine ld1 11 rfl rfl ?_
      refine .mk 10 rfl ?_
      refine ⟨fun w1 hs => ?_⟩
      have hgo := g1.trans g2
      have h3 := (hs.sub (L' := [rs (dkR K2), rs laidR, cl T.bs (stC (ldS T.S ⟨T.k.D, T.S.pl ++ recsP f.bs, wholeP f.bs⟩) T.k.bd (sv y.r (T.S.pl ++ recsP f.bs).length)) TS, se y.r y.vs TB, rs (bgR y.rr y.vs (T.S.pl ++ recsP f.bs))]) (.cons (.cons (.drop (.drop (.drop (.drop (.drop (.cons (.cons (.cons (.drop (.drop .nil))))))))))))).perm (perm_ld _ _ _ _ _ []).symm
      rw [← hgo.bd] at h3
      refine ⟨⟨ldS T.S ⟨T.k.D, T.S.pl ++ recsP f.bs, wholeP f.bs⟩, K2, T.bs, y.r, y.vs, y.rr⟩, ⟨rfl, ?_, rfl, hgo⟩, ⟨hy.row, hy.pls⟩, ?_, st_out h3 (Sub.refl _) hgo⟩
      · show K2.D = _
        rw [h2, h1]
      · rw [h1]; rfl
    · rw [if_neg hw]
      refine cf (decide_eq_false (show ¬ ((wholeP f.bs : Nat) : Int) < (f.bs.length : Int) by omega)) ?_
      refine doK 11 0 (c := 0) (fun D => syncD D (nameS n)) (fun K' v => [rs (dkR K'), rs laidR, cl b2 #[ptr T.bs] TPS, cl b5 #[VS (nameS n)] 9, se rb (Lib.byteCells f.bs) 5, cl b8 #[.int .i64 (wholeP f.bs : Nat)] 3, cl b3 #[.slice a f.bs.length c] TB, cl T.bs (stC (ldS T.S ⟨T.k.D, T.S.pl ++ recsP f.bs, wholeP f.bs⟩) T.k.bd (sv y.r (T.S.pl ++ recsP f.bs).length)) TS, se y.r y.vs TB, rs (bgR y.rr y.vs (T.S.pl ++ recsP f.bs)), ⟨b0, some (.deferred (some [])), false, none⟩, cl bw #[v] TW]) rfl rfl (by decide) rfl (fun _ => ?_) (fun K' v => rfl) (fun K2 h2 g2 => ?_)
      · refine inl (C := ⟨Tryz.prog, tab, 14, [_], w, none⟩) tab_ok Tryz.func111 rfl Tryz.ntmps111 rfl ?_
        refine drs [rs (dkR T.k), dead, cl b2 #[ptr T.bs] TPS, cl b5 #[VS (nameS n)] 9, dead, dead, dead, cl T.bs (stC (ldS T.S ⟨T.k.D, T.S.pl ++ recsP f.bs, wholeP f.bs⟩) T.k.bd (sv y.r (T.S.pl ++ recsP f.bs).length)) TS] [5, 6] (.t 0 (.t 1 (.t 2 (.t 3 (.t 4 (.n 5 (.n 6 .nil))))))) tab_ok mixed_ok (by kernel_rfl) (.cons (.dead (.cons (.cons (.dead (.dead (.dead (.cons (.drop (.drop (.drop (.drop .nil)))))))))))) ?_
        refine ld1 2 rfl rfl ?_
        refine ld1 7 rfl rfl ?_
        refine ld1 3 rfl rfl ?_
        refine cTd 0 rfl (fun w1 hs => by exact sync_any T.k _ w1 (hs.res (k := 0) rfl) (by have := hB.st; omega) hB.lf) (fun K2 h2 g2 => ?_)
        refine bk ?_
        exact ⟨K2, h2, g2, rfl, rfl⟩
      refine ld1 11 rfl rfl ?_
      refine .mk 10 rfl ?_
      refine ⟨fun w1 hs => ?_⟩
      have hgo := g2
      have h3 := (hs.sub (L' := [rs (dkR K2), rs laidR, cl T.bs (stC (ldS T.S ⟨T.k.D, T.S.pl ++ recsP f.bs, wholeP f.bs⟩) T.k.bd (sv y.r (T.S.pl ++ recsP f.bs).length)) TS, se y.r y.vs TB, rs (bgR y.rr y.vs (T.S.pl ++ recsP f.bs))]) (.cons (.cons (.drop (.drop (.drop (.drop (.drop (.cons (.cons (.cons (.drop (.drop .nil))))))))))))).perm (perm_ld _ _ _ _ _ []).symm
      rw [← hgo.bd] at h3
      refine ⟨⟨ldS T.S ⟨T.k.D, T.S.pl ++ recsP f.bs, wholeP f.bs⟩, K2, T.bs, y.r, y.vs, y.rr⟩, ⟨rfl, ?_, rfl, hgo⟩, ⟨hy.row, hy.pls⟩, ?_, st_out h3 (Sub.refl _) hgo⟩
      · exact h2
      · rfl
  · intro y; exact y.elim
theorem load_any (T : StS) (hT : StOk T) (n : Nat) (hn : n ≤ T.S.last) (hlast : T.S.last ≤ 1048576) (hpl : T.S.pl.length ≤ 2199023255552) {q k0 : Nat} (hB : Bd q k0 T.k.D) (hk0 : k0 ≤ 900000) (hq : q ≤ 16777216) (w : World) (h : (stR T).p w) :
    Calls Tryz.prog 64 ([ptr T.bs, .int .i64 n] : List Value).toArray w (TurnS T w ⟨ldS T.S (loadD (ldX T) T.S.last n).1, (loadD (ldX T) T.S.last n).1.D⟩ (loadD (ldX T) T.S.last n).2) := by
  cases hf : findF (nameS n) T.k.D.files with
  | none => exact load_none T hT n hn hlast hpl hB hk0 hq w h hf
  | some f =>
    cases hg : T.k.D.gone with
    | true => exact load_gone T hT n hn hlast hpl hB hk0 hq w h hf hg
    | false =>
      by_cases hl : n < T.S.last
      · exact load_mid T hT n hn hlast hpl hB hk0 hq w h hf hg hl
      · exact load_last T hT n hn hlast hpl hB hk0 hq w h hf hg (by omega)
end Go.Proofs.YteamnhpplclmfaaGreatDoor
end
section
namespace Go.Sx
open Go Go.RowKit
set_option linter.unusedVariables false
/-- the first k pieces of a row of pieces -/
def takeS : Nat → Code → Code
  | 0, _ => .skip
  | k + 1, .seq a b => .seq a (takeS k b)
  | _ + 1, _ => .skip
/-- what comes behind them -/
def dropS : Nat → Code → Code
  | 0, c => c
  | k + 1, .seq _ b => dropS k b
  | _ + 1, c => c
/-- the state between -/
def cutK {α : Type} (J : α → Prop) (f : α → Sy) (K : Exit → Sy → Prop) : Exit → Sy → Prop := fun e s => match e with
  | .normal => ∃ x, J x ∧ Le (f x) s
  | e => K e s
theorem cutS {C : Cx} (hT : TabOk C.P C.T) {α : Type} (J : α → Prop) (f : α → Sy) {K : Exit → Sy → Prop} : ∀ (k : Nat) {c : Code} {s : Sy}, cx C (takeS k c) (cutK J f K) s → (∀ x, J x → CodeP C (dropS k c) K (f x)) → CodeP C c K s := by
  have base : ∀ {c : Code} {s : Sy}, (∃ x, J x ∧ Le (f x) s) → (∀ x, J x → CodeP C c K (f x)) → CodeP C c K s := fun {c s} ⟨x, hx, hl⟩ h => ⟨fun n a w hf hs => (h x hx).go n a w (Fits.le hf hl) (hs.sub hl.l)⟩
  intro k
  induction k with
  | zero => exact fun {c s} h1 h2 => base h1 h2
  | succ k ih =>
    intro c s h1 h2
    cases c with
    | seq a b =>
      refine ⟨fun n a' w hf hs => wpIn_seq (wpIn_mono ((cx_ok hT a _ s h1).go n a' w hf hs) ?_)⟩
      rintro e a1 w1 ⟨s', hf', hs', hk⟩
      cases e with
      | normal => exact (ih hk h2).go n a1 w1 hf' hs'
      | _ => exact ⟨s', hf', hs', hk⟩
    | _ => exact base h1 h2
theorem enterP {P : Program} {T : Tab} (hT : TabOk P T) {g : FuncId} {fn : Func} {c : Code} (hf : P.funcs[g]? = some fn) (hb : fn.body = some c) {N : Nat} (hN : fn.ntmps = N) {vs : List Value} (hle : Nat.ble vs.length N = true) {M : Bks} {w : World} {L : List Ent}
    {R : Value → World → Prop} (hs : St M w w L) (h : CodeP ⟨P, T, N, M, w, none⟩ c (retK ⟨P, T, N, M, w, none⟩ fn R) ⟨par 0 vs, L, []⟩) : Calls P g vs.toArray w fun e w' => ∃ v, e = .returned v ∧ R v w' := by
  subst hN
  refine (callsIn_wide (n := 3)).1 (callsIn_of_wp_marks hf hb trivial (wpIn_mono (h.go 3 _ w ⟨by have := Nat.le_of_ble_eq_true hle; simp; omega, rfl, ?_⟩ hs) ?_) rfl)
  · intro i v hv
    obtain ⟨_, h1⟩ := par_get _ _ _ _ hv
    have hi : i < vs.length := (List.getElem?_eq_some_iff.1 h1).1
    simp [Array.getD_eq_getD_getElem?, Array.getElem?_append, hi]
    simpa [hi] using h1
  · rintro e a w' ⟨s, hf', hs', hk⟩
    have hd := hf'.defers
    cases e with
    | normal => simp only [bodyPostM, hd]; exact retV_ok (C := ⟨P, T, fn.ntmps, M, w, none⟩) hT hf'.slot s.D s.L w' hs' hk
    | ret => simp only [bodyPostM, hd]; exact retV_ok (C := ⟨P, T, fn.ntmps, M, w, none⟩) hT hf'.slot s.D s.L w' hs' hk
    | _ => exact hk.elim
end Go.Sx
end
section
namespace Go.Proofs.YteamnhpplclmfaaGreatDoor
open Go.RowKit Go.Sx
set_option linter.unusedVariables false
def dr1 (D : Dk) : Dk × Nat := if hasD D newB = true then dropD D newB else (D, 0)
def mfL (x : Dk × Nat) : Nat := if hasD x.1 manB = true ∧ x.2 = 0 then toldP (readD x.1 manB).1 else 1
def mfC (x : Dk × Nat) : Nat := if hasD x.1 manB = true ∧ x.2 = 0 then (if (readD x.1 manB).2 = 0 ∧ toldP (readD x.1 manB).1 = 0 then 6 else (readD x.1 manB).2) else x.2
def ldAll (D : Dk) (c last : Nat) : Ld × Nat := if c = 0 then loadsD last ⟨D, [], 0⟩ last 1 else (⟨D, [], 0⟩, c)
def ldOf (D : Dk) : Ld × Nat := ldAll (dr1 D).1 (mfC (dr1 D)) (mfL (dr1 D))
structure OpS where
  S : Sr
  D : Dk
  code : Nat
def openP (D : Dk) (size : Nat) : OpS :=
  ⟨⟨size, (ldOf D).1.pl, (ldOf D).1.pl.length, mfL (dr1 D), (ldOf D).1.length, 0⟩,
    (dropsD (nameS (mfL (dr1 D))) ((ldOf D).1.D, (ldOf D).2) (sortT ((ldOf D).1.D.files.map (·.name)))).1,
    (dropsD (nameS (mfL (dr1 D))) ((ldOf D).1.D, (ldOf D).2) (sortT ((ldOf D).1.D.files.map (·.name)))).2⟩
theorem told_le (b : Bs) : toldP b ≤ 1048576 := by
  unfold toldP
  split
  · exact Nat.zero_le _
  · split
    · rename_i h; exact h.2.2.2
    · exact Nat.zero_le _
theorem mfL_le (x : Dk × Nat) : mfL x ≤ 1048576 := by
  unfold mfL
  split
  · exact told_le _
  · decide
theorem Bd.dr1 {q k : Nat} {D : Dk} (h : Bd q k D) : Bd q (k + 1) (dr1 D).1 := by
  unfold Go.Proofs.YteamnhpplclmfaaGreatDoor.dr1
  split
  · exact h.drop _
  · exact h.up
theorem Bd.fe {q k : Nat} {D : Dk} (h : Bd q k D) {n : Bs} {f : Fe} (hf : findF n D.files = some f) : f.bs.length ≤ q := by
  have h1 := h.f.q
  have h2 : f.bs.length ≤ usedD D.files := by unfold usedD; exact le_sum (List.mem_map_of_mem (f := fun f : Fe => f.bs.length) (findF_mem hf).1)
  omega
theorem recs_count (l : Bs) : 8 * (recsP l).length ≤ l.length := Nat.le_trans (whole_len _) (recs_whole_le l _ (Nat.le_refl _))
theorem load_bd {q k : Nat} {x : Ld} (h : Bd q k x.D) (last n : Nat) : Bd q (k + 2) (loadD x last n).1.D ∧ (n < last → (loadD x last n).1.D = x.D) ∧ 8 * (loadD x last n).1.pl.length ≤ 8 * x.pl.length + q := by
  unfold loadD
  cases hf : findF (nameS n) x.D.files with
  | none => exact ⟨h.le (by omega), fun _ => rfl, by show 8 * x.pl.length ≤ _; omega⟩
  | some f =>
    have hfl := h.fe hf
    have hrc := recs_count f.bs
    have hpl : 8 * (x.pl ++ recsP f.bs).length ≤ 8 * x.pl.length + q := by rw [List.length_append]; omega
    dsimp only
    split
    · exact ⟨h.le (by omega), fun _ => rfl, by show 8 * x.pl.length ≤ _; omega⟩
    · split
      · split
        · exact ⟨h.le (by omega), fun _ => rfl, by show 8 * x.pl.length ≤ _; omega⟩
        · exact ⟨h.le (by omega), fun _ => rfl, hpl⟩
      · refine ⟨?_, fun h2 => absurd h2 (by assumption), hpl⟩
        have h1 : Bd q (k + 1) (if wholeP f.bs < f.bs.length then cutD x.D (nameS n) (wholeP f.bs : Nat) else (x.D, 0)).1 := by
          split
          · exact h.cut _ _
          · exact h.up
        exact h1.then (h1.sync _)
theorem loadsD_step (k : Nat) (x : Ld) (last n : Nat) : loadsD (k + 1) x last n = if (loadD x last n).2 = 0 then loadsD k (loadD x last n).1 last (n + 1) else loadD x last n := rfl
theorem has_read {D : Dk} {n : Bs} (h : hasD D n = true) : ∃ f, findF n D.files = some f := by
  unfold hasD at h
  exact Option.isSome_iff_exists.1 h
theorem str_gt (a b : Bs) : (!(Op.bytesLess (ByteArray.mk a.toArray).toList (ByteArray.mk b.toArray).toList || (ByteArray.mk a.toArray).toList == (ByteArray.mk b.toArray).toList)) = decide (b < a) := by
  rw [str_less, beq_list, Bool.eq_iff_iff]
  simp only [Bool.not_eq_true', Bool.or_eq_false_iff, decide_eq_false_iff_not, decide_eq_true_eq]
  constructor
  · rintro ⟨h1, h2⟩
    rcases List.le_iff_lt_or_eq.1 (List.not_lt.1 h1) with h | h
    · exact h
    · exact absurd h.symm h2
  · intro h
    exact ⟨List.not_lt.2 (List.le_of_lt h), fun e => by subst e; exact List.lt_irrefl _ h⟩
/-- a store that was just made -/
def st0 (size last : Nat) : Sr := ⟨size, [], 0, last, 0, 0⟩
end Go.Proofs.YteamnhpplclmfaaGreatDoor
end
section
namespace Go.Proofs.YteamnhpplclmfaaGreatDoor
open Go.RowKit Go.Sx
set_option linter.unusedVariables false
abbrev TPD : Nat := 37
abbrev openE (K : DkS) : List Ent := [rs (dkR K), rs laidR]
def OpenR (K : DkS) (o : OpS) (w : World) (e : Ending) (w' : World) : Prop :=
  (o.code = 0 ∧ ∃ T : StS, (T.S = o.S ∧ T.k.D = o.D ∧ T.k.bd = K.bd ∧ T.k.bm = K.bm) ∧ StOk T ∧ e = .returned (.tuple #[ptr T.bs, .nilIface]) ∧ Turns w w' (mres (openE K)) (stR T)) ∨
  (o.code ≠ 0 ∧ ∃ K' : DkS, (K'.D = o.D ∧ K'.bd = K.bd ∧ K'.bm = K.bm) ∧ e = .returned (.tuple #[.pointer none, errV o.code]) ∧ Turns w w' (mres (openE K)) (mres (openE K')))
/-- a store under way: it lies, its disk, three cells -/
structure Ow where
  T : StS
  c : Nat
  b2 : Nat
  b6 : Nat
  bw : Nat
def owL (x : Ow) : List Ent := stEs x.T ++ [cl x.b2 #[ptr x.T.k.bd] TPD, cl x.b6 #[ptr x.T.bs] TPS, cl x.bw #[errV x.c] TW]
def owF (x : Ow) : Sy := ⟨[(2, ptr x.b2), (6, ptr x.b6), (7, ptr x.bw)], owL x, []⟩
theorem open_out {K : DkS} {T : StS} {w w1 : World} {L : List Ent} (hs : St [(mres (openE K)).w] w w1 L) (hsub : Sub (stEs T) L) (hg : DkGo w K T.k) : Turns w w1 (mres (openE K)) (stR T) := by
  refine mres_out hs hsub fun e he => ?_
  simp only [stEs, List.mem_cons, List.not_mem_nil, or_false] at he
  rcases he with rfl | rfl | rfl | rfl | rfl
  · exact cl_A
  · exact go_A (by simp) hg
  · exact same_A (by simp)
  · exact se_A
  · exact bg_A
theorem open_out' {K K' : DkS} {w w1 : World} {L : List Ent} (hs : St [(mres (openE K)).w] w w1 L) (hsub : Sub (openE K') L) (hg : DkGo w K K') : Turns w w1 (mres (openE K)) (mres (openE K')) := by
  refine mres_out hs hsub fun e he => ?_
  simp only [List.mem_cons, List.not_mem_nil, or_false] at he
  rcases he with rfl | rfl
  · exact go_A (by simp) hg
  · exact same_A (by simp)
set_option maxRecDepth 100000 in
set_option maxHeartbeats 1000000 in
/-- behind the files that are dropped -/
theorem open_end {K : DkS} {o : OpS} {w : World} {x : Ow} (hT : StOk x.T) (hg : DkGo w K x.T.k) (hD : x.T.k.D = o.D) (hc : x.c = o.code) (hS : x.c = 0 → (⟨x.T.S.size, x.T.S.pl, x.T.S.pl.length, x.T.S.last, x.T.S.length, x.T.S.stuck⟩ : Sr) = o.S) : CodeP ⟨Tryz.prog, tab, 86, [(mres (openE K)).w], w, none⟩ (dropS 8 ((Tryz.f19.body).getD .skip)) (retK ⟨Tryz.prog, tab, 86, [(mres (openE K)).w], w, none⟩ Tryz.f19 (fun v w' => OpenR K o w (.returned v) w')) (owF x) := by
  refine cx_ok tab_ok _ _ _ ?_
  obtain ⟨va, vc, hva⟩ := sv_sl hT.row
  refine ld1 7 rfl rfl ?_
  by_cases h0 : x.c = 0
  · rw [h0]
    refine cf rfl ?_
    refine dr [cl x.T.bs (stC x.T.S x.T.k.bd (sv x.T.r x.T.S.pl.length)) TS, dead, dead, dead, dead, dead, cl x.b6 #[ptr x.T.bs] TPS] 8 (.t 0 (.t 1 (.t 2 (.t 3 (.t 4 (.t 5 (.t 6 (.t 7 (.n 8 .nil))))))))) tab_ok mixed_ok (by kernel_rfl) (.cons (.dead (.dead (.dead (.dead (.dead (.cons (.drop .nil)))))))) ?_
    refine ld1 6 rfl rfl ?_
    refine ld1 6 rfl rfl ?_
    refine ld1 0 rfl rfl ?_
    rw [hva]
    refine s1 0 rfl (by show 3 < 7; decide) ?_
    refine ld1 6 rfl rfl ?_
    refine ⟨fun w1 hs => .inl ⟨by rw [← hc, h0], ⟨⟨x.T.S.size, x.T.S.pl, x.T.S.pl.length, x.T.S.last, x.T.S.length, x.T.S.stuck⟩, x.T.k, x.T.bs, x.T.r, x.T.vs, x.T.rr⟩, ⟨hS h0, hD, hg.bd, hg.bm⟩, ⟨hT.row, hT.pls⟩, rfl, open_out hs ?_ hg⟩⟩
    rw [← hva]
    exact (.cons (.cons (.cons (.cons (.cons (.drop (.drop (.drop .nil))))))))
  · rw [errVs _ h0]
    refine ct rfl ?_
    refine dr [dead, dead, dead, dead, dead, dead, dead, cl x.bw #[errV x.c] TW] 99 (.t 0 (.t 1 (.t 2 (.t 3 .nil)))) tab_ok mixed_ok (by kernel_rfl) (.dead (.dead (.dead (.dead (.dead (.dead (.dead (.cons .nil)))))))) ?_
    refine ld1 7 rfl rfl ?_
    refine ⟨fun w1 hs => .inr ⟨by rw [← hc]; exact h0, x.T.k, ⟨hD, hg.bd, hg.bm⟩, by rw [← hc, errVs _ h0]; rfl, open_out' hs (.drop (.cons (.cons (.drop (.drop (.drop (.drop (.drop .nil)))))))) hg⟩⟩
end Go.Proofs.YteamnhpplclmfaaGreatDoor
end
section
namespace Go.Proofs.YteamnhpplclmfaaGreatDoor
open Go.RowKit Go.Sx
set_option linter.unusedVariables false

def xw (x : Ow) (K' : DkS) (c : Nat) : Ow := ⟨{ x.T with k := K' }, c, x.b2, x.b6, x.bw⟩
theorem txtAt {l : List Bs} {i : Nat} (h : i < l.length) : (txtCells l)[i]? = some (VS l[i]) := by
  unfold txtCells; rw [List.getElem?_map, List.getElem?_eq_getElem h]; rfl
theorem drops_code (b : Bs) (l : List Bs) : ∀ (D : Dk) (c : Nat), (dropsD b (D, c) l).2 = 0 → c = 0 := by
  induction l with
  | nil => exact fun D c h => h
  | cons f l ih =>
    intro D c h
    rw [dropsD] at h
    split at h
    · unfold thenD at h
      split at h
      · assumption
      · exact ih _ _ h
    · exact ih _ _ h
structure DrOk (K : DkS) (w : World) (x : Ow) (bound : Bs) (l : List Bs) (q k : Nat) (y : Nat × DkS × Nat) : Prop where
  i : y.1 ≤ l.length
  e : dropsD bound (x.T.k.D, x.c) l = dropsD bound (y.2.1.D, y.2.2) (l.drop y.1)
  g : DkGo w K y.2.1
  b : Bd q (k + y.1) y.2.1.D
set_option maxRecDepth 100000 in
set_option maxHeartbeats 2000000 in
theorem open_drops {K : DkS} {o : OpS} {w : World} {x : Ow} (hT : StOk x.T) (hg : DkGo w K x.T.k) (hl : x.T.S.last ≤ 1048576) {q k : Nat} (hB : Bd q k x.T.k.D) (hk : k ≤ 400000)
    (hD : o.D = (dropsD (nameS x.T.S.last) (x.T.k.D, x.c) (sortT (x.T.k.D.files.map (·.name)))).1) (hc : o.code = (dropsD (nameS x.T.S.last) (x.T.k.D, x.c) (sortT (x.T.k.D.files.map (·.name)))).2)
    (hS : x.c = 0 → (⟨x.T.S.size, x.T.S.pl, x.T.S.pl.length, x.T.S.last, x.T.S.length, x.T.S.stuck⟩ : Sr) = o.S) : CodeP ⟨Tryz.prog, tab, 86, [(mres (openE K)).w], w, none⟩ (dropS 7 ((Tryz.f19.body).getD .skip)) (retK ⟨Tryz.prog, tab, 86, [(mres (openE K)).w], w, none⟩ Tryz.f19 (fun v w' => OpenR K o w (.returned v) w')) (owF x) := by
  obtain ⟨l, hll⟩ : ∃ l, l = sortT (x.T.k.D.files.map (·.name)) := ⟨_, rfl⟩
  rw [← hll] at hD hc
  have hlen : l.length = x.T.k.D.files.length := by rw [hll, (sortT_perm _).length_eq, List.length_map]
  refine cutS tab_ok (fun y : DkS × Nat => DkGo w K y.1 ∧ y.1.D = o.D ∧ y.2 = o.code) (fun y => owF (xw x y.1 y.2)) 1 ?_ (fun y hy => open_end (K := K) (o := o) (x := xw x y.1 y.2) ⟨hT.row, hT.pls⟩ hy.1 hy.2.1 hy.2.2 (fun h => hS (drops_code _ _ _ _ (by rw [← hc, ← hy.2.2]; exact h))))
  obtain ⟨va, vc, hva⟩ := sv_sl hT.row
  refine ld1 5 rfl rfl ?_
  refine co (n := x.T.k.D.files.length) (z := 1) (xs := txtCells l) (e := 9) (fun w1 hs => by rw [hll]; exact names_any x.T.k w1 (hs.res (k := 1) rfl) (by have := hB.f.l; omega)) (fun rn hRn => ?_)
  obtain ⟨na, nc, hnv⟩ := sv_sl hRn
  rw [hnv]
  refine lp tab_ok (DrOk K w x (nameS x.T.S.last) l q k) (fun y => ⟨[(2, ptr x.b2), (6, ptr x.b6), (7, ptr x.bw), (52, .slice na x.T.k.D.files.length nc), (53, .int .i64 x.T.k.D.files.length), (54, .int .i64 y.1)], owL (xw x y.2.1 y.2.2) ++ [se rn (txtCells l) 9], []⟩) (fun y => l.length - y.1)
    (0, x.T.k, x.c) ⟨Nat.zero_le _, rfl, hg, hB⟩ ⟨⟨rfl, rfl, rfl, rfl, rfl, rfl, trivial⟩, Sub.refl _, rfl⟩ ?_
  rintro ⟨i, K', c⟩ ⟨hi, he, hg', hb⟩
  dsimp only at hi he hg' hb ⊢
  refine cd (fun h => ?_) (fun h => ?_)
  · have hlt : i < l.length := by omega
    have hfl := hB.f.l
    have hdr : l.drop i = l[i] :: l.drop (i + 1) := List.drop_eq_getElem_cons hlt
    have hcell := txtAt hlt
    generalize hf : l[i] = f at hdr hcell
    rw [hdr, dropsD] at he
    obtain ⟨nb, no, rfl⟩ : ∃ b o, na = some ⟨b, o, none⟩ := by
      cases rn with
      | none =>
        have h0 : x.T.k.D.files.length = 0 := hRn.2
        omega
      | some p => obtain ⟨pb, pc, pj⟩ := p; injection hnv with h1 h2 h3; exact ⟨pb, 0, h1.symm⟩
    refine ⟨by omega, by omega, ?_⟩
    refine .mk (VS f) (fun w' hs => by have := Rd.own hs 8 rfl hRn; rw [hnv] at this; exact this.at hcell rfl) ?_
    intro b10
    refine s1 9 rfl (by show 0 < 1; decide) ?_
    refine dr [cl x.T.bs (stC x.T.S K'.bd (sv x.T.r x.T.S.pl.length)) TS, dead, rs laidR, dead, dead, dead, cl x.b6 #[ptr x.T.bs] TPS, dead, dead, cl b10 #[VS f] 9] 99 (.t 0 (.t 1 (.t 2 (.t 3 (.t 4 (.t 5 (.t 6 (.t 7 (.t 8 (.t 9 (.t 10 .nil))))))))))) tab_ok mixed_ok (by kernel_rfl) (.cons (.dead (.cons (.dead (.dead (.dead (.cons (.dead (.dead (.cons .nil)))))))))) ?_
    refine ld1 9 rfl rfl ?_
    refine cz (fun w1 => hasp_any f [115, 101, 103, 45] w1) ?_
    have hif : ∀ z : Bool, (List.isPrefixOf [115, 101, 103, 45] f && decide (nameS x.T.S.last < f)) = z → dropsD (nameS x.T.S.last) (x.T.k.D, x.c) l = dropsD (nameS x.T.S.last) (if z = true then thenD (K'.D, c) fun D => dropD D f else (K'.D, c)) (l.drop (i + 1)) := fun z hz => by rw [he, hz]
    have stay : ∀ (s : Sy), (List.isPrefixOf [115, 101, 103, 45] f && decide (nameS x.T.S.last < f)) = false → Le ⟨[(2, ptr x.b2), (6, ptr x.b6), (7, ptr x.bw), (52, .slice (some ⟨nb, no, none⟩) x.T.k.D.files.length nc), (53, .int .i64 x.T.k.D.files.length), (54, .int .i64 ((i + 1 : Nat) : Int))], owL (xw x K' c) ++ [se rn (txtCells l) 9], []⟩ s → ∃ y, DrOk K w x (nameS x.T.S.last) l q k y ∧ l.length - y.1 < l.length - i ∧ Le ⟨[(2, ptr x.b2), (6, ptr x.b6), (7, ptr x.bw), (52, .slice (some ⟨nb, no, none⟩) x.T.k.D.files.length nc), (53, .int .i64 x.T.k.D.files.length), (54, .int .i64 y.1)], owL (xw x y.2.1 y.2.2) ++ [se rn (txtCells l) 9], []⟩ s := fun s hz hl =>
      ⟨(i + 1, K', c), ⟨hlt, hif false hz, hg', hb.le (by omega)⟩, by dsimp only; omega, hl⟩
    cases hp : List.isPrefixOf [115, 101, 103, 45] f with
    | false =>
      iterate 7 refine cf rfl ?_
      refine cf rfl ?_
      refine cf rfl ?_
      refine .as ((i + 1 : Nat) : Int) (by omega) (by simp only [mn]; omega) (by simp only [mx]; omega) ?_
      exact stay _ (by rw [hp]; rfl) ⟨⟨rfl, rfl, rfl, rfl, rfl, rfl, trivial⟩, sub_app _, rfl⟩
    | true =>
      refine ct rfl ?_
      refine ld1 9 rfl rfl ?_
      refine ct rfl ?_
      refine ld1 6 rfl rfl ?_
      refine ct rfl ?_
      refine ct rfl ?_
      refine ct rfl ?_
      refine ld1 0 rfl rfl ?_
      refine ct rfl ?_
      refine czs (fun w1 hs => name_any x.T.S.last (by omega) w1 (hs.res (k := 2) rfl)) ?_
      refine ct rfl ?_
      refine ct rfl ?_
      have hgt := str_gt f (nameS x.T.S.last)
      by_cases hlf : nameS x.T.S.last < f
      · refine ct (by rw [hgt]; exact decide_eq_true hlf) ?_
        have hz : (List.isPrefixOf [115, 101, 103, 45] f && decide (nameS x.T.S.last < f)) = true := by rw [hp, decide_eq_true hlf]; rfl
        refine doK 7 1 (c := c) (fun D => dropD D f) (fun K2 v => [cl x.T.bs (stC x.T.S K'.bd (sv x.T.r x.T.S.pl.length)) TS, rs (dkR K2), rs laidR, se x.T.r x.T.vs TB, rs (bgR x.T.rr x.T.vs x.T.S.pl), cl x.b2 #[ptr K'.bd] TPD, cl x.b6 #[ptr x.T.bs] TPS, cl x.bw #[v] TW, se rn (txtCells l) 9, cl b10 #[VS f] 9]) rfl rfl (by decide) rfl (fun _ => ?_) (fun K' v => rfl) (fun K2 h2 g2 => ?_)
        · refine inl (C := ⟨Tryz.prog, tab, 14, [_], w, none⟩) tab_ok Tryz.func67 rfl Tryz.ntmps67 rfl ?_
          refine ld1 5 rfl rfl ?_
          refine ld1 9 rfl rfl ?_
          refine cTd 1 rfl (fun w1 hs => drop_any K' _ w1 (hs.res (k := 1) rfl) (by have := hb.st; omega) hb.lf) (fun K2 h2 g2 => ?_)
          refine bk ?_
          exact ⟨K2, h2, g2, rfl, rfl⟩
        refine .as ((i + 1 : Nat) : Int) (by omega) (by simp only [mn]; omega) (by simp only [mx]; omega) ?_
        refine ⟨(i + 1, K2, (thenD (K'.D, c) fun D => dropD D f).2), ⟨hlt, ?_, hg'.trans g2, ?_⟩, by dsimp only; omega, ⟨⟨rfl, rfl, rfl, rfl, rfl, rfl, trivial⟩, ?_, rfl⟩⟩
        · rw [hif true hz, if_pos rfl]; exact congrArg (fun z => dropsD (nameS x.T.S.last) z (l.drop (i + 1))) (Prod.ext h2.symm rfl)
        · show Bd q (k + (i + 1)) K2.D
          rw [h2]; exact Bd.then (x := (K'.D, c)) hb (hb.drop _)
        · show Sub ([cl x.T.bs (stC x.T.S K2.bd (sv x.T.r x.T.S.pl.length)) TS, rs (dkR K2), rs laidR, se x.T.r x.T.vs TB, rs (bgR x.T.rr x.T.vs x.T.S.pl), cl x.b2 #[ptr K2.bd] TPD, cl x.b6 #[ptr x.T.bs] TPS, cl x.bw #[errV (thenD (K'.D, c) fun D => dropD D f).2] TW, se rn (txtCells l) 9]) _
          rw [g2.bd]
          exact (.cons (.cons (.cons (.cons (.cons (.cons (.cons (.cons (.cons (.drop .nil))))))))))
      · refine cf (by rw [hgt]; exact decide_eq_false hlf) ?_
        refine .as ((i + 1 : Nat) : Int) (by omega) (by simp only [mn]; omega) (by simp only [mx]; omega) ?_
        exact stay _ (by rw [hp, decide_eq_false hlf]; rfl) ⟨⟨rfl, rfl, rfl, rfl, rfl, rfl, trivial⟩, sub_app _, rfl⟩
  · obtain rfl : i = l.length := by omega
    rw [List.drop_length, dropsD] at he
    exact ⟨(K', c), ⟨hg', by rw [hD, he], by rw [hc, he]⟩, ⟨⟨rfl, rfl, rfl, trivial⟩, sub_app _, rfl⟩⟩
end Go.Proofs.YteamnhpplclmfaaGreatDoor
end
section
namespace Go.Proofs.YteamnhpplclmfaaGreatDoor
open Go.RowKit Go.Sx
set_option linter.unusedVariables false

theorem DkGo.back {B w : World} {S S' : DkS} (hw : B.heap.size ≤ w.heap.size) (h : DkGo w S S') : DkGo B S S' := ⟨h.bd, h.bm, fun k hk => (h.rr k hk).imp id (Nat.le_trans hw)⟩
structure LdOk (K : DkS) (w : World) (S0 : Sr) (bs : Nat) (Y : Ld × Nat) (q k : Nat) (n : Nat) (T : StS) (c : Nat) : Prop where
  n1 : 1 ≤ n
  ok : StOk T
  bs : T.bs = bs
  g : DkGo w K T.k
  S : T.S = ldS S0 (ldX T)
  go : c = 0 → loadsD (S0.last + 1 - n) (ldX T) S0.last n = Y
  no : c ≠ 0 → Y = (ldX T, c)
  bd : Bd q (k + 2) T.k.D
  bd0 : n ≤ S0.last → c = 0 → Bd q k T.k.D
  pl : 8 * T.S.pl.length ≤ q * (n - 1)
theorem perm_op (dk la b2 bs b6 bw bg : Ent) : [bs, dk, la, bg, b2, b6, bw].Perm [dk, la, b2, bs, b6, bw, bg] := by
  have h1 : (bs :: ([dk, la, b2] ++ [b6, bw, bg])).Perm ([dk, la, b2] ++ bs :: [b6, bw, bg]) := List.perm_middle.symm
  refine List.Perm.trans ?_ h1
  refine .cons _ (.cons _ (.cons _ ?_))
  exact (List.perm_append_comm (l₁ := [bg]) (l₂ := [b2, b6, bw]))
set_option maxRecDepth 100000 in
set_option maxHeartbeats 2000000 in
theorem open_loads {K K1 : DkS} {o : OpS} {w : World} {size last b2 bs b6 bw c : Nat} (hg : DkGo w K K1) (hl : last ≤ 1048576) {q k : Nat} (hB : Bd q k K1.D) (hk : k ≤ 300000) (hq : q ≤ 16777216)
    (hD : o.D = (dropsD (nameS last) ((ldAll K1.D c last).1.D, (ldAll K1.D c last).2) (sortT ((ldAll K1.D c last).1.D.files.map (·.name)))).1)
    (hc : o.code = (dropsD (nameS last) ((ldAll K1.D c last).1.D, (ldAll K1.D c last).2) (sortT ((ldAll K1.D c last).1.D.files.map (·.name)))).2)
    (hS : (⟨size, (ldAll K1.D c last).1.pl, (ldAll K1.D c last).1.pl.length, last, (ldAll K1.D c last).1.length, 0⟩ : Sr) = o.S) :
    CodeP ⟨Tryz.prog, tab, 86, [(mres (openE K)).w], w, none⟩ (dropS 6 ((Tryz.f19.body).getD .skip)) (retK ⟨Tryz.prog, tab, 86, [(mres (openE K)).w], w, none⟩ Tryz.f19 (fun v w' => OpenR K o w (.returned v) w')) ⟨[(2, ptr b2), (6, ptr b6), (7, ptr bw)], [rs (dkR K1), rs laidR, cl b2 #[ptr K1.bd] TPD, cl bs (stC (st0 size last) K1.bd (.slice none 0 0)) TS, cl b6 #[ptr bs] TPS, cl bw #[errV c] TW], []⟩ := by
  obtain ⟨T0, hT0⟩ : ∃ T0 : StS, T0 = ⟨st0 size last, K1, bs, none, [], fun _ => False⟩ := ⟨_, rfl⟩
  have hok0 : StOk T0 := by rw [hT0]; exact ⟨Rw.nil 1, ⟨rfl, fun i v p hv => by simp at hv⟩⟩
  refine CodeP.from (L' := owL ⟨T0, c, b2, b6, bw⟩) (fun w1 hs => ?_) ?_
  · have h1 := (St.none hs).perm (perm_op _ _ _ _ _ _ _)
    rw [hT0]
    exact h1.sub (.cons (.cons (.cons (.pad (.cons (.cons (.cons (.cons .nil))))))))
  obtain ⟨Y, hY⟩ : ∃ Y, Y = ldAll K1.D c last := ⟨_, rfl⟩
  rw [← hY] at hD hc hS
  refine cutS tab_ok (fun y : StS × Nat => StOk y.1 ∧ y.1.bs = bs ∧ DkGo w K y.1.k ∧ y.1.S = ldS (st0 size last) (ldX y.1) ∧ Y = (ldX y.1, y.2) ∧ Bd q (k + 2) y.1.k.D) (fun y => owF ⟨y.1, y.2, b2, b6, bw⟩) 1 ?_ (fun y ⟨h1, h2, h3, h4, h5, h6⟩ => open_drops (K := K) (o := o) (x := ⟨y.1, y.2, b2, b6, bw⟩) h1 h3 (by rw [h4]; exact hl) h6 (by omega) (by rw [h4]; rw [h5] at hD; exact hD) (by rw [h4]; rw [h5] at hc; exact hc) (fun _ => by rw [h5] at hS; rw [← hS, h4]; rfl))
  intro bn
  refine s1 8 rfl (by show 0 < 1; decide) ?_
  refine lp tab_ok (fun y : Nat × StS × Nat × Nat => LdOk K w (st0 size last) bs Y q k y.1 y.2.1 y.2.2.1) (fun y => ⟨[(2, ptr b2), (6, ptr b6), (7, ptr bw), (8, ptr y.2.2.2)], owL ⟨y.2.1, y.2.2.1, b2, b6, bw⟩ ++ [cl y.2.2.2 #[.int .i64 y.1] 3], []⟩) (fun y => last + 1 - y.1)
    (1, T0, c, bn) ⟨Nat.le_refl _, hok0, by rw [hT0], by rw [hT0]; exact hg, by rw [hT0]; rfl, fun h => by rw [hY, hT0]; unfold ldAll; rw [if_pos h]; rfl, fun h => by rw [hY, hT0]; unfold ldAll; rw [if_neg h]; rfl, by rw [hT0]; exact hB.le (by omega), fun _ _ => by rw [hT0]; exact hB, by rw [hT0]; exact Nat.zero_le _⟩ ⟨⟨rfl, rfl, rfl, rfl, trivial⟩, Sub.refl _, rfl⟩ ?_
  rintro ⟨n, T, c, bn⟩ hx
  dsimp only at hx ⊢
  obtain rfl := hx.bs
  have hSl : T.S.last = last := by rw [hx.S]; rfl
  have hn1 := hx.n1
  refine dr [cl T.bs (stC T.S T.k.bd (sv T.r T.S.pl.length)) TS, dead, dead, dead, dead, dead, cl b6 #[ptr T.bs] TPS, cl bw #[errV c] TW, cl bn #[.int .i64 n] 3] 99 (.t 0 (.t 1 (.t 2 (.t 3 (.t 4 (.t 5 (.t 6 (.t 7 (.t 8 (.t 9 (.t 10 .nil))))))))))) tab_ok mixed_ok (by kernel_rfl) (.cons (.dead (.dead (.dead (.dead (.dead (.cons (.cons (.cons .nil))))))))) ?_
  refine ld1 8 rfl rfl ?_
  refine ld1 6 rfl rfl ?_
  refine ld1 0 rfl rfl ?_
  have done : (n ≤ last → c ≠ 0) → Y = (ldX T, c) := fun h => by
    by_cases h0 : c = 0
    · have hno : ¬ n ≤ last := fun h2 => h h2 h0
      have := hx.go h0
      rw [show (st0 size last).last + 1 - n = 0 by show last + 1 - n = 0; omega] at this
      rw [← this, h0]; rfl
    · exact hx.no h0
  by_cases hle : n ≤ last
  case neg =>
    have d1 : decide ((n : Int) ≤ (T.S.last : Int)) = false := decide_eq_false (by omega)
    have d2 : (decide ((n : Int) ≤ (T.S.last : Int)) == true) = false := by rw [d1]; rfl
    iterate 3 refine cf d2 ?_
    refine cf d1 ?_
    refine cf rfl ?_
    exact ⟨(T, c), ⟨hx.ok, rfl, hx.g, hx.S, done (fun h => absurd h hle), hx.bd⟩, ⟨⟨rfl, rfl, rfl, trivial⟩, sub_app _, rfl⟩⟩
  have d1 : decide ((n : Int) ≤ (T.S.last : Int)) = true := decide_eq_true (by omega)
  have d2 : (decide ((n : Int) ≤ (T.S.last : Int)) == true) = true := by rw [d1]; rfl
  iterate 2 refine ct d2 ?_
  refine ld1 7 rfl rfl ?_
  refine ct d2 ?_
  by_cases h0 : c = 0
  case neg =>
    rw [errVs _ h0]
    refine ct d1 ?_
    refine cf rfl ?_
    exact ⟨(T, c), ⟨hx.ok, rfl, hx.g, hx.S, done (fun _ => h0), hx.bd⟩, ⟨⟨rfl, rfl, rfl, trivial⟩, sub_app _, rfl⟩⟩
  subst h0
  refine ct d1 ?_
  refine ct rfl ?_
  have hB0 := hx.bd0 hle rfl
  have hgo := hx.go rfl
  have hpl := hx.pl
  have hqn : q * (n - 1) ≤ 16777216 * 1048576 := Nat.mul_le_mul hq (by omega)
  rw [show (st0 size last).last + 1 - n = (last - n) + 1 by show last + 1 - n = _; omega, show (st0 size last).last = last from rfl, loadsD_step] at hgo
  have hlb := load_bd (x := ldX T) (q := q) (k := k) hB0 last n
  refine do_in 7 (c := 0) rfl rfl (fun h => absurd rfl h) (fun _ => ?_)
  refine inl (C := ⟨Tryz.prog, tab, 14, [_], w, none⟩) tab_ok Tryz.func63 rfl Tryz.ntmps63 rfl ?_
  refine ld1 6 rfl rfl ?_
  refine ld1 8 rfl rfl ?_
  refine cTm (α := StS) (Φ := fun w1 T' => (T'.S = ldS T.S (loadD (ldX T) T.S.last n).1 ∧ T'.k.D = (loadD (ldX T) T.S.last n).1.D ∧ T'.bs = T.bs ∧ DkGo w1 T.k T'.k) ∧ StOk T') (v := fun _ => errV (loadD (ldX T) T.S.last n).2) (es' := stEs) (stEs T) [cl b2 #[ptr T.k.bd] TPD, cl b6 #[ptr T.bs] TPS, cl bw #[errV 0] TW, cl bn #[.int .i64 n] 3] rfl
    (fun w1 hs hm => (load_any T hx.ok n (by omega) (by omega) (by omega) hB0 (by omega) hq w1 hm).mono fun e w' ⟨T', h1, h2, h3, h4⟩ => ⟨T', ⟨h1, h2⟩, h3, h4⟩) (fun w1 T' hw hT' => ?_)
  obtain ⟨⟨a1, a2, a3, a4⟩, a5⟩ := hT'
  refine bk ?_
  refine ⟨_, rfl, rfl, ?_⟩
  rw [hSl] at a1 a2 ⊢
  refine ld1 8 rfl rfl ?_
  intro bn2
  refine s1 9 rfl (by show 0 < 1; decide) ?_
  refine ld1 9 rfl rfl ?_
  refine .as ((n + 1 : Nat) : Int) (by omega) (by simp only [mn]; omega) (by simp only [mx]; omega) ?_
  refine s1 9 rfl (by show 0 < 1; decide) ?_
  have hX : ldX T' = (loadD (ldX T) last n).1 := by
    unfold ldX
    rw [a1, a2]; rfl
  refine ⟨(n + 1, T', (loadD (ldX T) last n).2, bn2), ⟨by omega, a5, a3, hx.g.trans (a4.back hw), ?_, fun h => ?_, fun h => ?_, by rw [a2]; exact hlb.1, fun h _ => by rw [a2, hlb.2.1 (by show n < last; have : n + 1 ≤ last := h; omega)]; exact hB0, ?_⟩, by dsimp only; omega, ⟨⟨rfl, rfl, rfl, rfl, trivial⟩, ?_, rfl⟩⟩
  · rw [a1, hX, hx.S]; rfl
  · rw [if_pos h] at hgo
    rw [hX, ← hgo]
    show loadsD (last + 1 - (n + 1)) _ _ _ = _
    rw [show last + 1 - (n + 1) = last - n by omega]
    rfl
  · rw [if_neg h] at hgo
    rw [hX, ← hgo]
  · have h1 : T'.S.pl = (loadD (ldX T) last n).1.pl := by rw [a1]; rfl
    rw [h1]
    have h2 := hlb.2.2
    have h3 : (ldX T).pl.length = T.S.pl.length := rfl
    rw [h3] at h2
    have h4 : q * (n + 1 - 1) = q * (n - 1) + q := by rw [Nat.add_sub_cancel, ← Nat.mul_succ, show (n - 1).succ = n by omega]
    show 8 * _ ≤ q * (n + 1 - 1)
    omega
  · show Sub (stEs T' ++ [cl b2 #[ptr T'.k.bd] TPD, cl b6 #[ptr T'.bs] TPS, cl bw #[errV (loadD (ldX T) last n).2] TW, cl bn2 #[.int .i64 ((n + 1 : Nat) : Int)] 3]) _
    rw [a4.bd, a3]
    exact (.cons (.cons (.cons (.cons (.cons (.cons (.cons (.cons (.drop (.cons .nil))))))))))
end Go.Proofs.YteamnhpplclmfaaGreatDoor
end
section
namespace Go.Proofs.YteamnhpplclmfaaGreatDoor
open Go.RowKit Go.Sx
set_option linter.unusedVariables false

structure OpenH (K : DkS) (o : OpS) (size : Nat) (x : Dk × Nat) : Prop where
  D : o.D = (dropsD (nameS (mfL x)) ((ldAll x.1 (mfC x) (mfL x)).1.D, (ldAll x.1 (mfC x) (mfL x)).2) (sortT ((ldAll x.1 (mfC x) (mfL x)).1.D.files.map (·.name)))).1
  c : o.code = (dropsD (nameS (mfL x)) ((ldAll x.1 (mfC x) (mfL x)).1.D, (ldAll x.1 (mfC x) (mfL x)).2) (sortT ((ldAll x.1 (mfC x) (mfL x)).1.D.files.map (·.name)))).2
  S : (⟨size, (ldAll x.1 (mfC x) (mfL x)).1.pl, (ldAll x.1 (mfC x) (mfL x)).1.pl.length, mfL x, (ldAll x.1 (mfC x) (mfL x)).1.length, 0⟩ : Sr) = o.S
set_option maxRecDepth 100000 in
set_option maxHeartbeats 2000000 in
theorem open_man {K K1 : DkS} {o : OpS} {w : World} {size b2 bs b6 bw c1 : Nat} (hg : DkGo w K K1) {q k : Nat} (hB : Bd q k K1.D) (hk : k ≤ 300000) (hq : q ≤ 16777216) (hH : OpenH K o size (K1.D, c1)) :
    CodeP ⟨Tryz.prog, tab, 86, [(mres (openE K)).w], w, none⟩ (dropS 5 ((Tryz.f19.body).getD .skip)) (retK ⟨Tryz.prog, tab, 86, [(mres (openE K)).w], w, none⟩ Tryz.f19 (fun v w' => OpenR K o w (.returned v) w')) ⟨[(2, ptr b2), (6, ptr b6), (7, ptr bw)], [rs (dkR K1), rs laidR, cl b2 #[ptr K1.bd] TPD, cl bs (stC (st0 size 1) K1.bd (.slice none 0 0)) TS, cl b6 #[ptr bs] TPS, cl bw #[errV c1] TW], []⟩ := by
  refine cutS tab_ok (fun y : Nat × Nat => y = (mfL (K1.D, c1), mfC (K1.D, c1))) (fun y => ⟨[(2, ptr b2), (6, ptr b6), (7, ptr bw)], [rs (dkR K1), rs laidR, cl b2 #[ptr K1.bd] TPD, cl bs (stC (st0 size y.1) K1.bd (.slice none 0 0)) TS, cl b6 #[ptr bs] TPS, cl bw #[errV y.2] TW], []⟩) 1 ?_ (fun y hy => by rw [hy]; exact open_loads (K := K) (K1 := K1) (o := o) (size := size) hg (mfL_le _) hB hk hq hH.D hH.c hH.S)
  refine ld1 4 rfl rfl ?_
  refine cvs (fun w1 hs => hasS_any K1 manB (hs.nth (k := 3) rfl) (hs.res (k := 0) rfl)) ?_
  cases hh : hasD K1.D manB with
  | false =>
    have e1 : mfL (K1.D, c1) = 1 := if_neg (by rw [hh]; simp)
    have e2 : mfC (K1.D, c1) = c1 := if_neg (by rw [hh]; simp)
    refine cf rfl ?_
    rw [e1, e2]
    exact ⟨(1, c1), rfl, ⟨⟨rfl, rfl, rfl, trivial⟩, Sub.refl _, rfl⟩⟩
  | true =>
  refine ct rfl ?_
  refine do_in 5 (c := c1) rfl rfl (fun h0 => ?_) (fun h0 => ?_)
  · have e1 : mfL (K1.D, c1) = 1 := if_neg (fun h => h0 h.2)
    have e2 : mfC (K1.D, c1) = c1 := if_neg (fun h => h0 h.2)
    rw [e1, e2]
    exact ⟨(1, c1), rfl, ⟨⟨rfl, rfl, rfl, trivial⟩, Sub.refl _, rfl⟩⟩
  subst h0
  have e1 : mfL (K1.D, 0) = toldP (readD K1.D manB).1 := if_pos ⟨hh, rfl⟩
  have e2 : mfC (K1.D, 0) = if (readD K1.D manB).2 = 0 ∧ toldP (readD K1.D manB).1 = 0 then 6 else (readD K1.D manB).2 := if_pos ⟨hh, rfl⟩
  have hrl : (readD K1.D manB).1.length ≤ 16777216 := by
    unfold readD
    split
    · exact Nat.zero_le _
    · split
      · exact Nat.zero_le _
      · rename_i f hf; have := hB.fe hf; exact Nat.le_trans this hq
  obtain ⟨rd, hrd⟩ : ∃ rd, rd = readD K1.D manB := ⟨_, rfl⟩
  rw [← hrd] at e1 e2 hrl
  rw [e1, e2]
  refine inl (C := ⟨Tryz.prog, tab, 14, [_], w, none⟩) tab_ok Tryz.func60 rfl Tryz.ntmps60 rfl ?_
  refine ld1 2 rfl rfl ?_
  refine coV (n := rd.1.length) (xs := Lib.byteCells rd.1) (e := 5) (z := 1) (fun v => .tuple #[v, errV rd.2]) (fun w1 hs => by rw [hrd]; exact read_any K1 manB w1 (hs.res (k := 0) rfl)) (fun rb hRb => ?_)
  obtain ⟨a, c, hsv, hac, hsp, _⟩ := sv_full hRb
  rw [hsv]
  refine dr [dead, dead, dead, dead, cl b6 #[ptr bs] TPS, dead, se rb (Lib.byteCells rd.1) 5] 5 (.t 0 (.t 1 (.t 2 (.t 3 (.t 4 (.n 5 .nil)))))) tab_ok mixed_ok (by kernel_rfl) (.dead (.dead (.dead (.dead (.cons (.dead (.cons .nil))))))) ?_
  refine ld1 4 rfl rfl ?_
  refine czs (fun w1 hs => told_any a rd.1 c hac hrl hsp w1 (by rw [← hsv]; exact Rd.own hs 6 rfl hRb)) ?_
  refine s1 3 rfl (by show 4 < 7; decide) ?_
  have fin : ∀ c', c' = (if rd.2 = 0 ∧ toldP rd.1 = 0 then 6 else rd.2) → ∀ s : Sy, Le ⟨[(2, ptr b2), (6, ptr b6), (7, ptr bw)], [rs (dkR K1), rs laidR, cl b2 #[ptr K1.bd] TPD, cl bs (stC (st0 size (toldP rd.1)) K1.bd (.slice none 0 0)) TS, cl b6 #[ptr bs] TPS, cl bw #[errV c'] TW], []⟩ s → cutK (fun y : Nat × Nat => y = (toldP rd.1, if rd.2 = 0 ∧ toldP rd.1 = 0 then 6 else rd.2)) (fun y => ⟨[(2, ptr b2), (6, ptr b6), (7, ptr bw)], [rs (dkR K1), rs laidR, cl b2 #[ptr K1.bd] TPD, cl bs (stC (st0 size y.1) K1.bd (.slice none 0 0)) TS, cl b6 #[ptr bs] TPS, cl bw #[errV y.2] TW], []⟩) (retK ⟨Tryz.prog, tab, 86, [(mres (openE K)).w], w, none⟩ Tryz.f19 (fun v w' => OpenR K o w (.returned v) w')) .normal s := fun c' hc s hs => ⟨(toldP rd.1, c'), by rw [hc], hs⟩
  by_cases hr : rd.2 = 0
  · rw [hr] at fin ⊢
    refine ct rfl ?_
    refine ld1 4 rfl rfl ?_
    iterate 3 refine ct rfl ?_
    refine ld1 3 rfl rfl ?_
    iterate 2 refine ct rfl ?_
    by_cases h0 : toldP rd.1 = 0
    · refine ct (by rw [h0]; rfl) ?_
      refine bk ?_
      refine ⟨6, rfl, rfl, ?_⟩
      exact fin 6 (by rw [if_pos ⟨rfl, h0⟩]) _ ⟨⟨rfl, rfl, rfl, trivial⟩, (.cons (.cons (.cons (.cons (.cons (.cons (.drop .nil))))))), rfl⟩
    · refine cf (by rw [beq_eq_false_iff_ne]; omega) ?_
      refine bk ?_
      refine ⟨0, rfl, rfl, ?_⟩
      exact fin 0 (by rw [if_neg (fun h => h0 h.2)]) _ ⟨⟨rfl, rfl, rfl, trivial⟩, (.cons (.cons (.cons (.cons (.cons (.cons (.drop .nil))))))), rfl⟩
  · have hr' := errVs _ hr
    rw [hr']
    iterate 5 refine cf rfl ?_
    refine cf rfl ?_
    refine cf rfl ?_
    refine bk ?_
    refine ⟨rd.2, hr'.symm, rfl, ?_⟩
    exact fin rd.2 (by rw [if_neg (fun h => hr h.1)]) _ ⟨⟨rfl, rfl, rfl, trivial⟩, (.cons (.cons (.cons (.cons (.cons (.cons (.drop .nil))))))), rfl⟩
structure Oy where
  K : DkS
  c : Nat
  b2 : Nat
  bs : Nat
  b6 : Nat
  bw : Nat
def oyF (size : Nat) (y : Oy) : Sy := ⟨[(2, ptr y.b2), (6, ptr y.b6), (7, ptr y.bw)], [rs (dkR y.K), rs laidR, cl y.b2 #[ptr y.K.bd] TPD, cl y.bs (stC (st0 size 1) y.K.bd (.slice none 0 0)) TS, cl y.b6 #[ptr y.bs] TPS, cl y.bw #[errV y.c] TW], []⟩
set_option maxRecDepth 100000 in
set_option maxHeartbeats 2000000 in
/-- a disk is opened -/
theorem open_any (K : DkS) (size : Nat) (h1 : 64 ≤ size) (h2 : size ≤ 1048576) (hgone : K.D.gone = false) {q k : Nat} (hB : Bd q k K.D) (hk : k ≤ 299999) (hq : q ≤ 16777216) (w : World) (h : (mres (openE K)).p w) :
    Calls Tryz.prog 19 ([ptr K.bd, .int .i64 size] : List Value).toArray w (OpenR K (openP K.D size) w) := by
  refine (enterP (c := ((Tryz.f19.body).getD .skip)) tab_ok Tryz.func19 rfl Tryz.ntmps19 rfl (mres_in h) (R := fun v w' => OpenR K (openP K.D size) w (.returned v) w') ?_).mono (fun e w' ⟨u, he, h1⟩ => by rw [he]; exact h1)
  refine cutS tab_ok (fun y : Oy => (y.K.D, y.c) = dr1 K.D ∧ DkGo w K y.K) (oyF size) 5 ?_ (fun y ⟨hy1, hy2⟩ => ?_)
  · have e1 : decide ((size : Int) < 64) = false := decide_eq_false (by omega)
    have e2 : (decide ((size : Int) < 64) == false) = true := by rw [e1]; rfl
    intro b2
    iterate 2 refine ct e2 ?_
    refine cf e1 ?_
    refine cf (decide_eq_false (by omega)) ?_
    refine ld1 2 rfl rfl ?_
    refine cvs (fun w1 hs => down_any K w1 (hs.res (k := 0) rfl)) ?_
    rw [hgone]
    refine cf rfl ?_
    refine ld1 2 rfl rfl ?_
    refine bu (c := stC (st0 size 1) K.bd (.slice none 0 0)) (by kernel_rfl) ?_
    intro bs b6
    refine s1 4 rfl (by show 0 < 1; decide) ?_
    intro bw
    refine ld1 4 rfl rfl ?_
    refine cvs (fun w1 hs => hasS_any K newB (hs.nth (k := 3) rfl) (hs.res (k := 0) rfl)) ?_
    cases hh : hasD K.D newB with
    | false =>
      refine cf rfl ?_
      exact ⟨⟨K, 0, b2, bs, b6, bw⟩, ⟨by unfold dr1; rw [if_neg (by rw [hh]; decide)], DkGo.refl _ _⟩, ⟨⟨rfl, rfl, rfl, trivial⟩, Sub.refl _, rfl⟩⟩
    | true =>
      refine ct rfl ?_
      refine doK 5 0 (c := 0) (fun D => dropD D newB) (fun K' v => [rs (dkR K'), rs laidR, cl b2 #[ptr K.bd] TPD, cl bs (stC (st0 size 1) K.bd (.slice none 0 0)) TS, cl b6 #[ptr bs] TPS, cl bw #[v] TW]) rfl rfl (by decide) rfl (fun _ => ?_) (fun K' v => rfl) (fun K1 h1 g1 => ?_)
      · refine inl (C := ⟨Tryz.prog, tab, 14, [_], w, none⟩) tab_ok Tryz.func58 rfl Tryz.ntmps58 rfl ?_
        refine ld1 2 rfl rfl ?_
        refine cTd 0 rfl (fun w1 hs => drop_any K _ w1 (hs.res (k := 0) rfl) (by have := hB.st; omega) hB.lf) (fun K1 h1 g1 => ?_)
        refine bk ?_
        exact ⟨K1, h1, g1, rfl, rfl⟩
      have ed : dr1 K.D = thenD (K.D, 0) (fun D => dropD D newB) := by unfold dr1; rw [if_pos hh]; rfl
      refine ⟨⟨K1, (thenD (K.D, 0) (fun D => dropD D newB)).2, b2, bs, b6, bw⟩, ⟨by rw [ed, h1], g1⟩, ⟨⟨rfl, rfl, rfl, trivial⟩, ?_, rfl⟩⟩
      unfold oyF
      dsimp only
      rw [g1.bd]
      exact Sub.refl _
  · have hx : (openP K.D size) = ⟨⟨size, (ldAll (dr1 K.D).1 (mfC (dr1 K.D)) (mfL (dr1 K.D))).1.pl, (ldAll (dr1 K.D).1 (mfC (dr1 K.D)) (mfL (dr1 K.D))).1.pl.length, mfL (dr1 K.D), (ldAll (dr1 K.D).1 (mfC (dr1 K.D)) (mfL (dr1 K.D))).1.length, 0⟩, _, _⟩ := rfl
    have hH : OpenH K (openP K.D size) size (y.K.D, y.c) := by rw [hy1]; exact ⟨rfl, rfl, rfl⟩
    have hB1 : Bd q (k + 1) y.K.D := by rw [show y.K.D = (dr1 K.D).1 by rw [← hy1]]; exact hB.dr1
    exact open_man hy2 hB1 (by omega) hq hH
set_option maxRecDepth 100000 in
theorem open_range (K : DkS) (size : Int) (h1 : size < 64 ∨ 1048576 < size) (hz : -9223372036854775808 ≤ size ∧ size ≤ 9223372036854775807) (w : World) :
    Calls Tryz.prog 19 ([ptr K.bd, .int .i64 size] : List Value).toArray w fun e w' => e = .returned (.tuple #[.pointer none, ErrN 2]) ∧ Below w.heap.size w w' := by
  refine enterV tab_ok Tryz.func19 rfl Tryz.ntmps19 rfl (St.start w) ?_
  intro b2
  by_cases h0 : size < 64
  · have e1 : decide (size < 64) = true := decide_eq_true h0
    have e2 : (decide (size < 64) == false) = false := by rw [e1]; rfl
    iterate 2 refine cf e2 ?_
    refine ct e1 ?_
    refine ct rfl ?_
    exact rt rfl
  · have e1 : decide (size < 64) = false := decide_eq_false h0
    have e2 : (decide (size < 64) == false) = true := by rw [e1]; rfl
    iterate 2 refine ct e2 ?_
    refine cf e1 ?_
    refine ct (decide_eq_true (by omega)) ?_
    exact rt rfl
set_option maxRecDepth 100000 in
theorem open_down (K : DkS) (size : Nat) (h1 : 64 ≤ size) (h2 : size ≤ 1048576) (hgone : K.D.gone = true) (w : World) (h : DkP K w) :
    Calls Tryz.prog 19 ([ptr K.bd, .int .i64 size] : List Value).toArray w fun e w' => e = .returned (.tuple #[.pointer none, ErrN 4]) ∧ Below w.heap.size w w' := by
  refine enterV tab_ok Tryz.func19 rfl Tryz.ntmps19 rfl (St.start w) ?_
  have e1 : decide ((size : Int) < 64) = false := decide_eq_false (by omega)
  have e2 : (decide ((size : Int) < 64) == false) = true := by rw [e1]; rfl
  intro b2
  iterate 2 refine ct e2 ?_
  refine cf e1 ?_
  refine cf (decide_eq_false (by omega)) ?_
  refine ld1 0 rfl rfl ?_
  refine cvs (fun w1 hs => down_any K w1 (dk_below h hs.below)) ?_
  rw [hgone]
  refine ct rfl ?_
  exact rt rfl
end Go.Proofs.YteamnhpplclmfaaGreatDoor
end
section
namespace Go.Proofs.YteamnhpplclmfaaGreatDoor
open Go.RowKit Go.Sx
set_option linter.unusedVariables false
def p30 : Bs := List.replicate 30 0
def al1 : OpS := openP ⟨0, 0, false, false, 1000, []⟩ 64
def al2 : Sd × Nat := appendS ⟨al1.S, al1.D⟩ [p30, p30, p30]
def al3 : Sd × Nat := syncS al2.1
theorem al1_ok : al1.code = 0 ∧ al1.S.pl = [] ∧ al1.S.stuck = 0 ∧ al1.S.length = 0 ∧ al1.S.last = 1 ∧ al1.D.quota = 1000 ∧ al1.D.steps = 0 := by
  refine ⟨by kernel_rfl, by kernel_rfl, by kernel_rfl, by kernel_rfl, by kernel_rfl, by kernel_rfl, by kernel_rfl⟩
theorem al2_ok : al2.2 = 0 ∧ al2.1.S.last = 3 ∧ al2.1.S.pl.length = 3 ∧ al2.1.S.sure = 0 ∧ al2.1.S.length = 38 := by
  refine ⟨by kernel_rfl, by kernel_rfl, by kernel_rfl, by kernel_rfl, by kernel_rfl⟩
theorem al3_ok : al3.2 = 0 ∧ al3.1.S.sure = 3 := by
  refine ⟨by kernel_rfl, by kernel_rfl⟩
end Go.Proofs.YteamnhpplclmfaaGreatDoor
end
section
namespace Go.Proofs.YteamnhpplclmfaaGreatDoor
open Go.RowKit Go.Sx
set_option linter.unusedVariables false
theorem Bd.loads {q k0 : Nat} {last : Nat} : ∀ (k n : Nat) (x : Ld), k ≤ last + 1 - n → Bd q k0 x.D → Bd q (k0 + 2) (loadsD k x last n).1.D := by
  intro k
  induction k with
  | zero => exact fun n x _ h => h.le (by omega)
  | succ k ih =>
    intro n x hk h
    have h1 := load_bd h last n
    rw [loadsD_step]
    split
    · by_cases hn : n < last
      · exact ih (n + 1) _ (by omega) (by rw [h1.2.1 hn]; exact h)
      · have h0 : k = 0 := by omega
        subst h0
        exact h1.1
    · exact h1.1
theorem Bd.drops {q : Nat} {b : Bs} (l : List Bs) : ∀ {k : Nat} (x : Dk × Nat), Bd q k x.1 → Bd q (k + l.length) (dropsD b x l).1 := by
  induction l with
  | nil => exact fun x h => h
  | cons f l ih =>
    intro k x h
    rw [dropsD, List.length_cons]
    have h1 : Bd q (k + 1) (if List.isPrefixOf [115, 101, 103, 45] f && decide (b < f) then thenD x fun D => dropD D f else x).1 := by
      split
      · exact h.then (h.drop _)
      · exact h.up
    exact (ih _ h1).le (by omega)
theorem Bd.ldOf {q k : Nat} {D : Dk} (h : Bd q k D) : Bd q (k + 3) (ldOf D).1.D := by
  unfold Go.Proofs.YteamnhpplclmfaaGreatDoor.ldOf ldAll
  split
  · exact Bd.loads _ _ _ (by omega) h.dr1
  · exact h.dr1.le (by omega)
theorem Bd.open {q k : Nat} {D : Dk} (h : Bd q k D) (size : Nat) : Bd q (2 * k + 6) (openP D size).D := by
  have h1 := h.ldOf
  have h2 := h1.f.l
  refine (Bd.drops _ _ (show Bd q (k + 3) (((Go.Proofs.YteamnhpplclmfaaGreatDoor.ldOf D).1.D, (Go.Proofs.YteamnhpplclmfaaGreatDoor.ldOf D).2) : Dk × Nat).1 from h1)).le ?_
  rw [(sortT_perm _).length_eq, List.length_map]
  omega
theorem Bd.puts {q : Nat} {size : Nat} (ps : List Bs) : ∀ {k : Nat} (x : Pt), Bd q k x.D → Bd q (k + 5 * ps.length) (putsD size x ps).1.D := by
  induction ps with
  | nil => exact fun x h => h
  | cons p ps ih =>
    intro k x h
    rw [putsD, List.length_cons]
    have h1 := (Bd.put h size p).2
    split
    · exact (ih _ h1).le (by omega)
    · exact h1.le (by omega)
theorem Bd.appS {q k : Nat} {x : Sd} (h : Bd q k x.D) (ps : List Bs) : Bd q (k + 5 * ps.length) (appendS x ps).1.D := by
  have hp := Bd.puts (size := x.S.size) ps ⟨x.D, x.S.last, x.S.length⟩ h
  have hl := h.le (k' := k + 5 * ps.length) (by omega)
  unfold appendS
  split
  · exact hl
  · split
    · exact hl
    · split
      · exact hl
      · split
        · exact hl
        · split
          · exact hp
          · exact hp
theorem Bd.syncS {q k : Nat} {x : Sd} (h : Bd q k x.D) : Bd q (k + 1) (syncS x).1.D := by
  have h1 := h.sync (nameS x.S.last)
  have hl := h.up
  unfold Go.Proofs.YteamnhpplclmfaaGreatDoor.syncS
  split
  · exact hl
  · split
    · exact hl
    · split
      · split
        · exact h1
        · exact h1
      · exact hl
theorem appS_any (T : StS) (hT : StOk T) (ra : Nat → Prop) (a : Option Addr) (c : Nat) (vs : List Value) (ps : List Bs) (hP : Pls vs ps) (hk : ps.length ≤ 100) (hm : ∀ p ∈ ps, p.length ≤ maxLen) (hpl : T.S.pl.length ≤ 1000000) (hlast : T.S.last ≤ 1500000) (hlen : T.S.length ≤ 50000000)
    {q k0 : Nat} (hB : Bd q k0 T.k.D) (hk0 : k0 ≤ 900000) (hq : q ≤ 16777216) (w : World) (h : (stR T).p w) (hA : ArgP T ra w (.slice a ps.length c) vs ps) :
    Calls Tryz.prog 12 ([ptr T.bs, .slice a ps.length c] : List Value).toArray w (TurnS T w (appendS ⟨T.S, T.k.D⟩ ps).1 (appendS ⟨T.S, T.k.D⟩ ps).2) := by
  by_cases h1 : T.S.stuck = 0
  · cases h2 : bigP ps with
    | true => exact append_ref T hT ra a c vs ps hP hk hm hpl hlast hlen hB hk0 hq w h hA (.inr (.inl h2))
    | false =>
      by_cases h3 : (T.k.D.quota : Int) - usedD T.k.D.files < needP T.S ps
      · exact append_ref T hT ra a c vs ps hP hk hm hpl hlast hlen hB hk0 hq w h hA (.inr (.inr (.inl h3)))
      · cases h4 : T.k.D.gone with
        | true => exact append_ref T hT ra a c vs ps hP hk hm hpl hlast hlen hB hk0 hq w h hA (.inr (.inr (.inr h4)))
        | false => exact append_go T hT ra a c vs ps hP hk hm hpl hlast hlen hB hk0 hq w h hA h1 h2 h3 h4
  · exact append_ref T hT ra a c vs ps hP hk hm hpl hlast hlen hB hk0 hq w h hA (.inl h1)
section
variable {C : Cx} {L : List Ent}
/-- a disk is opened: the call -/
theorem cOpen {N : Nat} {M : Bks} {B : World} {F : Option Nat} {L : List Ent} {K : DkS} {size : Nat} (rest : List Ent) {next : Value → List Ent → Prop} (hL : (openE K ++ rest).Perm L) (h1 : 64 ≤ size) (h2 : size ≤ 1048576) (hgone : K.D.gone = false) {q k : Nat} (hB : Bd q k K.D) (hk : k ≤ 299999) (hq : q ≤ 16777216)
    (go0 : (openP K.D size).code = 0 → ∀ T : StS, T.S = (openP K.D size).S → T.k.D = (openP K.D size).D → T.k.bd = K.bd → StOk T → next (.tuple #[ptr T.bs, .nilIface]) (rs (stR T) :: rest))
    (go1 : (openP K.D size).code ≠ 0 → ∀ K' : DkS, K'.D = (openP K.D size).D → K'.bd = K.bd → next (.tuple #[.pointer none, errV (openP K.D size).code]) (rs (dkR K') :: rs laidR :: rest)) :
    CallP ⟨Tryz.prog, tab, N, M, B, F⟩ 19 [ptr K.bd, .int .i64 size] L next := by
  refine ⟨fun w hs => ?_⟩
  have hs1 := hs.perm hL
  have hp : St M B w ([] ++ [rs (mres (openE K))] ++ rest) := St.pack (X := []) (by simpa using hs1)
  have h0 : ([] ++ [rs (mres (openE K))] ++ rest)[0]? = some (rs (mres (openE K))) := rfl
  refine (open_any K size h1 h2 hgone hB hk hq w (hp.res h0)).mono fun e w' h => ?_
  rcases h with ⟨hc, T, ⟨a1, a2, a3, a4⟩, a5, rfl, ht⟩ | ⟨hc, K', ⟨a1, a2, a3⟩, rfl, ht⟩
  · exact ⟨_, _, rfl, hp.turn h0 ht, go0 hc T a1 a2 a3 a5⟩
  · refine ⟨_, _, rfl, ?_, go1 hc K' a1 a2⟩
    have h3 : St M B w' ([] ++ [rs (mres (openE K'))] ++ rest) := hp.turn h0 ht
    exact h3.unpack
/-- a store's function is called -/
theorem cTs (k : Nat) {g : FuncId} {vs : List Value} {T : StS} {x : Sd} {code : Nat} {next : Value → List Ent → Prop} (hk : L[k]? = some (rs (stR T)))
    (h : ∀ w, St C.M C.B w L → Calls C.P g vs.toArray w (TurnS T w x code)) (go : ∀ T' : StS, T'.S = x.S → T'.k.D = x.D → T'.bs = T.bs → T'.k.bd = T.k.bd → StOk T' → next (errV code) (L.set k (rs (stR T')))) : CallP C g vs L next :=
  cT (α := StS) (Φ := fun T' => (T'.S = x.S ∧ T'.k.D = x.D ∧ T'.bs = T.bs ∧ T'.k.bd = T.k.bd) ∧ StOk T') (v := fun _ => errV code) (r' := stR) k hk (fun w hs => (h w hs).mono fun e w' ⟨T', ⟨h1, h2, h3, h4⟩, h5, h6, h7⟩ => ⟨T', ⟨⟨h1, h2, h3, h4.bd⟩, h5⟩, h6, h7⟩) (fun T' hT => go T' hT.1.1 hT.1.2.1 hT.1.2.2.1 hT.1.2.2.2 hT.2)
/-- a disk's function is called, where a store holds it -/
theorem cTk (k : Nat) {g : FuncId} {vs : List Value} {T : StS} {α : Type} {Φ : α → Prop} {v : α → Value} {K' : α → DkS} {next : Value → List Ent → Prop} (hk : L[k]? = some (rs (stR T)))
    (h : ∀ w, DkP T.k w → Calls C.P g vs.toArray w fun e w' => ∃ x, Φ x ∧ (K' x).bd = T.k.bd ∧ e = .returned (v x) ∧ Turns w w' (dkR T.k) (dkR (K' x))) (go : ∀ x, Φ x → (K' x).bd = T.k.bd → next (v x) (L.set k (rs (stR { T with k := K' x })))) : CallP C g vs L next :=
  cT (α := α) (Φ := fun x => Φ x ∧ (K' x).bd = T.k.bd) (v := v) (r' := fun x => stR { T with k := K' x }) k hk (fun w hs => (h w (stR_dk (hs.res hk))).mono fun e w' ⟨x, h1, h2, h3, h4⟩ => ⟨x, ⟨h1, h2⟩, h3, by
    have := mres_turn (es := stEs T) 1 (hs.res hk) rfl h4
    rw [show (stEs T).set 1 (rs (dkR (K' x))) = stEs { T with k := K' x } from by show [_, _, _, _, _] = [_, _, _, _, _]; rw [← h2]] at this
    exact this⟩) (fun x hx => go x hx.1 hx.2)
end
/-- where other things lie -/
def oth (B : World) (L : List Ent) (k : Nat) (b : Nat) : Prop := b < B.heap.size ∨ ∃ i e, i ≠ k ∧ L[i]? = some e ∧ e.A b
theorem oth_far {B w : World} {L : List Ent} (hs : St [] B w L) {k : Nat} {T : StS} (hk : L[k]? = some (rs (stR T))) {b : Nat} (h : oth B L k b) : b < w.heap.size ∧ ¬ (stR T).w b := by
  rcases h with h | ⟨i, e, hi, he, hA⟩
  · refine ⟨Nat.lt_of_lt_of_le h hs.size, fun hw => ?_⟩
    rcases hs.ownW _ (List.mem_of_getElem? hk) b ((rsW _ _).2 hw) with h1 | ⟨_, h1, _⟩
    · omega
    · cases h1
  · exact ⟨hs.ltA (List.mem_of_getElem? he) hA, fun hw => (pw_ne hs.apart hk he (fun e => hi e.symm) b).1 ((rsW _ _).2 hw) hA⟩
theorem rdb_of {rr : Nat → Prop} {w : World} {v : Value} {xs : List Value} (h : Rd w v xs) (hb : ∀ b o n c, v = .slice (some ⟨b, o, none⟩) n c → xs ≠ [] → rr b) : RdB rr w v xs := by
  obtain ⟨a, c, h0, h⟩ := h
  refine ⟨a, c, h0, fun hx => ?_⟩
  obtain ⟨b, o, h1, h3, h4⟩ := h hx
  exact ⟨b, o, h1, hb b o _ _ (by rw [h0, h1]) hx, h3, h4⟩
end Go.Proofs.YteamnhpplclmfaaGreatDoor
end
