/- For all texts, steps and numbers the law AuditFollows returns true, and they read as they did; no condition. -/
import Derived.Shelf.SlIterI.Nil
import Derived.Shelf.SortM.Plain
import Derived.Shelf.SortM.SortNone
import Derived.Ground.GgzProg
import Derived.Ground.SlgmProg
import Derived.Test.YtbgefoamhdgnaaaGreatDoorProg
import Derived.Scope
import Derived.Laws.Externs
import Derived.Laws.Runes
import Derived.WalkSmall
import Derived.Lib.ItoaLen
import Derived.Test.YtbgefoamhdgnaaaGreatDoorFb5
set_option maxRecDepth 100000
set_option maxHeartbeats 16000000
set_option linter.unusedVariables false
set_option linter.unusedSimpArgs false
namespace Go.Sx
section
open Go Go.RowKit
variable {C : Cx} {ops : Array Oper} {L0 : List Ent} {f : List Nat} {Q : Act → World → Prop}
theorem Sub.none (L : List Ent) : Sub [] L := .nil
theorem dG_free (n : Nat) : ∀ (l : Array Bool) (s : Sy), dG C ops L0 f Q n l s → dG C ops [] [] Q n l s := by
 induction n with
 | zero => intro l s h; exact h
 | succ n ih =>
  intro l s h
  exact ⟨h.1, fun j hj o ho a w hf hs => (h.2 j hj o ho a w hf hs).mono fun u L' hk => ⟨fun _ => Sub.none _, ih _ _ hk.2⟩⟩
def mxs (C : Cx) (ops : Array Oper) : List Nat → (Sy → Prop) → Sy → Prop
 | [], K, s => K s
 | i :: r, K, s => dt C ops [] i (mxs C ops r K) s
def mxOk (ops : Array Oper) : List Nat → Array Bool → Bool
 | [], _ => true
 | i :: r, l => tOk ops [] l i && mxOk ops r (l.setIfInBounds i true)
def mxl : List Nat → Array Bool → Array Bool
 | [], l => l
 | i :: r, l => mxl r (l.setIfInBounds i true)
theorem mxs_ok (hT : TabOk C.P C.T) (hsel : Region.noSelect ops = true) {K : Sy → Prop} (ms : List Nat) : ∀ (n : Nat) (l : Array Bool) (s : Sy), Shut ops l → mxOk ops ms l = true →
 (∀ s', s'.L = s.L → K s' → Shut ops (mxl ms l) → dG C ops [] [] Q n (mxl ms l) s') → mxs C ops ms K s → dG C ops [] [] Q (n + ms.length) l s := by
 induction ms with
 | nil => intro n l s hsh _ hK h; exact hK s rfl h hsh
 | cons i r ih =>
  intro n l s hsh hok hK h
  simp only [mxOk, Bool.and_eq_true] at hok
  obtain ⟨hk, hr⟩ := hok
  simp only [tOk, Bool.and_eq_true, Bool.not_eq_true'] at hk
  obtain ⟨⟨⟨k1, k2⟩, k3⟩, k4⟩ := hk
  obtain ⟨σ, L, D⟩ := s
  change dt C ops [] i (mxs C ops r K) ⟨σ, L, D⟩ at h
  simp only [dt, opAt, qbI] at h
  have hsb : Sub [] L := Sub.none L
  split at h
  · rename_i o ho
    have hf' : ∀ j, Qo j [] = true → (ops[j]?).isSome = true → Dep ops i j := fun j hj _ => by cases hj
    have hrd : i ∈ Region.ready .any ops l := by simpa using k2
    obtain ⟨b, hp, hq, hb⟩ := gd_ok (C := C) (s := ⟨σ, L, D⟩) h
    cases b with
    | false => exact qa8 (v := undef) ho hsel k3 hf' (n + r.length) l _ hsh (Region.free_spec ho k1) hrd hsb (fun a ha => .inr ⟨hb a ha, rfl⟩) (ih n _ _ (hsh.next hrd) hr hK (hq rfl))
    | true =>
     have key : ∃ v, mxs C ops r K ⟨put C.N o.dst v σ, L, D⟩ ∧ ∀ a, Fits C.N ⟨σ, L, D⟩ a → ∀ w, St C.M C.B w [] → FinT C v w ((execOp a.eval o).run C.P w) := by
      obtain ⟨v, hv, hr'⟩ := tkV_ok hT (qcE σ) (hp rfl)
      refine ⟨v, hv, fun a ha w hs => ?_⟩
      rw [execOp_congr o (fun cs b => Region.noSelect_spec hsel i o cs b ho) (fun x hx => qef ha (qcb (hp rfl) x hx))]
      exact hr' w hs
     obtain ⟨v, hv, hr'⟩ := key
     exact qa8 (v := v) ho hsel k3 hf' (n + r.length) l _ hsh (Region.free_spec ho k1) hrd hsb (fun a ha => .inl ⟨hb a ha, hr' a ha⟩) (ih n _ _ (hsh.next hrd) hr hK hv)
  · exact h.elim
theorem drm (ms : List Nat) (L0 : List Ent) (fs : List Nat) (od : Od) (hT : TabOk C.P C.T) {id : Nat} {K : Exit → Sy → Prop} {s : Sy} (hm : C.P.follows .mixedOrders = true)
 (hok : (Region.noSelect ops && Nat.ble od.len (ops.size - ms.length) && Nat.ble ms.length ops.size && mxOk ops ms (Array.replicate ops.size false) && Zb ops fs od (mxl ms (Array.replicate ops.size false))) = true) (hL : Sub L0 s.L) (h : mxs C ops ms (dx C ops L0 fs od (K .normal)) s) : qb8 C id ops K s := by
 simp only [Bool.and_eq_true] at hok
 obtain ⟨⟨⟨⟨h1, h2⟩, h5⟩, h6⟩, h3⟩ := hok
 refine ⟨fun n a w hf hs => ?_⟩
 have hsh : Shut ops (Array.replicate ops.size false) := by
  intro j o ho hj
  have hlt : j < ops.size := (Array.getElem?_eq_some_iff.1 ho).1
  simp [hlt] at hj
 have h4 := mxs_ok (Q := Q9 C (K .normal)) hT h1 ms (ops.size - ms.length) (Array.replicate ops.size false) s hsh h6
  (fun s' hs' hk hsh' => dG_free _ _ _ (dx_ok (L0 := L0) (f := fs) hT h1 od (ops.size - ms.length) _ s' (by simpa using h2) hsh' h3 (.inl (by rw [hs']; exact hL)) hk)) h
 rw [Nat.sub_add_cancel (Nat.le_of_ble_eq_true h5)] at h4
 exact wpIn_region_any hm (dG_any (Q' := Qof C K) (fun a w hq => hq) _ _ _ h4 a _ hf hs.drew)
end
end Go.Sx
namespace Go.Proofs.YtbgefoamhdgnaaaGreatDoor
section
open Go.RowKit Go.Sx
theorem qba (l : List Bool) : (boC l).length = l.length := by simp [boC]
theorem qaV (l : List Bool) (x : Bool) : boC (l ++ [x]) = boC l ++ [.bool x] := by simp [boC]
theorem qbD (xs : List Bool) (j : List Value) (i k : Nat) (h : k < xs.length) (h1 : i ≤ k) (h2 : k < xs.length - i) (q : Int) (hq : q = k) : (boC (qcj xs i) ++ j).toArray[nad 0 (nmu q.toNat 1)]? = some (.bool (xs.getD k false)) := by
 subst hq
 rw [qi, qh, Nat.zero_add, Nat.mul_one, Int.toNat_natCast, List.getElem?_toArray, List.getElem?_append_left (by rw [qba, Qw]; exact h)]
 unfold boC
 rw [List.getElem?_map, qbE _ _ _ h, if_neg (by omega)]; rfl
theorem bo_set (l : List Bool) (j : List Value) (k : Nat) (h : k < l.length) (v : Bool) (q : Int) (hq : q = k) : (boC l ++ j).toArray.setIfInBounds (nad 0 (nmu q.toNat 1)) (.bool v) = (boC (l.set k v) ++ j).toArray := by
 subst hq
 rw [qi, qh, Nat.zero_add, Nat.mul_one, Int.toNat_natCast, List.setIfInBounds_toArray, List.set_append_left _ _ (by rw [qba]; exact h)]
 unfold boC
 rw [List.map_set]
theorem bo_lt (l : List Bool) (j : List Value) (k : Nat) (h : k < l.length) (q : Int) (hq : q = k) : nad 0 (nmu q.toNat 1) < (boC l ++ j).toArray.size := by
 subst hq
 rw [qi, qh, Nat.zero_add, Nat.mul_one, Int.toNat_natCast, List.size_toArray, List.length_append, qba]; omega
theorem _root_.Go.Sx.Rw.same {z n : Nat} {r : Sx.Own} {xs ys : List Value} (h : Rw z n r xs) (hl : ys.length = xs.length) : Rw z n r ys := by
 refine ⟨hl.trans h.1, ?_⟩
 cases r with
 | none => exact h.2
 | some x => obtain ⟨h1, h2, h3⟩ := h.2; exact ⟨h1, h2, by rw [List.length_append, hl, ← List.length_append]; exact h3⟩
theorem qW {z n : Nat} {r : Sx.Own} {xs : List Value} (h : Rw z n r xs) : ∃ a c, sv r n = .slice a n c := by
 cases r with
 | none => have : n = 0 := h.2; subst this; exact ⟨none, 0, rfl⟩
 | some x => exact ⟨_, _, rfl⟩
theorem steps_any (m n : Nat) (hm : 1 ≤ m) (hmn : m ≤ n) (hn : n ≤ 1048576) (w : World) : Calls Tryz.prog 127 ([.int .i64 m, .int .i64 n] : List Value).toArray w fun e w' =>
 ∃ r, e = .returned (.tuple #[sv r (zg m n).1.length, .bool (zg m n).2]) ∧ Rw 1 (zg m n).1.length r (boC (zg m n).1.reverse) ∧ zq w w' r (boC (zg m n).1.reverse) TTn ∧ Below w.heap.size w w' := by
 have hTl : (zg m n).1.length ≤ 1048576 := Nat.le_trans (stp_len n m n) hn
 obtain ⟨T, hT⟩ : ∃ T, T = (zg m n).1 := ⟨_, rfl⟩
 obtain ⟨A, hA⟩ : ∃ A, A = (zg m n).2 := ⟨_, rfl⟩
 rw [← hT, ← hA]
 rw [← hT] at hTl
 refine (enter qc Tryz.func127 rfl Tryz.ntmps127 rfl (St.start w) (R := fun v w' => ∃ r, v = .tuple #[sv r T.length, .bool A] ∧ Rw 1 T.length r (boC T.reverse) ∧ zq w w' r (boC T.reverse) TTn ∧ Below w.heap.size w w') ?_).mono (fun e w' ⟨v, he, r, h1, h2⟩ => ⟨r, by rw [he, h1], h2⟩)
 refine lp qc (fun x : Nat × Nat × List Bool × Bool × Sx.Own => 1 ≤ x.1 ∧ x.1 ≤ x.2.1 ∧ x.2.1 ≤ 1048576 ∧ Rw 1 x.2.2.1.length x.2.2.2.2 (boC x.2.2.1) ∧ x.2.2.1 ++ (zg x.1 x.2.1).1 = T ∧ (x.2.2.2.1 && (zg x.1 x.2.1).2) = A)
  (fun x => ⟨[(0, .int .i64 x.1), (1, .int .i64 x.2.1), (4, sv x.2.2.2.2 x.2.2.1.length), (5, .bool x.2.2.2.1)], [se x.2.2.2.2 (boC x.2.2.1) TTn], []⟩) (fun x => x.2.1) (m, n, [], true, none)
  ⟨hm, hmn, hn, Rw.nil 1, by rw [hT]; rfl, by rw [hA]; rfl⟩ ⟨⟨rfl, rfl, rfl, rfl, trivial⟩, .pad .nil, rfl⟩ ?_
 rintro ⟨m', n', dn, av, r⟩ ⟨h1, h2, h3, hR, hd, ha⟩
 simp only at h1 h2 h3 hR hd ha
 have hdl : dn.length ≤ 1048576 := by rw [← hd] at hTl; simp only [List.length_append] at hTl; omega
 refine cd (fun hlt => ?_) (fun hge => ?_)
 · have hlt' : m' < n' := by (try simp only at hlt); omega
   obtain ⟨c1, c2, c3⟩ := QQ n' (by omega) h3
   refine cv (qcS n' h3) ?_
   refine cd (fun hc => ?_) (fun hc => ?_)
   · have hc' : m' ≤ qq n' := by (try simp only at hc); omega
     have hsp := stp_left m' n' h1 h3 hlt' hc'
     refine .mk #[.bool true] TTn (fun w => bsTn _ w) (fun bn => ?_)
     refine ap1 (r := r) (n := dn.length) (xs := boC dn) 0 1 qc rfl infoTn rfl rfl hR rfl rfl (by omega) (by unfold maxLen; omega) (fun r2 hr2 => ?_)
     rw [← qaV] at hr2
     refine ⟨(m', qq n', dn ++ [true], av, r2), ⟨h1, hc', by (try simp only); omega, by simpa using hr2, by rw [hsp] at hd; simpa using hd, by rw [hsp] at ha; exact ha⟩, c2, ?_⟩
     simp only [qaV, List.length_append, List.length_cons, List.length_nil]
     exact ⟨⟨rfl, rfl, rfl, rfl, trivial⟩, .cons .nil, rfl⟩
   · have hc' : ¬ m' ≤ qq n' := by (try simp only at hc); omega
     have hsp := qey m' n' h1 h3 hlt' hc'
     refine .mk #[.bool false] TTn (fun w => bsTn _ w) (fun bn => ?_)
     refine ap1 (r := r) (n := dn.length) (xs := boC dn) 0 1 qc rfl infoTn rfl rfl hR rfl rfl (by omega) (by unfold maxLen; omega) (fun r2 hr2 => ?_)
     refine .as ((m' - qq n' : Nat) : Int) (by (try simp only); omega) (by simp only [mn]; omega) (by simp only [mx]; omega) ?_
     refine .as ((n' - qq n' : Nat) : Int) (by (try simp only); omega) (by simp only [mn]; omega) (by simp only [mx]; omega) ?_
     rw [← qaV] at hr2
     refine ⟨(m' - qq n', n' - qq n', dn ++ [false], false, r2), ⟨by (try simp only); omega, by (try simp only); omega, by (try simp only); omega, by simpa using hr2, by rw [hsp] at hd; simpa using hd, by rw [hsp] at ha; simpa using ha⟩, by (try simp only); omega, ?_⟩
     simp only [qaV, List.length_append, List.length_cons, List.length_nil]
     exact ⟨⟨rfl, rfl, rfl, rfl, trivial⟩, .cons .nil, rfl⟩
 · have hge' : n' ≤ m' := by (try simp only at hge); omega
   rw [stp_end m' n' h1 hge'] at hd ha
   simp only [List.append_nil, Bool.and_true] at hd ha
   subst hd ha
   clear hT hA hge
   obtain ⟨sa, sc, hv⟩ := qW hR
   rw [hv]
   refine inl (C := ⟨Tryz.prog, tab, 32, [], w, none⟩) qc Tryz.func137 rfl Tryz.ntmps137 rfl ?_
   refine .as ((dn.length : Int) - 1 - (0 : Nat)) (by simp) (by simp only [mn]; omega) (by simp only [mx]; omega) ?_
   refine lp qc (fun i : Nat => i ≤ dn.length) (fun i => ⟨[(0, .slice sa dn.length sc), (2, .int .i64 i), (3, .int .i64 ((dn.length : Int) - 1 - i))], [se r (boC (qcj dn i)) TTn], []⟩) (fun i => dn.length - i) 0 (Nat.zero_le _) ⟨⟨rfl, rfl, rfl, trivial⟩, by rw [qeL]; exact .cons .nil, rfl⟩ ?_
   intro i hi
   refine cd (fun hlt => ?_) (fun hge => ?_)
   · have hlt' : i < dn.length - 1 - i := by (try simp only at hlt); omega
     rcases r with _ | ⟨b, c, jk⟩
     · have := hR.2; omega
     injection hv with hv1 hv2 hv3
     subst hv1
     have e1 : ((dn.length : Int) - 1 - i) = ((dn.length - 1 - i : Nat) : Int) := by omega
     refine drm [2, 3] [cl b (boC (qcj dn i) ++ jk).toArray TTn] [13, 14, 15] (.t 0 (.t 1 (.t 4 (.t 5 (.t 6 (.t 7 (.t 8 (.t 9 (.t 10 (.t 11 (.t 12 (.n 13 (.n 14 (.n 15 .nil)))))))))))))) qc qe (by kernel_rfl) (.cons .nil) ?_
     refine ⟨by omega, by omega, ?_⟩
     refine ld1 0 rfl (v := .bool (dn.getD (dn.length - 1 - i) false)) (qbD dn jk i _ (by omega) (by omega) (by omega) _ e1) ?_
     refine ⟨by omega, by omega, ?_⟩
     refine ld1 0 rfl (v := .bool (dn.getD i false)) (qbD dn jk i _ (by omega) (by omega) (by omega) _ rfl) ?_
     refine ⟨by omega, by omega, ?_⟩
     refine s1 0 rfl (bo_lt _ jk i (by rw [Qw]; omega) _ rfl) ?_
     refine ⟨by omega, by omega, ?_⟩
     rw [bo_set _ jk i (by rw [Qw]; omega) _ _ rfl]
     refine s1 0 rfl (bo_lt _ jk (dn.length - 1 - i) (by rw [List.length_set, Qw]; omega) _ e1) ?_
     rw [bo_set _ jk (dn.length - 1 - i) (by rw [List.length_set, Qw]; omega) _ _ e1, qeM dn i hlt']
     refine .as ((i + 1 : Nat) : Int) (by simp) (by simp only [mn]; omega) (by simp only [mx]; omega) ?_
     refine .as ((dn.length : Int) - 1 - (i + 1 : Nat)) (by omega) (by simp only [mn]; omega) (by simp only [mx]; omega) ?_
     exact ⟨i + 1, by omega, by (try simp only); omega, ⟨⟨rfl, rfl, rfl, trivial⟩, .cons .nil, rfl⟩⟩
   · have hge' : dn.length ≤ 2 * i + 1 := by (try simp only at hge); omega
     rw [revI_end dn i hge' hi]
     refine bk ?_
     exact ⟨fun w1 hs => ⟨r, by (try rw [hv]); rfl, hR.same (by rw [qba, qba, List.length_reverse]), Qx hs rfl 0 rfl, hs.below⟩⟩
end
end Go.Proofs.YtbgefoamhdgnaaaGreatDoor
namespace Go.Sx
section
open Go Go.RowKit
def takeS : Nat → Code → Code
 | 0, _ => .skip
 | k + 1, .seq a b => .seq a (takeS k b)
 | _ + 1, _ => .skip
def dropS : Nat → Code → Code
 | 0, c => c
 | k + 1, .seq _ b => dropS k b
 | _ + 1, c => c
def cutK {α : Type} (J : α → Prop) (f : α → Sy) (K : Exit → Sy → Prop) : Exit → Sy → Prop := fun e s => match e with
 | .normal => ∃ x, J x ∧ Le (f x) s
 | e => K e s
theorem cutS {C : Cx} (hT : TabOk C.P C.T) {α : Type} (J : α → Prop) (f : α → Sy) {K : Exit → Sy → Prop} : ∀ (k : Nat) {c : Code} {s : Sy}, cx C (takeS k c) (cutK J f K) s → (∀ x, J x → CodeP C (dropS k c) K (f x)) → CodeP C c K s := by
 have base : ∀ {c : Code} {s : Sy}, (∃ x, J x ∧ Le (f x) s) → (∀ x, J x → CodeP C c K (f x)) → CodeP C c K s := fun {c s} ⟨x, hx, hl⟩ h => ⟨fun n a w hf hs => (h x hx).go n a w (Fits.le hf hl) (hs.sub hl.l)⟩
 intro k
 induction k with
 | zero => exact fun {c s} h1 h2 => base h1 h2
 | succ k ih =>
  intro c s h1 h2
  cases c with
  | seq a b =>
   refine ⟨fun n a' w hf hs => wpIn_seq (wpIn_mono ((ZO hT a _ s h1).go n a' w hf hs) ?_)⟩
   rintro e a1 w1 ⟨s', hf', hs', hk⟩
   cases e with
   | normal => exact (ih hk h2).go n a1 w1 hf' hs'
   | _ => exact ⟨s', hf', hs', hk⟩
  | _ => exact base h1 h2
theorem enterP {P : Program} {T : Tab} (hT : TabOk P T) {g : FuncId} {fn : Func} {c : Code} (hf : P.funcs[g]? = some fn) (hb : fn.body = some c) {N : Nat} (hN : fn.ntmps = N) {vs : List Value} (hle : Nat.ble vs.length N = true) {M : Bks} {w : World} {L : List Ent}
 {R : Value → World → Prop} (hs : St M w w L) (h : CodeP ⟨P, T, N, M, w, none⟩ c (retK ⟨P, T, N, M, w, none⟩ fn R) ⟨par 0 vs, L, []⟩) : Calls P g vs.toArray w fun e w' => ∃ v, e = .returned v ∧ R v w' := by
 subst hN
 refine (callsIn_wide (n := 3)).1 (callsIn_of_wp_marks hf hb trivial (wpIn_mono (h.go 3 _ w ⟨by have := Nat.le_of_ble_eq_true hle; simp; omega, rfl, ?_⟩ hs) ?_) rfl)
 · intro i v hv
   obtain ⟨_, h1⟩ := par_get _ _ _ _ hv
   have hi : i < vs.length := (List.getElem?_eq_some_iff.1 h1).1
   simp [Array.getD_eq_getD_getElem?, Array.getElem?_append, hi]
   simpa [hi] using h1
 · rintro e a w' ⟨s, hf', hs', hk⟩
   have hd := hf'.defers
   cases e with
   | normal => simp only [bodyPostM, hd]; exact qa3 (C := ⟨P, T, fn.ntmps, M, w, none⟩) hT hf'.slot s.D s.L w' hs' hk
   | ret => simp only [bodyPostM, hd]; exact qa3 (C := ⟨P, T, fn.ntmps, M, w, none⟩) hT hf'.slot s.D s.L w' hs' hk
   | _ => exact hk.elim
end
end Go.Sx
namespace Go.Proofs.YtbgefoamhdgnaaaGreatDoor
section
open Go.RowKit Go.Sx
def RdS (w : World) (v : Value) (ps : List Bs) : Prop := (∀ p ∈ ps, p.length = 32) ∧ ∃ a c, v = .slice a ps.length c ∧ ps.length ≤ c ∧ (ps ≠ [] → ∃ b o, a = some ⟨b, o, none⟩ ∧ b < w.heap.size ∧ ∀ i p, ps[i]? = some p → w.rangeAt b (o + 32 * i) (Lib.byteCells p))
theorem RdS.below {w w' : World} {v : Value} {ps : List Bs} (h : RdS w v ps) (hb : Below w.heap.size w w') : RdS w' v ps := by
 obtain ⟨h1, a, c, h2, h3, h4⟩ := h
 refine ⟨h1, a, c, h2, h3, fun hn => ?_⟩
 obtain ⟨b, o, e, hl, hr⟩ := h4 hn
 exact ⟨b, o, e, Nat.lt_of_lt_of_le hl hb.size, fun i p hp j u hu => (hb.cell (p := ⟨b, _, none⟩) hl).trans (hr i p hp j u hu)⟩
def rdS (a : Option Addr) (c : Nat) (ps : List Bs) : Res where
 w := fun _ => False
 r := fun k => ps ≠ [] ∧ ∃ o, a = some ⟨k, o, none⟩
 p := fun w => RdS w (.slice a ps.length c) ps
 st := fun u v h hp => by
  obtain ⟨h1, a', c', h2, h3, h4⟩ := hp
  refine ⟨h1, a', c', h2, h3, fun hne => ?_⟩
  obtain ⟨b, o, e1, hl, hr⟩ := h4 hne
  injection h2 with e2 _ _
  have hb := h b (.inr ⟨hne, o, by rw [e2, e1]⟩)
  refine ⟨b, o, e1, ?_, fun i p hp j x hx => ?_⟩
  · rw [Array.getElem?_eq_getElem hl] at hb
    exact (Array.getElem?_eq_some_iff.1 hb).1
  · rw [← hr i p hp j x hx]; simp only [World.cell?, hb]
 bd := fun u h k hk => by
  rcases hk with hk | ⟨hne, o, hk⟩
  · exact hk.elim
  · obtain ⟨h1, a', c', h2, h3, h4⟩ := h
    obtain ⟨b, o2, e1, hl, _⟩ := h4 hne
    injection h2 with e2 _ _
    rw [hk, e1] at e2
    injection e2 with e2
    injection e2 with e2 _
    rw [e2]; exact hl
theorem St.rdS {a : Option Addr} {c : Nat} {ps : List Bs} {w : World} (h : RdS w (.slice a ps.length c) ps) : St [] w w [rs (Go.Proofs.YtbgefoamhdgnaaaGreatDoor.rdS a c ps)] := St.reads fun e he => by
 obtain rfl : e = rs (Go.Proofs.YtbgefoamhdgnaaaGreatDoor.rdS a c ps) := by simpa using he
 exact ⟨(qc0 _ w).2 h, fun k hk => (rsW _ k).1 hk⟩
theorem RdS.tail {w : World} {b o n c : Nat} {p : Bs} {ps : List Bs} (h : RdS w (.slice (some ⟨b, o, none⟩) n c) (p :: ps)) (a' : Option Addr) (c' : Nat) (ha : ps ≠ [] → a' = some ⟨b, o + 32, none⟩) (hc : ps.length ≤ c') : RdS w (.slice a' ps.length c') ps := by
 obtain ⟨h1, a2, c2, h2, h3, h4⟩ := h
 refine ⟨fun q hq => h1 q (by simp [hq]), a', c', rfl, hc, fun hne => ?_⟩
 obtain ⟨b2, o2, e1, hl, hr⟩ := h4 (by simp)
 injection h2 with e2 _ _
 rw [e1] at e2
 injection e2 with e2
 injection e2 with e2 e3
 subst e2 e3
 refine ⟨b, o + 32, ha hne, hl, fun i q hq => ?_⟩
 have := hr (i + 1) q (by simpa using hq)
 rwa [show o + 32 * (i + 1) = o + 32 + 32 * i by omega] at this
def zZ : List Bool → List Bs → Bs × Bs → Bs × Bs
 | t :: ts, p :: ps, x => zZ ts ps (if t then (x.1, qU x.2 p) else (qU p x.1, qU p x.2))
 | _, _, x => x
def extE (T : List Bool) (old new f : Bs) (rs : List Bs) : Bool := if rs.length = T.length then decide ((zZ T.reverse rs (f, f)).1 = old) && decide ((zZ T.reverse rs (f, f)).2 = new) else false
def extB (m n : Int) (old new : Bs) (ps : List Bs) : Bool :=
 if n < 1 ∨ 1048576 < n ∨ m < 1 ∨ n < m then false
 else if (zg m.toNat n.toNat).2 then extE (zg m.toNat n.toNat).1 old new old ps
 else match ps with
  | [] => false
  | p :: r => extE (zg m.toNat n.toNat).1 old new p r
end
section
open Go.RowKit Go.Sx
def AuS.takeB (S : AuS) (h : Hd) (n r : Nat) (g : Bool) : Nat :=
 if r ≠ 0 then r else match S.last with
 | none => if 0 < n then 13 else 0
 | some l => if h.size < l.size ∨ h.time < l.time then 2 else if g = false then 13 else 0
def AuS.put (S : AuS) (h : Hd) (b : Nat) : AuS := { S with last := some h, bh := b, fs := Zc h.size (qV h.root) S.clk S.fs, clk := clkS h.size S.fs S.clk }
theorem modify_same {α β : Type} (g : α → β) (f : α → α) (h : ∀ x, g (f x) = g x) (l : List α) (i : Nat) : (l.modify i f).map g = l.map g := by
 induction l generalizing i with
 | nil => simp
 | cons x l ih => cases i <;> simp [h, ih]
theorem modify_mem {α : Type} (f : α → α) (l : List α) (i : Nat) {y : α} (h : y ∈ l.modify i f) : ∃ x ∈ l, y = x ∨ y = f x := by
 obtain ⟨j, hj⟩ := List.mem_iff_getElem?.1 h
 rw [List.getElem?_modify] at hj
 split at hj
 · cases hl : l[j]? with
   | none => rw [hl] at hj; cases hj
   | some x => rw [hl] at hj; injection hj with hj; exact ⟨x, List.mem_of_getElem? hl, .inr hj.symm⟩
 · cases hl : l[j]? with
   | none => rw [hl] at hj; cases hj
   | some x => rw [hl] at hj; injection hj with hj; exact ⟨x, List.mem_of_getElem? hl, .inl hj.symm⟩
theorem set_es (k : Int) (v : Value) (clk : Nat) (fs : Es Int) (hn : (fs.map (·.2.2)).Nodup) (hl : ∀ e ∈ fs, e.2.2 < clk) :
 ((Zc k v clk fs).map (·.2.2)).Nodup ∧ ∀ e ∈ Zc k v clk fs, e.2.2 < clkS k fs clk ∧ (e ∈ fs ∨ e.2.1 = v) := by
 unfold clkS getS
 cases h : QF k fs 0 with
 | none =>
  rw [set_new h]
  refine ⟨?_, fun e he => ?_⟩
  · rw [List.map_append, List.nodup_append]
    refine ⟨hn, by simp, fun a ha b hb e => ?_⟩
    obtain ⟨x, hx, rfl⟩ := List.mem_map.1 ha
    have := hl x hx
    simp at hb
    omega
  · simp only [Option.map_none, Option.isSome_none, Bool.false_eq_true, if_false]
    rcases List.mem_append.1 he with he | he
    · exact ⟨Nat.lt_succ_of_lt (hl e he), .inl he⟩
    · obtain rfl : e = (k, v, clk) := by simpa using he
      exact ⟨Nat.lt_succ_self _, .inr rfl⟩
 | some p =>
  obtain ⟨i, u⟩ := p
  rw [set_found h]
  refine ⟨?_, fun e he => ?_⟩
  · rw [modify_same (fun e : Int × Value × Nat => e.2.2) (fun e => (k, v, e.2.2)) (fun x => rfl)]; exact hn
  · simp only [Option.map_some, Option.isSome_some, if_true]
    obtain ⟨x, hx, h1 | h1⟩ := modify_mem _ _ _ he
    · subst h1; exact ⟨hl _ hx, .inl hx⟩
    · subst h1; exact ⟨hl x hx, .inr rfl⟩
theorem qeE (k : Int) (v : Value) (clk : Nat) (fs : Es Int) : (Zc k v clk fs).map (·.1) = if k ∈ fs.map (·.1) then fs.map (·.1) else fs.map (·.1) ++ [k] := by
 induction fs with
 | nil => rfl
 | cons e l ih =>
  unfold Zc
  by_cases hk : k = e.1
  · rw [if_pos hk]; simp [hk]
  · rw [if_neg hk, List.map_cons, ih]
    by_cases hm : k ∈ l.map (·.1)
    · rw [if_pos hm, if_pos (by rw [List.map_cons]; exact List.mem_cons_of_mem _ hm), List.map_cons]
    · rw [if_neg hm, if_neg (by rw [List.map_cons, List.mem_cons]; exact fun h => h.elim hk hm), List.map_cons, List.cons_append]
theorem last_top {l : List Int} {m : Int} (hp : l.Pairwise (· < ·)) (hl : l.getLast? = some m) : ∀ k ∈ l, k ≤ m := by
 obtain ⟨i, rfl⟩ := List.getLast?_eq_some_iff.1 hl
 intro k hk
 rcases List.mem_append.1 hk with h | h
 · exact Int.le_of_lt ((List.pairwise_append.1 hp).2.2 k h m (by simp))
 · simp at h; omega
theorem put_keys {S : AuS} {u : World} {x : Hd} (h : AuP S u) (hz : 0 ≤ x.size ∧ x.size ≤ 1048576) (hge : ∀ l, S.last = some l → l.size ≤ x.size) (v : Value) :
 (∀ k ∈ (Zc x.size v S.clk S.fs).map (·.1), 0 ≤ k ∧ k ≤ 1048576) ∧ ((Zc x.size v S.clk S.fs).map (·.1)).Pairwise (· < ·) ∧ ((Zc x.size v S.clk S.fs).map (·.1)).getLast? = some x.size := by
 rw [qeE]
 cases hl : S.last with
 | none => rw [h.k0 hl]; simp; omega
 | some l =>
  have ht := last_top h.ks (h.kl l hl)
  have hg := hge l hl
  by_cases hm : x.size ∈ S.fs.map (·.1)
  · rw [if_pos hm]
    have := ht _ hm
    exact ⟨h.kb, h.ks, by rw [h.kl l hl]; congr 1; omega⟩
  · rw [if_neg hm]
    refine ⟨fun k hk => ?_, ?_, by simp⟩
    · rcases List.mem_append.1 hk with h1 | h1
      · exact h.kb k h1
      · simp at h1; omega
    · rw [List.pairwise_append]
      refine ⟨h.ks, by simp, fun a ha b hb => ?_⟩
      have h1 := ht a ha
      have : a ≠ x.size := fun e => hm (e ▸ ha)
      simp at hb; omega
theorem au_rw {S : AuS} {w : World} (h : AuP S w) {v : Value} (hv : S.lastV = v) : St [bl S.bA, bl S.bm] w w [cl S.bA (auC S.p S.o v (.map (some S.bm))) TAu, me S.bm keI S.fs S.clk] := by
 subst hv
 exact St.from w _ _ (fun e he => by
  simp only [List.mem_cons, List.not_mem_nil, or_false] at he
  rcases he with rfl | rfl
  · exact ⟨by simpa using h.a, fun k hk => by simp at hk; simp [bl, hk]⟩
  · exact ⟨by simpa using h.m, fun k hk => by simp at hk; simp [bl, hk]⟩) (by
    refine .cons (fun y hy => ?_) (by simp)
    obtain rfl : y = me S.bm keI S.fs S.clk := by simpa using hy
    have := h.ne
    exact fun k => ⟨fun h1 h2 => by simp at h1 h2; omega, fun h1 h2 => by simp at h1 h2; omega⟩)
theorem Zf {S : AuS} {x : Hd} (hx : S.last = some x) : S.lastV = ptr S.bh := by unfold AuS.lastV; rw [hx]
theorem qbQ {S : AuS} (hx : S.last = none) : S.lastV = .pointer none := by unfold AuS.lastV; rw [hx]
theorem au_rwH {S : AuS} {w : World} (h : AuP S w) (x : Hd) (hx : S.last = some x) : St [bl S.bA, bl S.bm] w w [cl S.bA (auC S.p S.o (ptr S.bh) (.map (some S.bm))) TAu, me S.bm keI S.fs S.clk, cr S.bh (hdC x) THd] :=
 St.from w _ _ (fun e he => by
  simp only [List.mem_cons, List.not_mem_nil, or_false] at he
  rcases he with rfl | rfl | rfl
  · have := h.a
    unfold AuS.lastV at this
    rw [hx] at this
    exact ⟨by simpa using this, fun k hk => by simp at hk; simp [bl, hk]⟩
  · exact ⟨by simpa using h.m, fun k hk => by simp at hk; simp [bl, hk]⟩
  · exact ⟨by simpa using h.h x hx, fun k hk => by simp at hk⟩) (by
    have h1 := h.ne
    obtain ⟨h2, h3⟩ := h.nh (by rw [hx]; simp)
    refine .cons (fun y hy => ?_) (.cons (fun y hy => ?_) (by simp))
    · simp only [List.mem_cons, List.not_mem_nil, or_false] at hy
      rcases hy with rfl | rfl
      · exact fun k => ⟨fun h1 h2 => by simp at h1 h2; omega, fun h1 h2 => by simp at h1 h2; omega⟩
      · exact fun k => ⟨fun h1 h2 => by simp at h1 h2; omega, fun h1 h2 => by simp at h1⟩
    · obtain rfl : y = cr S.bh (hdC x) THd := by simpa using hy
      exact fun k => ⟨fun h1 h2 => by simp at h1 h2; omega, fun h1 h2 => by simp at h1⟩)
theorem zi {S : AuS} {w w' : World} {L : List Ent} (h : AuP S w) {v : Value} (hv : S.lastV = v) (hs : St [bl S.bA, bl S.bm] w w' L) (h0 : L[0]? = some (cl S.bA (auC S.p S.o v (.map (some S.bm))) TAu)) (h1 : L[1]? = some (me S.bm keI S.fs S.clk)) : Below w.heap.size w w' := by
 subst hv
 refine ⟨hs.os, hs.tape, hs.output, hs.size, fun k hk => ?_⟩
 by_cases ha : k = S.bA
 · subst ha; rw [hs.nth h0, h.a]
 · by_cases hb : k = S.bm
   · subst hb; rw [hs.nth h1, h.m]
   · exact hs.old k hk (by simp [bl, ha, hb])
theorem qb7 {S : AuS} {w w' : World} {L : List Ent} (h : AuP S w) {v : Value} (hv : S.lastV = v) (hs : St [bl S.bA, bl S.bm] w w' L) (h0 : L[0]? = some (cl S.bA (auC S.p S.o v (.map (some S.bm))) TAu)) (h1 : L[1]? = some (me S.bm keI S.fs S.clk)) : Turns w w' (auR S) (auR S) :=
 Turns.of_below (r := auR S) h (zi h hv hs h0 h1)
theorem au_put {S : AuS} {w w' : World} {L : List Ent} {x : Hd} {b j : Nat} (h : AuP S w) (hx : qag x) (hz : 0 ≤ x.size ∧ x.size ≤ 1048576) (hge : ∀ l, S.last = some l → l.size ≤ x.size) (hs : St [bl S.bA, bl S.bm] w w' L) (h0 : L[0]? = some (cl S.bA (auC S.p S.o (ptr b) (.map (some S.bm))) TAu)) (h1 : L[1]? = some (me S.bm keI (Zc x.size (qV x.root) S.clk S.fs) (clkS x.size S.fs S.clk)))
 (h2 : L[j]? = some (cl b (hdC x) THd)) (hj : 2 ≤ j) : Turns w w' (auR S) (auR (S.put x b)) := by
 obtain ⟨k1, k2, k3⟩ := put_keys h hz hge (qV x.root)
 obtain ⟨e1, e2⟩ := set_es x.size (qV x.root) S.clk S.fs h.nb h.lt
 have hb : w.heap.size ≤ b := by
  rcases hs.own _ (List.mem_of_getElem? h2) rfl rfl with hh | hh
  · exact hh
  · have l0 := (Array.getElem?_eq_some_iff.1 h.a).1
    have l1 := (Array.getElem?_eq_some_iff.1 h.m).1
    have p0 := QG hs.apart h0 h2 (by omega)
    have p1 := QG hs.apart h1 h2 (by omega)
    simp only [qbT, qc8, bl, or_false] at hh
    rcases hh with hh | hh
    · exact absurd (by simp [hh]) ((p0 b).2 (by simp))
    · exact absurd (by simp [hh]) ((p1 b).2 (by simp))
 have l0 := (Array.getElem?_eq_some_iff.1 h.a).1
 have l1 := (Array.getElem?_eq_some_iff.1 h.m).1
 refine Turns.of_st hs (fun k hk => ?_) ⟨hs.nth h0, hs.nth h1, fun y hy => ?_, h.ne, fun _ => ⟨?_, ?_⟩, e1, fun e he => (e2 e he).1, fun y hy => ?_, fun e he => ?_, k1, k2, fun y hy => ?_, fun hy => ?_⟩ (fun k hk => ?_) (fun k hk => ?_)
 · simp only [qbT, qc8, bl, or_false] at hk
   rcases hk with hk | hk
   · exact .inl hk
   · exact .inr (.inl hk)
 · obtain rfl : x = y := Option.some.inj hy
   exact hs.nth h2
 · show b ≠ S.bA; omega
 · show b ≠ S.bm; omega
 · obtain rfl : x = y := Option.some.inj hy
   exact hx
 · rcases (e2 e he).2 with h3 | h3
   · exact h.v e h3
   · exact ⟨x.root, hx.1, h3⟩
 · obtain rfl : x = y := Option.some.inj hy
   exact k3
 · cases hy
 · rcases hk with rfl | rfl | ⟨_, rfl⟩
   · exact .inl (.inl rfl)
   · exact .inl (.inr (.inl rfl))
   · exact .inr hb
 · rcases hk with (rfl | rfl | ⟨_, rfl⟩) | hk
   · exact .inl (.inl (.inl rfl))
   · exact .inl (.inl (.inr (.inl rfl)))
   · exact .inr hb
   · exact hk.elim
theorem ZP (p : Nat) (o : Bs) (l m : Value) : (auC p o l m).extract 0 (0 + 32) = k32 p := by
 have hl : (k32 p).toList.length = 32 := by simpa using qf p
 unfold auC
 rw [List.extract_toArray, List.extract_eq_take_drop, List.drop_zero, List.take_left' (by rw [hl])]
theorem ZL (h : Hd) (hr : h.root.length = 32) : (hdC h).extract 3 (3 + 32) = (Lib.byteCells h.root).toArray := by
 unfold hdC
 rw [List.extract_toArray, List.extract_eq_take_drop]
 show (List.take 32 (Lib.byteCells h.root ++ Lib.byteCells h.sig)).toArray = _
 rw [List.take_left' (by simp [Lib.byteCells_length, hr])]
abbrev ZW (S : AuS) (h : Hd) (r : Nat) (w : World) : Prop := ∀ w', Below w.heap.size w w' → Calls Tryz.prog 47 ([.agg (hdC h), .agg (k32 S.p), VS S.o] : List Value).toArray w' fun e w'' => e = .returned (Q7 r) ∧ Below w'.heap.size w' w''
abbrev GrowsC (l h : Hd) (ps : Value) (g : Bool) (w : World) : Prop := ∀ w', Below w.heap.size w w' → Calls Tryz.prog 48 ([.int .i64 l.size, qV l.root, .int .i64 h.size, qV h.root, ps] : List Value).toArray w' fun e w'' => e = .returned (.bool g) ∧ Below w'.heap.size w' w''
theorem auC_set (p : Nat) (o : Bs) (l l' m : Value) : (auC p o l m).setIfInBounds 33 l' = auC p o l' m := by
 have hl : (k32 p).toList.length = 32 := by simpa using qf p
 apply Array.ext'
 unfold auC
 simp only [Array.toList_setIfInBounds]
 rw [List.set_append_right _ _ (by omega), hl]
 rfl
theorem take_bad (S : AuS) (x : Hd) (a : Option Addr) (n c r : Nat) (hx : qag x) (w : World) (h : AuP S w) (hR : ZW S x r w) (hr : r ≠ 0) :
 Calls Tryz.prog 15 ([ptr S.bA, .agg (hdC x), .slice a n c] : List Value).toArray w fun e w' => e = .returned (Q7 r) ∧ Turns w w' (auR S) (auR S) := by
 have hsz := qT x hx.1 hx.2
 have ha := ZF S.p S.o S.lastV (.map (some S.bm))
 refine (enter qc Tryz.func15 rfl Tryz.ntmps15 rfl (au_rw h rfl) (R := fun v w' => v = Q7 r ∧ Turns w w' (auR S) (auR S)) ?_).mono (fun e w' ⟨v, he, h1⟩ => ⟨by rw [he, h1.1], h1.2⟩)
 intro b4
 refine cf rfl ?_
 refine dr [cl S.bA (auC S.p S.o S.lastV (.map (some S.bm))) TAu, me S.bm keI S.fs S.clk, cl b4 (hdC x) THd] 99 (.t 0 (.t 1 (.t 2 (.t 3 (.t 4 (.t 5 (.t 6 (.t 7 (.t 8 (.n 9 (.t 10 .nil))))))))))) qc qe (by kernel_rfl) (.cons (.cons (.cons .nil))) ?_
 refine ldN 2 rfl hsz ?_
 refine ldP 0 (d := k32 S.p) rfl (qf _) (ZP _ _ _ _) ?_
 refine ld1 0 rfl (by exact ha.1) ?_
 refine cvs (fun w' hs => hR w' (zi h rfl hs rfl rfl)) ?_
 refine ⟨.cons (.cons (.cons .nil)), ?_⟩
 rw [errVs r hr]
 refine ct rfl ?_
 exact ⟨fun w1 hs => ⟨rfl, qb7 h rfl hs rfl rfl⟩⟩
theorem take_first (S : AuS) (x : Hd) (a : Option Addr) (n c r : Nat) (hl : S.last = none) (hx : qag x) (w : World) (h : AuP S w) (hR : ZW S x r w) (hr : r = 0) (hn : 0 < n) :
 Calls Tryz.prog 15 ([ptr S.bA, .agg (hdC x), .slice a n c] : List Value).toArray w fun e w' => e = .returned (Q7 13) ∧ Turns w w' (auR S) (auR S) := by
 have hsz := qT x hx.1 hx.2
 have ha := ZF S.p S.o (.pointer none) (.map (some S.bm))
 refine (enter qc Tryz.func15 rfl Tryz.ntmps15 rfl (au_rw h (qbQ hl)) (R := fun v w' => v = Q7 13 ∧ Turns w w' (auR S) (auR S)) ?_).mono (fun e w' ⟨v, he, h1⟩ => ⟨by rw [he, h1.1], h1.2⟩)
 intro b4
 refine cf rfl ?_
 refine dr [cl S.bA (auC S.p S.o (.pointer none) (.map (some S.bm))) TAu, me S.bm keI S.fs S.clk, cl b4 (hdC x) THd] 99 (.t 0 (.t 1 (.t 2 (.t 3 (.t 4 (.t 5 (.t 6 (.t 7 (.t 8 (.n 9 (.t 10 .nil))))))))))) qc qe (by kernel_rfl) (.cons (.cons (.cons .nil))) ?_
 refine ldN 2 rfl hsz ?_
 refine ldP 0 (d := k32 S.p) rfl (qf _) (ZP _ _ _ _) ?_
 refine ld1 0 rfl (by exact ha.1) ?_
 refine cvs (fun w' hs => hR w' (zi h (qbQ hl) hs rfl rfl)) ?_
 refine ⟨.cons (.cons (.cons .nil)), ?_⟩
 subst hr
 refine cf rfl ?_
 refine ld1 0 rfl (by exact ha.2.1) ?_
 iterate 4 refine ct rfl ?_
 refine ct (decide_eq_true (by omega)) ?_
 exact ⟨fun w1 hs => ⟨rfl, qb7 h (qbQ hl) hs rfl rfl⟩⟩
theorem take_one (S : AuS) (x : Hd) (a : Option Addr) (n c r : Nat) (hl : S.last = none) (hx : qag x) (w : World) (h : AuP S w) (hR : ZW S x r w) (hr : r = 0) (hn : n = 0) (hz : 0 ≤ x.size ∧ x.size ≤ 1048576) :
 Calls Tryz.prog 15 ([ptr S.bA, .agg (hdC x), .slice a n c] : List Value).toArray w fun e w' => e = .returned .nilIface ∧ ∃ b, Turns w w' (auR S) (auR (S.put x b)) := by
 have hsz := qT x hx.1 hx.2
 have ha := ZF S.p S.o (.pointer none) (.map (some S.bm))
 refine (enter qc Tryz.func15 rfl Tryz.ntmps15 rfl (au_rw h (qbQ hl)) (R := fun v w' => v = .nilIface ∧ ∃ b, Turns w w' (auR S) (auR (S.put x b))) ?_).mono (fun e w' ⟨v, he, h1⟩ => ⟨by rw [he, h1.1], h1.2⟩)
 intro b4
 refine cf rfl ?_
 refine dr [cl S.bA (auC S.p S.o (.pointer none) (.map (some S.bm))) TAu, me S.bm keI S.fs S.clk, cl b4 (hdC x) THd] 99 (.t 0 (.t 1 (.t 2 (.t 3 (.t 4 (.t 5 (.t 6 (.t 7 (.t 8 (.n 9 (.t 10 .nil))))))))))) qc qe (by kernel_rfl) (.cons (.cons (.cons .nil))) ?_
 refine ldN 2 rfl hsz ?_
 refine ldP 0 (d := k32 S.p) rfl (qf _) (ZP _ _ _ _) ?_
 refine ld1 0 rfl (by exact ha.1) ?_
 refine cvs (fun w' hs => hR w' (zi h (qbQ hl) hs rfl rfl)) ?_
 refine ⟨.cons (.cons (.cons .nil)), ?_⟩
 have hge : ∀ l, S.last = some l → l.size ≤ x.size := fun l hl' => by rw [hl] at hl'; cases hl'
 subst hn
 subst hr
 refine cf rfl ?_
 refine ld1 0 rfl (by exact ha.2.1) ?_
 iterate 4 refine ct rfl ?_
 refine cf rfl ?_
 refine ct rfl ?_
 refine drs [cl S.bA (auC S.p S.o (.pointer none) (.map (some S.bm))) TAu, me S.bm keI S.fs S.clk, cl b4 (hdC x) THd] [11, 12, 13, 14] (.t 0 (.t 1 (.t 2 (.t 3 (.t 4 (.t 5 (.t 6 (.t 7 (.t 8 (.t 9 (.t 10 (.n 11 (.n 12 (.n 13 (.n 14 .nil))))))))))))))) qc qe (by kernel_rfl) (.cons (.cons (.cons .nil))) ?_
 refine ld1 0 rfl (by exact ha.2.2) ?_
 refine ld1 2 rfl rfl ?_
 refine ldP 2 (d := (Lib.byteCells x.root).toArray) rfl (by simp [Lib.byteCells_length, hx.1]) (ZL x hx.1) ?_
 refine s1e 0 (auC S.p S.o (ptr b4) (.map (some S.bm))) rfl (by rw [auC_size]; decide) (auC_set _ _ _ _ _) ?_
 refine men (ke := keI) 1 rfl undMp keyI zSum ?_
 refine est (ke := keI) 1 rfl rfl h.nb h.lt ?_
 exact ⟨fun w1 hs => ⟨rfl, b4, au_put (j := 2) h hx hz hge hs rfl rfl rfl (by decide)⟩⟩
theorem take_size (S : AuS) (x : Hd) (a : Option Addr) (n c r : Nat) (l : Hd) (hl : S.last = some l) (hx : qag x) (w : World) (h : AuP S w) (hR : ZW S x r w) (hr : r = 0) (h1 : x.size < l.size) :
 Calls Tryz.prog 15 ([ptr S.bA, .agg (hdC x), .slice a n c] : List Value).toArray w fun e w' => e = .returned (Q7 2) ∧ Turns w w' (auR S) (auR S) := by
 have hsz := qT x hx.1 hx.2
 have ha := ZF S.p S.o (ptr S.bh) (.map (some S.bm))
 have lsz := qT l (h.hk l hl).1 (h.hk l hl).2
 refine (enter qc Tryz.func15 rfl Tryz.ntmps15 rfl (au_rwH h l hl) (R := fun v w' => v = Q7 2 ∧ Turns w w' (auR S) (auR S)) ?_).mono (fun e w' ⟨v, he, h1⟩ => ⟨by rw [he, h1.1], h1.2⟩)
 intro b4
 refine cf rfl ?_
 refine dr [cl S.bA (auC S.p S.o (ptr S.bh) (.map (some S.bm))) TAu, me S.bm keI S.fs S.clk, cr S.bh (hdC l) THd, cl b4 (hdC x) THd] 99 (.t 0 (.t 1 (.t 2 (.t 3 (.t 4 (.t 5 (.t 6 (.t 7 (.t 8 (.n 9 (.t 10 .nil))))))))))) qc qe (by kernel_rfl) (.cons (.cons (.cons (.cons .nil)))) ?_
 refine ldN 3 rfl hsz ?_
 refine ldP 0 (d := k32 S.p) rfl (qf _) (ZP _ _ _ _) ?_
 refine ld1 0 rfl (by exact ha.1) ?_
 refine cvs (fun w' hs => hR w' (zi h (Zf hl) hs rfl rfl)) ?_
 refine ⟨.cons (.cons (.cons (.cons .nil))), ?_⟩
 subst hr
 refine cf rfl ?_
 refine ld1 0 rfl (by exact ha.2.1) ?_
 iterate 6 refine cf rfl ?_
 refine dr [cl S.bA (auC S.p S.o (ptr S.bh) (.map (some S.bm))) TAu, me S.bm keI S.fs S.clk, cr S.bh (hdC l) THd, cl b4 (hdC x) THd] 99 (.t 0 (.t 1 (.t 2 (.t 3 (.t 4 (.t 5 (.t 6 (.t 7 (.t 8 (.t 9 (.t 10 (.t 11 (.t 12 (.t 13 (.t 14 (.t 15 (.t 16 .nil))))))))))))))))) qc qe (by kernel_rfl) (.cons (.cons (.cons (.cons .nil)))) ?_
 refine ld1 3 rfl rfl ?_
 refine ld1 2 rfl rfl ?_
 have g1 := decide_eq_true h1
 have g1' : (decide (x.size < l.size) == false) = false := by rw [g1]; rfl
 iterate 7 refine cf g1' ?_
 refine ct g1 ?_
 refine ct rfl ?_
 exact ⟨fun w1 hs => ⟨rfl, qb7 h (Zf hl) hs rfl rfl⟩⟩
theorem take_time (S : AuS) (x : Hd) (a : Option Addr) (n c r : Nat) (l : Hd) (hl : S.last = some l) (hx : qag x) (w : World) (h : AuP S w) (hR : ZW S x r w) (hr : r = 0) (h1 : l.size ≤ x.size) (h2 : x.time < l.time) :
 Calls Tryz.prog 15 ([ptr S.bA, .agg (hdC x), .slice a n c] : List Value).toArray w fun e w' => e = .returned (Q7 2) ∧ Turns w w' (auR S) (auR S) := by
 have hsz := qT x hx.1 hx.2
 have ha := ZF S.p S.o (ptr S.bh) (.map (some S.bm))
 have lsz := qT l (h.hk l hl).1 (h.hk l hl).2
 refine (enter qc Tryz.func15 rfl Tryz.ntmps15 rfl (au_rwH h l hl) (R := fun v w' => v = Q7 2 ∧ Turns w w' (auR S) (auR S)) ?_).mono (fun e w' ⟨v, he, h1⟩ => ⟨by rw [he, h1.1], h1.2⟩)
 intro b4
 refine cf rfl ?_
 refine dr [cl S.bA (auC S.p S.o (ptr S.bh) (.map (some S.bm))) TAu, me S.bm keI S.fs S.clk, cr S.bh (hdC l) THd, cl b4 (hdC x) THd] 99 (.t 0 (.t 1 (.t 2 (.t 3 (.t 4 (.t 5 (.t 6 (.t 7 (.t 8 (.n 9 (.t 10 .nil))))))))))) qc qe (by kernel_rfl) (.cons (.cons (.cons (.cons .nil)))) ?_
 refine ldN 3 rfl hsz ?_
 refine ldP 0 (d := k32 S.p) rfl (qf _) (ZP _ _ _ _) ?_
 refine ld1 0 rfl (by exact ha.1) ?_
 refine cvs (fun w' hs => hR w' (zi h (Zf hl) hs rfl rfl)) ?_
 refine ⟨.cons (.cons (.cons (.cons .nil))), ?_⟩
 subst hr
 refine cf rfl ?_
 refine ld1 0 rfl (by exact ha.2.1) ?_
 iterate 6 refine cf rfl ?_
 refine dr [cl S.bA (auC S.p S.o (ptr S.bh) (.map (some S.bm))) TAu, me S.bm keI S.fs S.clk, cr S.bh (hdC l) THd, cl b4 (hdC x) THd] 99 (.t 0 (.t 1 (.t 2 (.t 3 (.t 4 (.t 5 (.t 6 (.t 7 (.t 8 (.t 9 (.t 10 (.t 11 (.t 12 (.t 13 (.t 14 (.t 15 (.t 16 .nil))))))))))))))))) qc qe (by kernel_rfl) (.cons (.cons (.cons (.cons .nil)))) ?_
 refine ld1 3 rfl rfl ?_
 refine ld1 2 rfl rfl ?_
 have g1 : decide (x.size < l.size) = false := decide_eq_false (by omega)
 have g1' : (decide (x.size < l.size) == false) = true := by rw [g1]; rfl
 have g2 := decide_eq_true h2
 iterate 2 refine ct g1' ?_
 refine ld1 3 rfl rfl ?_
 iterate 4 refine ct g1' ?_
 refine ld1 2 rfl rfl ?_
 refine ct g1' ?_
 refine cf g1 ?_
 refine ct g2 ?_
 exact ⟨fun w1 hs => ⟨rfl, qb7 h (Zf hl) hs rfl rfl⟩⟩
theorem qdm (S : AuS) (x : Hd) (a : Option Addr) (n c r : Nat) (l : Hd) (hl : S.last = some l) (hx : qag x) (w : World) (h : AuP S w) (hR : ZW S x r w) (hr : r = 0) (h1 : l.size ≤ x.size) (h2 : l.time ≤ x.time) (hG : GrowsC l x (.slice a n c) false w) :
 Calls Tryz.prog 15 ([ptr S.bA, .agg (hdC x), .slice a n c] : List Value).toArray w fun e w' => e = .returned (Q7 13) ∧ Turns w w' (auR S) (auR S) := by
 have hsz := qT x hx.1 hx.2
 have ha := ZF S.p S.o (ptr S.bh) (.map (some S.bm))
 have lsz := qT l (h.hk l hl).1 (h.hk l hl).2
 refine (enter qc Tryz.func15 rfl Tryz.ntmps15 rfl (au_rwH h l hl) (R := fun v w' => v = Q7 13 ∧ Turns w w' (auR S) (auR S)) ?_).mono (fun e w' ⟨v, he, h1⟩ => ⟨by rw [he, h1.1], h1.2⟩)
 intro b4
 refine cf rfl ?_
 refine dr [cl S.bA (auC S.p S.o (ptr S.bh) (.map (some S.bm))) TAu, me S.bm keI S.fs S.clk, cr S.bh (hdC l) THd, cl b4 (hdC x) THd] 99 (.t 0 (.t 1 (.t 2 (.t 3 (.t 4 (.t 5 (.t 6 (.t 7 (.t 8 (.n 9 (.t 10 .nil))))))))))) qc qe (by kernel_rfl) (.cons (.cons (.cons (.cons .nil)))) ?_
 refine ldN 3 rfl hsz ?_
 refine ldP 0 (d := k32 S.p) rfl (qf _) (ZP _ _ _ _) ?_
 refine ld1 0 rfl (by exact ha.1) ?_
 refine cvs (fun w' hs => hR w' (zi h (Zf hl) hs rfl rfl)) ?_
 refine ⟨.cons (.cons (.cons (.cons .nil))), ?_⟩
 subst hr
 refine cf rfl ?_
 refine ld1 0 rfl (by exact ha.2.1) ?_
 iterate 6 refine cf rfl ?_
 refine dr [cl S.bA (auC S.p S.o (ptr S.bh) (.map (some S.bm))) TAu, me S.bm keI S.fs S.clk, cr S.bh (hdC l) THd, cl b4 (hdC x) THd] 99 (.t 0 (.t 1 (.t 2 (.t 3 (.t 4 (.t 5 (.t 6 (.t 7 (.t 8 (.t 9 (.t 10 (.t 11 (.t 12 (.t 13 (.t 14 (.t 15 (.t 16 .nil))))))))))))))))) qc qe (by kernel_rfl) (.cons (.cons (.cons (.cons .nil)))) ?_
 refine ld1 3 rfl rfl ?_
 refine ld1 2 rfl rfl ?_
 have g1 : decide (x.size < l.size) = false := decide_eq_false (by omega)
 have g1' : (decide (x.size < l.size) == false) = true := by rw [g1]; rfl
 have g2 : decide (x.time < l.time) = false := decide_eq_false (by omega)
 iterate 2 refine ct g1' ?_
 refine ld1 3 rfl rfl ?_
 iterate 4 refine ct g1' ?_
 refine ld1 2 rfl rfl ?_
 refine ct g1' ?_
 refine cf g1 ?_
 refine cf g2 ?_
 refine dr [cl S.bA (auC S.p S.o (ptr S.bh) (.map (some S.bm))) TAu, me S.bm keI S.fs S.clk, cr S.bh (hdC l) THd, cl b4 (hdC x) THd] 99 (.t 0 (.t 1 (.t 2 (.t 3 (.t 4 (.t 5 (.t 6 (.t 7 (.t 8 (.t 9 (.t 10 (.t 11 (.t 12 (.n 13 (.t 14 (.t 15 .nil)))))))))))))))) qc qe (by kernel_rfl) (.cons (.cons (.cons (.cons .nil)))) ?_
 refine ld1 2 rfl rfl ?_
 refine ldP 2 (d := (Lib.byteCells l.root).toArray) rfl (by simp [Lib.byteCells_length, (h.hk l hl).1]) (ZL l (h.hk l hl).1) ?_
 refine ld1 3 rfl rfl ?_
 refine ldP 3 (d := (Lib.byteCells x.root).toArray) rfl (by simp [Lib.byteCells_length, hx.1]) (ZL x hx.1) ?_
 refine cvs (fun w' hs => hG w' (zi h (Zf hl) hs rfl rfl)) ?_
 refine ⟨.cons (.cons (.cons (.cons .nil))), ?_⟩
 refine ct rfl ?_
 exact ⟨fun w1 hs => ⟨rfl, qb7 h (Zf hl) hs rfl rfl⟩⟩
theorem take_next (S : AuS) (x : Hd) (a : Option Addr) (n c r : Nat) (l : Hd) (hl : S.last = some l) (hx : qag x) (w : World) (h : AuP S w) (hR : ZW S x r w) (hr : r = 0) (h1 : l.size ≤ x.size) (h2 : l.time ≤ x.time) (hz : 0 ≤ x.size ∧ x.size ≤ 1048576) (hG : GrowsC l x (.slice a n c) true w) :
 Calls Tryz.prog 15 ([ptr S.bA, .agg (hdC x), .slice a n c] : List Value).toArray w fun e w' => e = .returned .nilIface ∧ ∃ b, Turns w w' (auR S) (auR (S.put x b)) := by
 have hsz := qT x hx.1 hx.2
 have ha := ZF S.p S.o (ptr S.bh) (.map (some S.bm))
 have lsz := qT l (h.hk l hl).1 (h.hk l hl).2
 refine (enter qc Tryz.func15 rfl Tryz.ntmps15 rfl (au_rwH h l hl) (R := fun v w' => v = .nilIface ∧ ∃ b, Turns w w' (auR S) (auR (S.put x b))) ?_).mono (fun e w' ⟨v, he, h1⟩ => ⟨by rw [he, h1.1], h1.2⟩)
 intro b4
 refine cf rfl ?_
 refine dr [cl S.bA (auC S.p S.o (ptr S.bh) (.map (some S.bm))) TAu, me S.bm keI S.fs S.clk, cr S.bh (hdC l) THd, cl b4 (hdC x) THd] 99 (.t 0 (.t 1 (.t 2 (.t 3 (.t 4 (.t 5 (.t 6 (.t 7 (.t 8 (.n 9 (.t 10 .nil))))))))))) qc qe (by kernel_rfl) (.cons (.cons (.cons (.cons .nil)))) ?_
 refine ldN 3 rfl hsz ?_
 refine ldP 0 (d := k32 S.p) rfl (qf _) (ZP _ _ _ _) ?_
 refine ld1 0 rfl (by exact ha.1) ?_
 refine cvs (fun w' hs => hR w' (zi h (Zf hl) hs rfl rfl)) ?_
 refine ⟨.cons (.cons (.cons (.cons .nil))), ?_⟩
 have hge : ∀ y, S.last = some y → y.size ≤ x.size := fun y hy => by rw [hl] at hy; injection hy with hy; subst hy; exact h1
 subst hr
 refine cf rfl ?_
 refine ld1 0 rfl (by exact ha.2.1) ?_
 iterate 6 refine cf rfl ?_
 refine dr [cl S.bA (auC S.p S.o (ptr S.bh) (.map (some S.bm))) TAu, me S.bm keI S.fs S.clk, cr S.bh (hdC l) THd, cl b4 (hdC x) THd] 99 (.t 0 (.t 1 (.t 2 (.t 3 (.t 4 (.t 5 (.t 6 (.t 7 (.t 8 (.t 9 (.t 10 (.t 11 (.t 12 (.t 13 (.t 14 (.t 15 (.t 16 .nil))))))))))))))))) qc qe (by kernel_rfl) (.cons (.cons (.cons (.cons .nil)))) ?_
 refine ld1 3 rfl rfl ?_
 refine ld1 2 rfl rfl ?_
 have g1 : decide (x.size < l.size) = false := decide_eq_false (by omega)
 have g1' : (decide (x.size < l.size) == false) = true := by rw [g1]; rfl
 have g2 : decide (x.time < l.time) = false := decide_eq_false (by omega)
 iterate 2 refine ct g1' ?_
 refine ld1 3 rfl rfl ?_
 iterate 4 refine ct g1' ?_
 refine ld1 2 rfl rfl ?_
 refine ct g1' ?_
 refine cf g1 ?_
 refine cf g2 ?_
 refine dr [cl S.bA (auC S.p S.o (ptr S.bh) (.map (some S.bm))) TAu, me S.bm keI S.fs S.clk, cr S.bh (hdC l) THd, cl b4 (hdC x) THd] 99 (.t 0 (.t 1 (.t 2 (.t 3 (.t 4 (.t 5 (.t 6 (.t 7 (.t 8 (.t 9 (.t 10 (.t 11 (.t 12 (.n 13 (.t 14 (.t 15 .nil)))))))))))))))) qc qe (by kernel_rfl) (.cons (.cons (.cons (.cons .nil)))) ?_
 refine ld1 2 rfl rfl ?_
 refine ldP 2 (d := (Lib.byteCells l.root).toArray) rfl (by simp [Lib.byteCells_length, (h.hk l hl).1]) (ZL l (h.hk l hl).1) ?_
 refine ld1 3 rfl rfl ?_
 refine ldP 3 (d := (Lib.byteCells x.root).toArray) rfl (by simp [Lib.byteCells_length, hx.1]) (ZL x hx.1) ?_
 refine cvs (fun w' hs => hG w' (zi h (Zf hl) hs rfl rfl)) ?_
 refine ⟨.cons (.cons (.cons (.cons .nil))), ?_⟩
 refine cf rfl ?_
 refine drs [cl S.bA (auC S.p S.o (ptr S.bh) (.map (some S.bm))) TAu, me S.bm keI S.fs S.clk, cr S.bh (hdC l) THd, cl b4 (hdC x) THd] [11, 12, 13, 14] (.t 0 (.t 1 (.t 2 (.t 3 (.t 4 (.t 5 (.t 6 (.t 7 (.t 8 (.t 9 (.t 10 (.n 11 (.n 12 (.n 13 (.n 14 .nil))))))))))))))) qc qe (by kernel_rfl) (.cons (.cons (.cons (.cons .nil)))) ?_
 refine ld1 0 rfl (by exact ha.2.2) ?_
 refine ld1 3 rfl rfl ?_
 refine ldP 3 (d := (Lib.byteCells x.root).toArray) rfl (by simp [Lib.byteCells_length, hx.1]) (ZL x hx.1) ?_
 refine s1e 0 (auC S.p S.o (ptr b4) (.map (some S.bm))) rfl (by rw [auC_size]; decide) (auC_set _ _ _ _ _) ?_
 refine men (ke := keI) 1 rfl undMp keyI zSum ?_
 refine est (ke := keI) 1 rfl rfl h.nb h.lt ?_
 exact ⟨fun w1 hs => ⟨rfl, b4, au_put (j := 3) h hx hz hge hs rfl rfl rfl (by decide)⟩⟩
end
section
open Go.Shelf
def qfc : Go.Shelf.Ren := ⟨fun | 7 => 50 | 10 => 88 | n => n, fun | 23 => 93 | 26 => 3 | 3 => 39 | 28 => 110 | 0 => 0 | 27 => 109 | 33 => 156 | 4 => 4 | n => n, fun | n => n⟩
theorem Lkeys : Go.Proofs.SlLaysZI.n7 Tryz.prog qfc := {
 mixed := by kernel_rfl
 f7 := ⟨Tryz.f50.name, by decide, Tryz.func50.trans (congrArg some (by kernel_rfl))⟩
 f10 := ⟨Tryz.f88.name, by decide, Tryz.func88.trans (congrArg some (by kernel_rfl))⟩
 t0 := Tryz.underlying0
 a0 := Tryz.isAgg0
 z0 := Tryz.sizeOf0
 v0 := Tryz.zeroValue0
 t4 := Tryz.underlying4
 a4 := Tryz.isAgg4
 z4 := Tryz.sizeOf4
 v4 := Tryz.zeroValue4
 t23 := Tryz.underlying93
 a23 := Tryz.isAgg93
 z23 := Tryz.sizeOf93
 v23 := Tryz.zeroValue93
 t26 := Tryz.underlying3
 a26 := Tryz.isAgg3
 z26 := Tryz.sizeOf3
 v26 := Tryz.zeroValue3
 t27 := Tryz.underlying109
 a27 := Tryz.isAgg109
 z27 := Tryz.sizeOf109
 v27 := Tryz.zeroValue109
 t28 := Tryz.underlying110
 a28 := Tryz.isAgg110
 z28 := Tryz.sizeOf110
 v28 := Tryz.zeroValue110
 t33 := Tryz.underlying156
 a33 := Tryz.isAgg156
 z33 := Tryz.sizeOf156
 v33 := Tryz.zeroValue156 }
def qcY : Go.Shelf.Ren := ⟨fun | 6 => 49 | 8 => 86 | 9 => 87 | 11 => 129 | 13 => 131 | 12 => 130 | 23 => 186 | 24 => 187 | 14 => 177 | 15 => 178 | 16 => 179 | 17 => 180 | 18 => 181 | 19 => 182 | 20 => 183 | 21 => 184 | 22 => 185 | 25 => 225 | 26 => 226 | 27 => 227 | 28 => 228 | 29 => 229 | 30 => 230 | 31 => 256 | n => n, fun | 26 => 3 | 28 => 110 | 24 => 54 | 0 => 0 | 3 => 3 | 37 => 58 | 48 => 127 | 50 => 131 | 4 => 4 | 40 => 256 | 39 => 255 | 45 => 260 | 5 => 5 | 9 => 9 | 51 => 309 | 55 => 313 | 57 => 347 | 58 => 348 | 33 => 156 | n => n, fun | n => n⟩
theorem Lsorted : Go.Proofs.SlLaysZI.n6 Tryz.prog qcY := {
 mixed := by kernel_rfl
 f6 := ⟨Tryz.f49.name, by decide, Tryz.func49.trans (congrArg some (by kernel_rfl))⟩
 f8 := ⟨Tryz.f86.name, by decide, Tryz.func86.trans (congrArg some (by kernel_rfl))⟩
 f11 := ⟨Tryz.f129.name, by decide, Tryz.func129.trans (congrArg some (by kernel_rfl))⟩
 t0 := Tryz.underlying0
 a0 := Tryz.isAgg0
 z0 := Tryz.sizeOf0
 v0 := Tryz.zeroValue0
 t24 := Tryz.underlying54
 a24 := Tryz.isAgg54
 z24 := Tryz.sizeOf54
 v24 := Tryz.zeroValue54
 t26 := Tryz.underlying3
 a26 := Tryz.isAgg3
 z26 := Tryz.sizeOf3
 v26 := Tryz.zeroValue3
 t28 := Tryz.underlying110
 a28 := Tryz.isAgg110
 z28 := Tryz.sizeOf110
 v28 := Tryz.zeroValue110
 i26 := by kernel_rfl }
def Lsort_ren : Go.Shelf.Ren := ⟨fun | 5 => 87 | 8 => 131 | 7 => 130 | 19 => 186 | 20 => 187 | 10 => 177 | 11 => 178 | 12 => 179 | 13 => 180 | 14 => 181 | 15 => 182 | 16 => 183 | 17 => 184 | 18 => 185 | 30 => 225 | 31 => 226 | 32 => 227 | 33 => 228 | 34 => 229 | 35 => 230 | 40 => 256 | n => n, fun | 23 => 54 | 25 => 3 | 3 => 3 | 32 => 58 | 22 => 54 | 0 => 0 | 44 => 127 | 46 => 131 | 4 => 4 | 36 => 256 | 35 => 255 | 41 => 260 | 5 => 5 | 9 => 9 | 53 => 309 | 57 => 313 | 63 => 347 | 64 => 348 | n => n, fun | n => n⟩
theorem Lsort : Go.Proofs.SlLaysM.n5 Tryz.prog Lsort_ren := {
 mixed := by kernel_rfl
 f5 := ⟨Tryz.f87.name, by decide, Tryz.func87.trans (congrArg some (by kernel_rfl))⟩
 f7 := ⟨Tryz.f130.name, by decide, Tryz.func130.trans (congrArg some (by kernel_rfl))⟩
 f8 := Tryz.func131.trans (congrArg some (by kernel_rfl))
 f10 := ⟨Tryz.f177.name, by decide, Tryz.func177.trans (congrArg some (by kernel_rfl))⟩
 f11 := ⟨Tryz.f178.name, by decide, Tryz.func178.trans (congrArg some (by kernel_rfl))⟩
 f12 := ⟨Tryz.f179.name, by decide, Tryz.func179.trans (congrArg some (by kernel_rfl))⟩
 f13 := ⟨Tryz.f180.name, by decide, Tryz.func180.trans (congrArg some (by kernel_rfl))⟩
 f14 := ⟨Tryz.f181.name, by decide, Tryz.func181.trans (congrArg some (by kernel_rfl))⟩
 f15 := ⟨Tryz.f182.name, by decide, Tryz.func182.trans (congrArg some (by kernel_rfl))⟩
 f16 := ⟨Tryz.f183.name, by decide, Tryz.func183.trans (congrArg some (by kernel_rfl))⟩
 f17 := ⟨Tryz.f184.name, by decide, Tryz.func184.trans (congrArg some (by kernel_rfl))⟩
 f18 := ⟨Tryz.f185.name, by decide, Tryz.func185.trans (congrArg some (by kernel_rfl))⟩
 f19 := Tryz.func186.trans (congrArg some (by kernel_rfl))
 f20 := Tryz.func187.trans (congrArg some (by kernel_rfl))
 f30 := ⟨Tryz.f225.name, by decide, Tryz.func225.trans (congrArg some (by kernel_rfl))⟩
 f31 := Tryz.func226.trans (congrArg some (by kernel_rfl))
 f32 := Tryz.func227.trans (congrArg some (by kernel_rfl))
 f33 := ⟨Tryz.f228.name, by decide, Tryz.func228.trans (congrArg some (by kernel_rfl))⟩
 f34 := ⟨Tryz.f229.name, by decide, Tryz.func229.trans (congrArg some (by kernel_rfl))⟩
 f35 := ⟨Tryz.f230.name, by decide, Tryz.func230.trans (congrArg some (by kernel_rfl))⟩
 f40 := ⟨Tryz.f256.name, by decide, Tryz.func256.trans (congrArg some (by kernel_rfl))⟩
 t0 := Tryz.underlying0
 a0 := Tryz.isAgg0
 z0 := Tryz.sizeOf0
 v0 := Tryz.zeroValue0
 t3 := Tryz.underlying3
 a3 := Tryz.isAgg3
 z3 := Tryz.sizeOf3
 v3 := Tryz.zeroValue3
 t4 := Tryz.underlying4
 a4 := Tryz.isAgg4
 z4 := Tryz.sizeOf4
 v4 := Tryz.zeroValue4
 t5 := Tryz.underlying5
 a5 := Tryz.isAgg5
 z5 := Tryz.sizeOf5
 v5 := Tryz.zeroValue5
 t9 := Tryz.underlying9
 a9 := Tryz.isAgg9
 z9 := Tryz.sizeOf9
 v9 := Tryz.zeroValue9
 t22 := Tryz.underlying54
 a22 := Tryz.isAgg54
 z22 := Tryz.sizeOf54
 v22 := Tryz.zeroValue54
 t23 := Tryz.underlying54
 a23 := Tryz.isAgg54
 z23 := Tryz.sizeOf54
 v23 := Tryz.zeroValue54
 t25 := Tryz.underlying3
 a25 := Tryz.isAgg3
 z25 := Tryz.sizeOf3
 v25 := Tryz.zeroValue3
 t32 := Tryz.underlying58
 a32 := Tryz.isAgg58
 z32 := Tryz.sizeOf58
 v32 := Tryz.zeroValue58
 t35 := Tryz.underlying255
 a35 := Tryz.isAgg255
 z35 := Tryz.sizeOf255
 v35 := Tryz.zeroValue255
 t36 := Tryz.underlying256
 a36 := Tryz.isAgg256
 z36 := Tryz.sizeOf256
 v36 := Tryz.zeroValue256
 t41 := Tryz.underlying260
 a41 := Tryz.isAgg260
 z41 := Tryz.sizeOf260
 v41 := Tryz.zeroValue260
 t44 := Tryz.underlying127
 a44 := Tryz.isAgg127
 z44 := Tryz.sizeOf127
 v44 := Tryz.zeroValue127
 t46 := Tryz.underlying131
 a46 := Tryz.isAgg131
 z46 := Tryz.sizeOf131
 v46 := Tryz.zeroValue131
 t53 := Tryz.underlying309
 a53 := Tryz.isAgg309
 z53 := Tryz.sizeOf309
 v53 := Tryz.zeroValue309
 t57 := Tryz.underlying313
 a57 := Tryz.isAgg313
 z57 := Tryz.sizeOf313
 v57 := Tryz.zeroValue313
 t63 := Tryz.underlying347
 a63 := Tryz.isAgg347
 z63 := Tryz.sizeOf347
 v63 := Tryz.zeroValue347
 t64 := Tryz.underlying348
 a64 := Tryz.isAgg348
 z64 := Tryz.sizeOf348
 v64 := Tryz.zeroValue348 }
end
section
open Go.RowKit Go.Sx Go.Maps Go.Sort Go.Shelf
theorem coV {C : Cx} {L : List Ent} {g : FuncId} {vs : List Value} {n z : Nat} {xs : List Value} {e : TypeId} {next : Value → List Ent → Prop} (F : Value → Value)
 (h : ∀ w, St C.M C.B w L → Calls C.P g vs.toArray w fun en w' => ∃ r, en = .returned (F (sv r n)) ∧ Rw z n r xs ∧ zq w w' r xs e ∧ Below w.heap.size w w')
 (go : ∀ r, Rw z n r xs → next (F (sv r n)) (L ++ [se r xs e])) : zJ C g vs L next := by
 refine ⟨fun w hs => (h w hs).mono fun en w' ⟨r, he, hR, ho, hb⟩ => ⟨_, _, he, ?_, go r hR⟩⟩
 cases r with
 | none => exact (hs.call hb).deads
 | some p =>
  obtain ⟨b, c, j⟩ := p
  obtain ⟨h1, h2⟩ := ho b c j rfl
  exact hs.add hb h1 h2
abbrev TM : Nat := 93
theorem sorts (m : Nat) : AnyZI.SortsIn Tryz.prog qcY Fence.wide m :=
 ⟨fun blk off cap ss W hH hblk hsz => callsIn_wide.2 (AnyM.slices_Sort_int Lsort blk off cap ss W hH hblk hsz),
  fun p cap W => callsIn_wide.2 (AnyM.slices_Sort_int_none Lsort p cap W)⟩
theorem keys_call (mb : Option Nat) (W : World) : CallsIn Fence.wide 5 Tryz.prog 50 #[.map mb] W fun e w' => e = .returned (.func (.func 88) #[] #[.pointer (some ⟨W.heap.size, 0, none⟩)]) ∧ w' = W.alloc (.cells #[.map mb] TM) :=
 AnyZI.keys_in Lkeys Fence.wide 5 trivial rfl mb W
theorem sorted_call {H : Type} (Bm b nn : Nat) (D0 : DataW H) (R : Value → Option (DataW H × List MemPlace)) (w : World) (hBm : Bm < w.heap.size) (hm : w.cell? ⟨Bm, 0, none⟩ = some (.map (some b))) (hown : w.ownsMap Tryz.prog 3 R b nn D0) (hmax : Maps.size D0 ≤ maxLen) (hbytes : Maps.size D0 * 8 ≤ 140737488355328) :
 Calls Tryz.prog 49 ([.func (.func 88) #[] #[ptr Bm]] : List Value).toArray w fun e w' => ∃ (v : Value) (ss : List Int), e = .returned v ∧ ss.Perm (intKeys D0) ∧
  w'.ownsRow w.heap.size 3 1 v ss.length ((ss.mergeSort leI).map encZ) ∧ (v = .slice none 0 0 ↔ ss = []) ∧ Below w.heap.size w w' := by
 have hseq : SeqGives Fence.wide 2 Tryz.prog 88 #[.pointer (some ⟨Bm, 0, none⟩)] encZ (fun ss => ss.Perm (intKeys D0)) (Maps.size D0) w :=
  AnyZI.keys_gives (ρ := qfc) { Lkeys with } Fence.wide _ trivial rfl (by omega) Bm b nn D0 _ hBm hm hown
 exact (callsIn_wide (n := 5)).1 (AnyZI.sorted_in Lsorted Fence.wide 5 trivial trivial trivial trivial rfl (by omega) (sorts _) (enters_of Tryz.func87 (by kernel_rfl) rfl) 88 #[.pointer (some ⟨Bm, 0, none⟩)] trivial (enters_of Tryz.func88 (by kernel_rfl) rfl) _ _ hmax hbytes _ hseq)
theorem insert_perm {H : Type} (x : Lit × DataW H) (l : List (Lit × DataW H)) : (DataW.insert x l).Perm (x :: l) := by
 induction l with
 | nil => exact .refl _
 | cons y l ih =>
  unfold DataW.insert
  split
  · exact .refl _
  · exact (ih.cons y).trans (.swap x y l)
theorem qd4 {H : Type} (l : List (Lit × DataW H)) : (l.foldr DataW.insert []).Perm l := by
 induction l with
 | nil => exact .refl _
 | cons y l ih => exact (insert_perm y _).trans (ih.cons y)
def RU : Value → Option (DataW Unit × List MemPlace) := fun _ => some (.nil, [])
theorem own_of {w : World} {S : AuS} (h : AuP S w) (hn : S.fs.length ≤ 1000000) :
 ∃ D0 : DataW Unit, w.ownsMap Tryz.prog 3 RU S.bm S.fs.length D0 ∧ Maps.size D0 = S.fs.length ∧ (intKeys D0).Perm (S.fs.map (·.1)) := by
 have hkey : ∀ e ∈ S.fs, WideElems.rd Tryz.prog 3 RU (zH keI e) = some (.int .i64 e.1, .nil) := fun e he => by
  have hb := h.kb e.1 (List.mem_map_of_mem he)
  unfold WideElems.rd
  have hk : keyOf Tryz.prog 3 (zH keI e).key = some (.int .i64 e.1) := by
   rw [keyOf_int undInt]
   have hw : (Lit.int .i64 e.1).wf = true := by
    simp [Lit.wf, IntKind.min, IntKind.max, IntKind.bits, IntKind.signed]; omega
   simp [zH, keI, mapKey, hw]
  rw [hk]; rfl
 have hrg : (S.fs.map (zH keI)).map (WideElems.rg Tryz.prog 3 RU) = S.fs.map fun e => (Lit.int .i64 e.1, DataW.nil) := by
  rw [List.map_map]
  exact List.map_congr_left fun e he => by simp only [Function.comp_apply, WideElems.rg, hkey e he]; rfl
 refine ⟨.map (((S.fs.map (zH keI)).map (WideElems.rg Tryz.prog 3 RU)).foldr DataW.insert []), ⟨_, S.clk, h.m, ⟨?_, ⟨?_, ?_, ?_⟩, ?_⟩, by simp, by simp⟩, ?_, ?_⟩
 · simp; unfold maxLen; omega
 · intro x hx
   simp only [List.mem_map] at hx
   obtain ⟨e, he, rfl⟩ := hx
   exact h.lt e he
 · have := h.nb
   simpa [List.map_map, Function.comp_def, zH] using this
 · have h1 : (S.fs.map (·.1)).Nodup := h.ks.imp fun {a b} h e => by omega
   have : ((S.fs.map (·.1)).map keI).Nodup := by
    rw [List.nodup_iff_pairwise_ne] at *
    rw [List.pairwise_map]
    exact h1.imp fun {a b} h e => h (by simpa [keI] using e)
   simpa [List.map_map, Function.comp_def, zH] using this
 · intro x hx
   simp only [List.mem_map] at hx
   obtain ⟨e, he, rfl⟩ := hx
   exact ⟨_, hkey e he⟩
 · show List.length _ = _
   rw [(qd4 _).length_eq]; simp
 · show (List.map (fun p : Lit × DataW Unit => _root_.Go.intOf p.1) _).Perm _
   refine ((qd4 _).map _).trans ?_
   rw [hrg, List.map_map]
   exact .refl _
def ZI (l : List Int) : List Value := l.map encZ
theorem sort_same {l : List Int} (h : l.Pairwise (· < ·)) : l.mergeSort leI = l := List.mergeSort_of_pairwise (h.imp fun {a b} h => by simp [leI]; omega)
theorem qeC (S : AuS) (w : World) (h : AuP S w) (hn : S.fs.length ≤ 1000000) : Calls Tryz.prog 17 ([ptr S.bA] : List Value).toArray w fun e w' =>
 ∃ r, e = .returned (sv r S.fs.length) ∧ Rw 1 S.fs.length r (ZI (S.fs.map (·.1))) ∧ zq w w' r (ZI (S.fs.map (·.1))) 3 ∧ Below w.heap.size w w' := by
 have ha := (ZF S.p S.o S.lastV (.map (some S.bm))).2.2
 refine (enter qc Tryz.func17 rfl Tryz.ntmps17 rfl (au_ro h) (R := fun v w' => ∃ r, v = sv r S.fs.length ∧ Rw 1 S.fs.length r (ZI (S.fs.map (·.1))) ∧ zq w w' r (ZI (S.fs.map (·.1))) 3 ∧ Below w.heap.size w w') ?_).mono (fun e w' ⟨v, he, r, h1, h2⟩ => ⟨r, by rw [he, h1], h2⟩)
 refine cf rfl ?_
 refine ld1 0 rfl (by exact ha) ?_
 refine cn (v := fun b => .func (.func 88) #[] #[ptr b]) (o := .cells #[.map (some S.bm)] TM (0, 0)) (fun w1 hs => ?_) (fun bk1 => ?_)
 · refine ((callsIn_wide (n := 5)).1 (keys_call (some S.bm) w1)).mono ?_
   rintro e w2 ⟨rfl, rfl⟩
   exact ⟨w1.heap.size, rfl, Nat.le_refl _, heap_alloc_new w1 _, zG w1 _⟩
 refine coV (n := S.fs.length) (z := 1) (xs := ZI (S.fs.map (·.1))) (e := 3) id (fun w1 hs => ?_) (fun r hR => ?_)
 · have hm : w1.cell? ⟨bk1, 0, none⟩ = some (.map (some S.bm)) := hs.cell (k := 2) rfl 0
   have h1 : AuP S w1 := (auR S).st w w1 (fun k hk => hs.below.block k ((auR S).bd w h k hk)) h
   obtain ⟨D0, hown, hsz, hp⟩ := own_of h1 hn
   refine (sorted_call bk1 S.bm _ D0 RU w1 (hs.lt (List.mem_of_getElem? (i := 2) rfl) rfl) hm hown (by rw [hsz]; unfold maxLen; omega) (by rw [hsz]; omega)).mono ?_
   rintro e w2 ⟨v, ss, rfl, hss, hrow, hnil, hb⟩
   have hsl : ss.length = S.fs.length := by rw [(hss.trans hp).length_eq]; simp
   have hst : (ss.mergeSort leI).map encZ = ZI (S.fs.map (·.1)) := by rw [mergeSort_of_perm_i (hss.trans hp), sort_same h.ks]; rfl
   rw [hst, hsl] at hrow
   obtain ⟨h1, h2 | ⟨g, cap, cur, h2, h3, h4, h5, h6, h7, h8⟩⟩ := hrow
   · obtain ⟨rfl, h0⟩ := h2
     exact ⟨none, by rw [h0]; rfl, ⟨h1, h0⟩, fun _ _ _ h => (by cases h), hb⟩
   · rw [Nat.mul_one] at h8
     have hcur : cur = (ZI (S.fs.map (·.1)) ++ cur.toList.drop S.fs.length).toArray := by
      apply Array.ext'
      rw [← h8]; simp
     refine ⟨some (g, cap, cur.toList.drop S.fs.length), by rw [h2]; rfl, ⟨h1, h5, h6, ?_⟩, ?_, hb⟩
     · rw [← h8, List.take_append_drop]; simpa using h7
     · rintro b c j hj
       obtain ⟨rfl, rfl, rfl⟩ : g = b ∧ cap = c ∧ cur.toList.drop S.fs.length = j := by injection hj with hj; injection hj with a1 a2; injection a2 with a2 a3; exact ⟨a1, a2, a3⟩
       exact ⟨h3, by rw [← hcur]; exact h4⟩
 exact ⟨fun w1 hs => ⟨r, rfl, hR, Qx hs rfl 3 rfl, hs.below⟩⟩
end
section
open Go.RowKit Go.Sx
def DG10 : Bs := [48, 49, 50, 51, 52, 53, 54, 55, 56, 57]
theorem qbC (u : Nat) (hu : u < 10) (w : World) : Calls Tryz.prog 91 ([.int .i64 u] : List Value).toArray w fun e w' => e = .returned (VS [UInt8.ofNat (48 + u)]) ∧ Below w.heap.size w w' := by
 refine qj qc Tryz.func91 rfl Tryz.ntmps91 rfl (St.start w) ?_
 refine ct (decide_eq_true (by omega)) ?_
 refine .as ((u + 1 : Nat) : Int) (by omega) (by simp only [mn]; omega) (by simp only [mx]; omega) ?_
 refine slB (s := DG10) u (u + 1) (by omega) (by show u + 1 ≤ 10; omega) rfl rfl ?_
 refine rt ?_
 show VS _ = VS _
 congr 2
 have : (List.range 10).all (fun u => decide (((DG10.take (u + 1)).drop u) = [UInt8.ofNat (48 + u)])) = true := by decide +kernel
 exact of_decide_eq_true (List.all_eq_true.1 this u (by simpa using hu))
def rb1 (h : Hd) : Bs := za ++ [10] ++ h.o ++ [10]
def rb2 (h : Hd) (a t : Bs) : Bs := rb1 h ++ a ++ [32] ++ t ++ [10]
def zW (h : Hd) (a t : Bs) : Bs := rb2 h a t ++ zA h.root ++ [10, 10]
theorem cat2 (a b c : Bs) (h : a ++ b = c) : (⟨a.toArray⟩ : ByteArray) ++ ⟨b.toArray⟩ = ⟨c.toArray⟩ := by rw [qbx, h]
theorem szB (a : Bs) : (⟨a.toArray⟩ : ByteArray).size = a.length := by simp [ByteArray.size]
theorem rbody_any (h : Hd) (A T : Bs) (hA : A.length ≤ 100) (hT : T.length ≤ 100) (hr : h.root.length = 32) (hg : h.sig.length = 64) (hl : h.o.length ≤ 1000) (w : World)
 (hAc : ∀ w', Below w.heap.size w w' → Calls Tryz.prog 91 ([.int .i64 h.size] : List Value).toArray w' fun e w'' => e = .returned (VS A) ∧ Below w'.heap.size w' w'')
 (hTc : ∀ w', Below w.heap.size w w' → Calls Tryz.prog 91 ([.int .i64 h.time] : List Value).toArray w' fun e w'' => e = .returned (VS T) ∧ Below w'.heap.size w' w'') :
 Calls Tryz.prog 53 ([.agg (hdC h)] : List Value).toArray w fun e w' => ∃ x : Nat × Nat, True ∧ e = .returned (.slice (some ⟨x.1, 0, none⟩) (zW h A T).length x.2) ∧ St [] w w' [qdz x.1 x.2 (zW h A T)] := by
 refine (enter qc Tryz.func53 rfl Tryz.ntmps53 rfl (St.start w) (R := fun v w' => ∃ x : Nat × Nat, v = .slice (some ⟨x.1, 0, none⟩) (zW h A T).length x.2 ∧ St [] w w' [qdz x.1 x.2 (zW h A T)]) ?_).mono (fun e w' ⟨v, he, x, h1, h2⟩ => ⟨x, trivial, by rw [he, h1], h2⟩)
 intro b1
 refine dr [cl b1 (hdC h) THd] 99 (.t 0 (.t 1 (.t 2 (.t 3 (.t 4 (.t 5 (.t 9 (.t 10 (.t 14 (.t 15 (.n 6 (.t 7 (.t 8 (.n 11 (.t 12 (.t 13 (.n 16 (.t 17 (.t 18 (.n 19 (.t 20 .nil))))))))))))))))))))) qc qe (by kernel_rfl) (.cons .nil) ?_
 refine ld1 0 rfl rfl ?_
 refine ⟨by rw [szB [99, 97, 99, 104, 101, 116, 32, 118, 49, 10], szB h.o]; simp only [List.length_append, List.length_cons, List.length_nil, rb1, za, Q6]; omega, ?_⟩
 rw [cat2 [99, 97, 99, 104, 101, 116, 32, 118, 49, 10] h.o _ rfl]
 refine ⟨by rw [szB ([99, 97, 99, 104, 101, 116, 32, 118, 49, 10] ++ h.o), szB [10]]; simp only [List.length_append, List.length_cons, List.length_nil, rb1, za, Q6]; omega, ?_⟩
 rw [cat2 ([99, 97, 99, 104, 101, 116, 32, 118, 49, 10] ++ h.o) [10] _ rfl]
 rw [show ([99, 97, 99, 104, 101, 116, 32, 118, 49, 10] : Bs) ++ h.o ++ [10] = rb1 h from rfl]
 refine ld1 0 rfl rfl ?_
 refine ld1 0 rfl rfl ?_
 refine ⟨.mk 0 32 32 rfl rfl rfl (by decide) (by decide) (by decide) (by simp) (.on (by decide) ?_)⟩
 refine cvs (fun w' hs => hAc w' hs.below) ?_
 refine ⟨.cons .nil, ?_⟩
 refine ⟨by rw [szB (rb1 h), szB A]; simp only [List.length_append, List.length_cons, List.length_nil, rb1, za, Q6]; omega, ?_⟩
 rw [cat2 (rb1 h) A _ rfl]
 refine ⟨by rw [szB (rb1 h ++ A), szB [32]]; simp only [List.length_append, List.length_cons, List.length_nil, rb1, za, Q6]; omega, ?_⟩
 rw [cat2 (rb1 h ++ A) [32] _ rfl]
 refine cvs (fun w' hs => hTc w' hs.below) ?_
 refine ⟨.cons .nil, ?_⟩
 refine ⟨by rw [szB (rb1 h ++ A ++ [32]), szB T]; simp only [List.length_append, List.length_cons, List.length_nil, rb1, za, Q6]; omega, ?_⟩
 rw [cat2 (rb1 h ++ A ++ [32]) T _ rfl]
 refine ⟨by rw [szB (rb1 h ++ A ++ [32] ++ T), szB [10]]; simp only [List.length_append, List.length_cons, List.length_nil, rb1, za, Q6]; omega, ?_⟩
 rw [cat2 (rb1 h ++ A ++ [32] ++ T) [10] _ rfl]
 rw [show rb1 h ++ A ++ [32] ++ T ++ [10] = rb2 h A T from rfl]
 have hrd : ∀ w', St [] w w' [cl b1 (hdC h) THd] → Rd w' (.slice (some ⟨b1, 3, none⟩) 32 32) (Lib.byteCells h.root) := fun w' hs => Rd.ent hs 0 (n := 32) (o := 3) rfl (by rw [Lib.byteCells_length, hr]) (by
  show (List.drop 3 (hdC h).toList).take 32 = _
  unfold hdC
  show (Lib.byteCells h.root ++ Lib.byteCells h.sig).take 32 = _
  rw [List.take_left' (by rw [Lib.byteCells_length, hr])])
 refine cvs (fun w' hs => rhex_any _ h.root (by omega) w' (hrd w' hs)) ?_
 refine ⟨.cons .nil, ?_⟩
 have h2 : (rb2 h A T).length ≤ 2000 := by simp only [rb2, rb1, za, List.length_append, List.length_cons, List.length_nil]; omega
 refine ⟨by rw [szB (rb2 h A T), szB (zA h.root), Q6]; omega, ?_⟩
 rw [cat2 (rb2 h A T) (zA h.root) _ rfl]
 refine ⟨by rw [szB (rb2 h A T ++ zA h.root), szB [10, 10], List.length_append, Q6]; simp only [List.length_cons, List.length_nil]; omega, ?_⟩
 rw [cat2 (rb2 h A T ++ zA h.root) [10, 10] _ rfl]
 refine cvSt qdi Zq undU8 (fun b cap => ?_)
 refine ⟨.cons .nil, ?_⟩
 have hzz : (⟨(zW h A T).toArray⟩ : ByteArray).size = (zW h A T).length := szB _
 refine ⟨fun w1 hs => ⟨(b, cap), ?_, hs.sub (.drop (.cons .nil))⟩⟩
 rw [← hzz]; rfl
theorem csAll_have (sg : ByteArray) (k : Nat) (hk : 3 ≤ k) (bs : List UInt8) : (Qh sg k bs).2.2 = 8 * bs.length % k := by
 obtain ⟨h1, h2⟩ := qaR sg k hk bs
 have := h1.sum
 rw [← this, Nat.mul_comm, Nat.mul_add_mod, Nat.mod_eq_of_lt h2]
theorem cs1_pre (sg : ByteArray) (k : Nat) (p : List UInt8) (s : Cs) : cs1 sg k (p ++ s.1, s.2) = (p ++ (cs1 sg k s).1, (cs1 sg k s).2) := by
 unfold cs1
 split <;> simp
theorem csB_pre (sg : ByteArray) (k : Nat) (p : List UInt8) (s : Cs) (c : Nat) : csB sg k (p ++ s.1, s.2) c = (p ++ (csB sg k s c).1, (csB sg k s c).2) := by
 have h1 := cs1_pre sg k p (s.1, s.2.1 * 256 + c, s.2.2 + 8)
 unfold csB csF
 simp only at h1 ⊢
 rw [h1, cs1_pre, cs1_pre]
theorem csFold_pre (sg : ByteArray) (k : Nat) (p : List UInt8) (bs : List UInt8) : ∀ s : Cs, bs.foldl (fun s c => csB sg k s c.toNat) (p ++ s.1, s.2) = (p ++ (bs.foldl (fun s c => csB sg k s c.toNat) s).1, (bs.foldl (fun s c => csB sg k s c.toNat) s).2) := by
 induction bs with
 | nil => intro s; rfl
 | cons c bs ih => intro s; simp only [List.foldl_cons]; rw [csB_pre]; exact ih _
theorem codeL_app (sg : ByteArray) (k : Nat) (hk : 3 ≤ k) (a b : List UInt8) (h : 8 * a.length % k = 0) : QH sg k (a ++ b) = QH sg k a ++ QH sg k b := by
 have h1 := csAll_have sg k hk a
 rw [h] at h1
 have h2 := (qaR sg k hk a).1.bits
 rw [h1] at h2
 have h3 : (Qh sg k a).2 = (0, 0) := Prod.ext (by simpa using h2) h1
 have e : Qh sg k (a ++ b) = ((Qh sg k a).1 ++ (Qh sg k b).1, (Qh sg k b).2) := by
  have h4 := csFold_pre sg k (Qh sg k a).1 b ([], 0, 0)
  simp only [List.append_nil] at h4
  show (a ++ b).foldl _ _ = _
  rw [List.foldl_append]
  show b.foldl _ (Qh sg k a) = _
  rw [show Qh sg k a = ((Qh sg k a).1, (0, 0)) from Prod.ext rfl h3]
  exact h4
 have e1 : QH sg k a = (Qh sg k a).1 := by unfold QH; rw [h1, if_neg (by omega)]
 rw [e1]
 unfold QH
 rw [e]
 simp only
 split
 · rw [List.append_assoc]
 · rfl
theorem hex_app (a b : List UInt8) : QH zQ 4 (a ++ b) = QH zQ 4 a ++ QH zQ 4 b := codeL_app zQ 4 (by decide) a b (by omega)
theorem u8_cases {P : UInt8 → Prop} (h : ∀ n, n < 256 → P (UInt8.ofNat n)) (c : UInt8) : P c := by
 have := h c.toNat (UInt8.toNat_lt c)
 rwa [UInt8.ofNat_toNat] at this
theorem hex1 (c : UInt8) : QH zQ 4 [c] = zA [c] := u8_cases (P := fun c => QH zQ 4 [c] = zA [c]) (by decide +kernel) c
theorem hex_A (b : List UInt8) : QH zQ 4 b = zA b := by
 induction b with
 | nil => rfl
 | cons c b ih =>
  have := hex_app [c] b
  rw [List.singleton_append] at this
  rw [this, hex1, ih]; rfl
theorem qe6 (h : Hd) (A T : Bs) : qO h (A ++ [32] ++ T) = zW h A T := by
 have e : qO h (A ++ [32] ++ T) = za ++ ([10] ++ (h.o ++ ([10] ++ ((A ++ [32] ++ T) ++ ([10] ++ (QH zQ 4 h.root ++ ([10] ++ ([] ++ ([10] ++ []))))))))) := rfl
 rw [e, hex_A]
 simp only [zW, rb2, rb1, List.append_assoc, List.nil_append, List.append_nil, List.cons_append]
end
section
open Go.RowKit Go.Sx
theorem eqS {C : Cx} {L : List Ent} {x y : Bs} {a b : Operand} {next : Value → List Ent → Prop} (hP : C.P = Tryz.prog) (hx : x.length = 32) (hy : y.length = 32) (go : next (.bool (decide (x = y))) L) :
 ZV C (do eqGuard .eql 39 a b (qV x) (qV y); binOp .eql 39 (qV x) (qV y)) L next :=
 eqB (e := 5) (n := 32) (by rw [hP]; kernel_rfl) (by rw [hP]; kernel_rfl) (by rw [hP]; kernel_rfl) (by rw [hP]; kernel_rfl) hx hy go
theorem Zu (r : Bs) (h : r.length = 32) : (Lib.byteCells r).toArray.size = 32 := by simp [Lib.byteCells_length, h]
theorem int_nat0 (n : Nat) : (((n : Nat) : Int) == 0) = decide (n = 0) := by rw [Bool.eq_iff_iff]; simp
theorem grows_eq (m : Int) (hm : m ≠ 0) (o r : Bs) (ho : o.length = 32) (hr : r.length = 32) (a : Option Addr) (n c : Nat) (w : World) :
 Calls Tryz.prog 48 ([.int .i64 m, qV o, .int .i64 m, qV r, .slice a n c] : List Value).toArray w fun e w' => e = .returned (.bool (decide (n = 0) && decide (o = r))) ∧ Below w.heap.size w w' := by
 refine qj qc Tryz.func48 rfl Tryz.ntmps48 rfl (St.start w) ?_
 intro b6 b8
 refine cf (by simpa using hm) ?_
 refine ct (by simp) ?_
 by_cases hn : n = 0
 · subst hn
   refine ct rfl ?_
   refine ldN 0 rfl (Zu o ho) ?_
   refine ct rfl ?_
   refine ldN 1 rfl (Zu r hr) ?_
   refine ct rfl ?_
   refine eqS rfl ho hr ?_
   refine ct rfl ?_
   exact rt rfl
 · have e1 : (((n : Nat) : Int) == 0) = false := by rw [int_nat0]; exact decide_eq_false hn
   have e2 : ((((n : Nat) : Int) == 0) == true) = false := by rw [e1]; rfl
   iterate 3 refine cf e2 ?_
   refine cf e1 ?_
   refine rt ?_
   rw [decide_eq_false hn]; rfl
theorem grows_zero (m : Int) (o r : Bs) (ho : o.length = 32) (hr : r.length = 32) (a : Option Addr) (n c : Nat) (w : World) :
 Calls Tryz.prog 48 ([.int .i64 0, qV o, .int .i64 m, qV r, .slice a n c] : List Value).toArray w fun e w' => e = .returned (.bool (decide (n = 0) && (decide (0 < m) || decide (o = r)))) ∧ Below w.heap.size w w' := by
 refine qj qc Tryz.func48 rfl Tryz.ntmps48 rfl (St.start w) ?_
 intro b6 b8
 refine ct rfl ?_
 by_cases hn : n = 0
 · subst hn
   by_cases hm : 0 < m
   · have g1 : decide (m > 0) = true := decide_eq_true hm
     have g2 : (decide (m > 0) == false) = false := by rw [g1]; rfl
     iterate 3 refine ct rfl ?_
     iterate 3 refine cf g2 ?_
     refine ct rfl ?_
     refine ct g1 ?_
     refine ct rfl ?_
     refine rt ?_
     rw [decide_eq_true hm]; rfl
   · have g1 : decide (m > 0) = false := decide_eq_false hm
     have g2 : (decide (m > 0) == false) = true := by rw [g1]; rfl
     iterate 3 refine ct rfl ?_
     refine ct g2 ?_
     refine ldN 0 rfl (Zu o ho) ?_
     refine ct g2 ?_
     refine ldN 1 rfl (Zu r hr) ?_
     refine ct g2 ?_
     refine eqS rfl ho hr ?_
     refine ct rfl ?_
     refine cf g1 ?_
     refine ct rfl ?_
     refine rt ?_
     rw [decide_eq_false hm]; rfl
 · have e1 : (((n : Nat) : Int) == 0) = false := by rw [int_nat0]; exact decide_eq_false hn
   have e2 : ((((n : Nat) : Int) == 0) == true) = false := by rw [e1]; rfl
   iterate 4 refine cf e2 ?_
   refine cf e1 ?_
   refine rt ?_
   rw [decide_eq_false hn]; rfl
theorem rroot1_any (b c : Nat) (r : Bs) (hr : r.length = 32) (t : TypeId) (w : World) (hw : w.heap[b]? = some (.cells (Lib.byteCells r).toArray t (0, 0))) :
 Calls Tryz.prog 35 ([.slice (some ⟨b, 0, none⟩) 1 c] : List Value).toArray w fun e w' => e = .returned (qV r) ∧ Below w.heap.size w w' := by
 have hz := Zu r hr
 refine qj qc Tryz.func35 rfl Tryz.ntmps35 rfl (St.reads1 hw) ?_
 intro b2
 refine cf rfl ?_
 refine ct rfl ?_
 refine ⟨by decide, by decide, ?_⟩
 refine ldN 0 rfl hz ?_
 refine sN 1 rfl (hz.trans (by kernel_rfl)) (qD r) ?_ (by rw [hz]; kernel_rfl)
 refine ldN 1 rfl hz ?_
 exact rt rfl
def Qu : Nat := 2304
theorem qds (w : World) : Calls Tryz.prog 13 ([] : List Value).toArray w fun e w' => e = .returned (.agg (k32 Qu)) ∧ Below w.heap.size w w' := by
 refine qj qc Tryz.func13 rfl Tryz.ntmps13 rfl (St.start w) ?_
 intro b0
 refine bu (c := k32 Qu) (by kernel_rfl) ?_
 refine sN 0 rfl (by kernel_rfl) (qv _) ?_ (by kernel_rfl)
 refine ldN 0 rfl (qf _) ?_
 exact rt rfl
def logB : Bs := [108, 111, 103]
def qeo (n : Nat) (h : Hd) (A T : Bs) : Hd := { h with sig := qem n (zW h A T) }
def hd0 (r : Bs) (n t : Int) : Hd := ⟨logB, n, t, r, List.replicate 64 0⟩
theorem ZX (n : Nat) (bs : Bs) : (qem n bs).length = 64 := by unfold qem; rw [List.length_append, qt, qt]
theorem hd_put (h : Hd) (s : Bs) (hr : h.root.length = 32) (hs : h.sig.length = 64) (hs' : s.length = 64) : ((hdC h).toList.take 35 ++ (Lib.byteCells s).toArray.toList ++ (hdC h).toList.drop (35 + (Lib.byteCells s).toArray.size)).toArray = hdC { h with sig := s } := by
 have e : (hdC h).toList = ([VS h.o, .int .i64 h.size, .int .i64 h.time] ++ Lib.byteCells h.root) ++ Lib.byteCells h.sig := rfl
 have hz : (Lib.byteCells s).toArray.size = 64 := by simp [Lib.byteCells_length, hs']
 rw [hz, e, List.take_left' (by simp [Lib.byteCells_length, hr]), List.drop_of_length_le (by simp [Lib.byteCells_length, hr, hs]), List.append_nil]
 rfl
theorem list32 {P : Bs → Prop} (h : ∀ x0 x1 x2 x3 x4 x5 x6 x7 x8 x9 x10 x11 x12 x13 x14 x15 x16 x17 x18 x19 x20 x21 x22 x23 x24 x25 x26 x27 x28 x29 x30 x31, P [x0, x1, x2, x3, x4, x5, x6, x7, x8, x9, x10, x11, x12, x13, x14, x15, x16, x17, x18, x19, x20, x21, x22, x23, x24, x25, x26, x27, x28, x29, x30, x31]) : ∀ r : Bs, r.length = 32 → P r
 | [x0, x1, x2, x3, x4, x5, x6, x7, x8, x9, x10, x11, x12, x13, x14, x15, x16, x17, x18, x19, x20, x21, x22, x23, x24, x25, x26, x27, x28, x29, x30, x31], _ => h x0 x1 x2 x3 x4 x5 x6 x7 x8 x9 x10 x11 x12 x13 x14 x15 x16 x17 x18 x19 x20 x21 x22 x23 x24 x25 x26 x27 x28 x29 x30 x31
theorem hd_built (r : Bs) (n t : Int) (hr : r.length = 32) : Tryz.prog.built THd [(0, VS logB), (1, .int .i64 n), (2, .int .i64 t), (3, qV r)] = some (hdC (hd0 r n t)) :=
 list32 (P := fun r => Tryz.prog.built THd [(0, VS logB), (1, .int .i64 n), (2, .int .i64 t), (3, qV r)] = some (hdC (hd0 r n t))) (fun x0 x1 x2 x3 x4 x5 x6 x7 x8 x9 x10 x11 x12 x13 x14 x15 x16 x17 x18 x19 x20 x21 x22 x23 x24 x25 x26 x27 x28 x29 x30 x31 => by kernel_rfl) r hr
theorem qdB (v : Value) (r : Bs) (n : Nat) (t : Int) (A T : Bs) (hr : r.length = 32) (w : World) (hA : A.length ≤ 100) (hT : T.length ≤ 100)
 (hRoot : ∀ w', Below w.heap.size w w' → Calls Tryz.prog 35 ([v] : List Value).toArray w' fun e w'' => e = .returned (qV r) ∧ Below w'.heap.size w' w'')
 (hv : ∃ a c, v = .slice a n c)
 (hAc : ∀ w', Below w.heap.size w w' → Calls Tryz.prog 91 ([.int .i64 n] : List Value).toArray w' fun e w'' => e = .returned (VS A) ∧ Below w'.heap.size w' w'')
 (hTc : ∀ w', Below w.heap.size w w' → Calls Tryz.prog 91 ([.int .i64 t] : List Value).toArray w' fun e w'' => e = .returned (VS T) ∧ Below w'.heap.size w' w'') :
 Calls Tryz.prog 20 ([v, .int .i64 t] : List Value).toArray w fun e w' => e = .returned (.agg (hdC (qeo Qu (hd0 r n t) A T))) ∧ Below w.heap.size w w' := by
 obtain ⟨a, c, rfl⟩ := hv
 have hz : (hdC (hd0 r n t)).size = 99 := qT _ hr rfl
 have hz' : (hdC (qeo Qu (hd0 r n t) A T)).size = 99 := qT _ hr (ZX _ _)
 have hsz : (Lib.byteCells (qem Qu (zW (hd0 r n t) A T))).toArray.size = 64 := by simp [Lib.byteCells_length, ZX]
 refine qj qc Tryz.func20 rfl Tryz.ntmps20 rfl (St.start w) ?_
 intro b4
 refine cvs (fun w' hs => hRoot w' hs.below) ?_
 refine bu (c := hdC (hd0 r n t)) (hd_built r n t hr) ?_
 intro b5
 refine sN 1 rfl (hz.trans (by kernel_rfl)) (qau _) ?_ (by rw [hz]; kernel_rfl)
 refine dr [cl b4 _ THd, cl b5 (hdC (hd0 r n t)) THd] 5 (.t 0 (.t 1 (.n 2 (.n 3 (.t 4 (.n 5 .nil)))))) qc qe (by kernel_rfl) (.cons (.cons .nil)) ?_
 refine cz qds ?_
 refine ldN 1 rfl hz ?_
 refine cMs (v := fun x : Nat × Nat => .slice (some ⟨x.1, 0, none⟩) (zW (hd0 r n t) A T).length x.2) (es := fun x => [qdz x.1 x.2 (zW (hd0 r n t) A T)]) (fun w' hs => rbody_any (hd0 r n t) A T hA hT hr rfl (by show logB.length ≤ 1000; decide) w' (fun w'' hb => hAc w'' (hs.below.trans (hb.mono hs.below.size))) (fun w'' hb => hTc w'' (hs.below.trans (hb.mono hs.below.size)))) (fun x _ e he k hk => by
  obtain rfl : e = qdz x.1 x.2 (zW (hd0 r n t) A T) := by simpa using he
  simpa using hk) (fun x _ => ?_)
 refine ⟨.cons (.cons .nil), ?_⟩
 have hbl : (zW (hd0 r n t) A T).length ≤ 10000 := by
  rw [← qe6]
  exact Nat.le_trans (qcr _ _ hr (by show logB.length ≤ 1000; decide) (by simp; omega)) (by decide)
 refine cvs (fun w' hs => rsign_any Qu _ (zW (hd0 r n t) A T) w' (Rd.ent hs 2 rfl (by rw [Lib.byteCells_length]) (by have := qcJ (zW (hd0 r n t) A T) x.2; rw [szB] at this; exact this)) hbl) ?_
 refine ⟨.cons (.cons .nil), ?_⟩
 refine sP 1 rfl (by rw [hsz, hz]; decide) (qD _) (hd_put (hd0 r n t) _ hr rfl (ZX _ _)) ?_ (by rw [hsz]; kernel_rfl)
 refine ldN 1 rfl hz' ?_
 refine sN 0 (d := hdC (qeo Qu (hd0 r n t) A T)) rfl (hz'.trans (by kernel_rfl)) (qau _) ?_ (by rw [hz']; kernel_rfl)
 refine ldN 0 rfl hz' ?_
 exact rt rfl
end
section
open Go.RowKit Go.Sx
theorem coW {C : Cx} {L : List Ent} {g : FuncId} {vs : List Value} {n z : Nat} {xs : List Value} {e : TypeId} {next : Value → List Ent → Prop} (F : Value → Value)
 (h : ∀ w, St C.M C.B w L → Calls C.P g vs.toArray w fun en w' => ∃ r, en = .returned (F (sv r n)) ∧ Rw z n r xs ∧ zq w w' r xs e ∧ Below w.heap.size w w')
 (go : ∀ r, Rw z n r xs → next (F (sv r n)) (L ++ [se r xs e])) : zJ C g vs L next := by
 refine ⟨fun w hs => (h w hs).mono fun en w' ⟨r, he, hR, ho, hb⟩ => ⟨_, _, he, ?_, go r hR⟩⟩
 cases r with
 | none => exact (hs.call hb).deads
 | some p =>
  obtain ⟨b, c, j⟩ := p
  obtain ⟨h1, h2⟩ := ho b c j rfl
  exact hs.add hb h1 h2
theorem RdS.at {w : World} {b o n c : Nat} {ps : List Bs} (h : RdS w (.slice (some ⟨b, o, none⟩) n c) ps) (i : Nat) (p : Bs) (hp : ps[i]? = some p) : w.rangeAt b (o + 32 * i) (Lib.byteCells p) := by
 obtain ⟨_, a3, c3, g2, _, g3⟩ := h
 obtain ⟨b', o', g4, _, g5⟩ := g3 (fun e => by subst e; simp at hp)
 injection g2 with g2 _ _
 rw [g4] at g2
 injection g2 with g2
 injection g2 with g2 g6
 subst g2 g6
 exact g5 i p hp
theorem bo_at (l : List Bool) (j : List Value) (k : Nat) (h : k < l.length) (q : Int) (hq : q = k) : (boC l ++ j).toArray[nad 0 (nmu q.toNat 1)]? = some (.bool (l.getD k false)) := by
 subst hq
 rw [qi, qh, Nat.zero_add, Nat.mul_one, Int.toNat_natCast, List.getElem?_toArray, List.getElem?_append_left (by rw [qba]; exact h)]
 unfold boC
 rw [List.getElem?_map, List.getD_eq_getElem?_getD, List.getElem?_eq_getElem h]; rfl
theorem slTail {e z b o n c : Nat} (hn : 1 ≤ n) (hnc : n ≤ c) {next : Value → Prop} {fb : Prop} (go : ∀ a', (1 < c → a' = some ⟨b, o + z, none⟩) → next (.slice a' (n - 1) (c - 1))) :
 SliP (.sl e z) (.slice (some ⟨b, o, none⟩) n c) (some 1) none none next fb := by
 refine ⟨?_⟩
 refine .mk 1 n c rfl rfl rfl hn hnc (Nat.le_refl _) (by simp) ?_
 by_cases h1 : c = 1
 · exact .all h1 (go _ (fun h => by omega))
 · refine .on (by omega) ?_
   rw [qi, qh, Nat.one_mul]
   exact go _ (fun _ => rfl)
structure ExS where
 b7 : Nat
 b8 : Nat
 b13 : Nat
 r : Sx.Own
 a2 : Option Addr
 c2 : Nat
 rs : List Bs
 f : Bs
structure ExOk (a : Option Addr) (c : Nat) (ps : List Bs) (T : List Bool) (old new : Bs) (B : Bool) (x : ExS) : Prop where
 R : Rw 1 T.length x.r (boC T.reverse)
 f : x.f.length = 32
 ln : ∀ p ∈ x.rs, p.length = 32
 ad : x.rs ≠ [] → ∃ b o, x.a2 = some ⟨b, o, none⟩
 rd : ∀ w, RdS w (.slice a ps.length c) ps → RdS w (.slice x.a2 x.rs.length x.c2) x.rs
 B : B = extE T old new x.f x.rs
abbrev exF (a : Option Addr) (c : Nat) (ps : List Bs) (T : List Bool) (old new : Bs) (x : ExS) : Sy := ⟨[(4, .slice x.a2 x.rs.length x.c2), (7, ptr x.b7), (8, ptr x.b8), (11, sv x.r T.length), (13, ptr x.b13)], [rs (rdS a c ps), cl x.b7 (Lib.byteCells old).toArray 39, cl x.b8 (Lib.byteCells new).toArray 39, se x.r (boC T.reverse) TTn, cl x.b13 (Lib.byteCells x.f).toArray 39], []⟩
theorem ext_rest {a : Option Addr} {c : Nat} {ps : List Bs} {T : List Bool} {old new : Bs} {B : Bool} (ho : old.length = 32) (hn : new.length = 32) (hT : T.length ≤ 1048576) (w : World) (x : ExS) (hx : ExOk a c ps T old new B x) :
 CodeP ⟨Tryz.prog, tab, 87, [], w, none⟩ (dropS 5 ((Tryz.f85.body).getD .skip)) (retK ⟨Tryz.prog, tab, 87, [], w, none⟩ Tryz.f85 fun v w' => v = .bool B ∧ Below w.heap.size w w') (exF a c ps T old new x) := by
 obtain ⟨b7, b8, b13, r, a2, c2, rs', f⟩ := x
 obtain ⟨hR, hf, hln, had, hrd, hB⟩ := hx
 simp only at hR hf hln had hrd hB
 obtain ⟨sa, sc, hv⟩ := qW hR
 refine ZO qc _ _ _ ?_
 unfold exF
 simp only
 rw [hv]
 unfold extE at hB
 by_cases hl : rs'.length = T.length
 case neg =>
  rw [if_neg hl] at hB
  refine cne (fun _ => ?_) (fun e => absurd e (by omega))
  refine rt ?_
  rw [hB]; rfl
 rw [if_pos hl] at hB
 refine cne (fun e => absurd e (by omega)) (fun _ => ?_)
 have hz := qx f hf
 have hz2 : (Lib.byteCells f).toArray.size = 32 := hz
 refine cutp (α := Nat × Nat) (fun _ => True) (fun x => ⟨[(4, .slice a2 rs'.length c2), (7, ptr b7), (8, ptr b8), (11, .slice sa T.length sc), (14, ptr x.1), (15, ptr x.2)], [rs (rdS a c ps), cl b7 (Lib.byteCells old).toArray 39, cl b8 (Lib.byteCells new).toArray 39, se r (boC T.reverse) TTn, cl x.1 (Lib.byteCells f).toArray 39, cl x.2 (Lib.byteCells f).toArray 39], []⟩) ?_ ?_
 · refine drs [dead, dead, dead, dead, cl b13 (Lib.byteCells f).toArray 39] [] (.t 0 (.t 1 (.b 2 3 (.n 3 (.n 4 (.n 5 .nil))) (.n 2 (.n 4 (.n 5 .nil)))))) qc qe (by kernel_rfl) (.dead (.dead (.dead (.dead (.cons .nil))))) ?_
   refine ldN 4 rfl hz ?_
   refine ldN 4 rfl hz ?_
   refine ⟨?_, ?_⟩
   · intro b14
     refine ⟨.dead (.dead (.dead (.dead (.cons .nil)))), ?_⟩
     intro b15
     refine ⟨.dead (.dead (.dead (.dead (.cons .nil)))), ?_⟩
     refine sN 5 (d := (Lib.byteCells f).toArray) rfl (hz.trans (by kernel_rfl)) (qD _) ?_ (by rw [hz]; kernel_rfl)
     refine ⟨.dead (.dead (.dead (.dead (.cons .nil)))), ?_⟩
     refine sN 6 (d := (Lib.byteCells f).toArray) rfl (hz.trans (by kernel_rfl)) (qD _) ?_ (by rw [hz]; kernel_rfl)
     refine ⟨.dead (.dead (.dead (.dead (.cons .nil)))), ?_⟩
     exact ⟨(b14, b15), trivial, ⟨rfl, rfl, rfl, rfl, rfl, rfl, trivial⟩, ⟨_, .refl _, .cons (.cons (.cons (.cons (.drop (.cons (.cons .nil))))))⟩, rfl⟩
   · intro b15
     refine ⟨.dead (.dead (.dead (.dead (.cons .nil)))), ?_⟩
     intro b14
     refine ⟨.dead (.dead (.dead (.dead (.cons .nil)))), ?_⟩
     refine sN 6 (d := (Lib.byteCells f).toArray) rfl (hz.trans (by kernel_rfl)) (qD _) ?_ (by rw [hz]; kernel_rfl)
     refine ⟨.dead (.dead (.dead (.dead (.cons .nil)))), ?_⟩
     refine sN 5 (d := (Lib.byteCells f).toArray) rfl (hz.trans (by kernel_rfl)) (qD _) ?_ (by rw [hz]; kernel_rfl)
     refine ⟨.dead (.dead (.dead (.dead (.cons .nil)))), ?_⟩
     exact ⟨(b14, b15), trivial, ⟨rfl, rfl, rfl, rfl, rfl, rfl, trivial⟩, ⟨[rs (rdS a c ps), cl b7 (Lib.byteCells old).toArray 39, cl b8 (Lib.byteCells new).toArray 39, se r (boC T.reverse) TTn, cl b15 (Lib.byteCells f).toArray 39, cl b14 (Lib.byteCells f).toArray 39], .cons _ (.cons _ (.cons _ (.cons _ (.swap _ _ _)))), .cons (.cons (.cons (.cons (.drop (.cons (.cons .nil))))))⟩, rfl⟩
 rintro ⟨b14, b15⟩ _
 refine lp qc (fun x : Nat × Bs × Bs => x.1 ≤ T.length ∧ x.2.1.length = 32 ∧ x.2.2.length = 32 ∧ zZ (T.reverse.drop x.1) (rs'.drop x.1) x.2 = zZ T.reverse rs' (f, f)) (fun x => ⟨[(7, ptr b7), (8, ptr b8), (11, .slice sa T.length sc), (14, ptr b14), (15, ptr b15), (57, .slice a2 rs'.length c2), (58, .int .i64 rs'.length), (59, .int .i64 x.1)], [rs (rdS a c ps), cl b7 (Lib.byteCells old).toArray 39, cl b8 (Lib.byteCells new).toArray 39, se r (boC T.reverse) TTn, cl b14 (Lib.byteCells x.2.1).toArray 39, cl b15 (Lib.byteCells x.2.2).toArray 39], []⟩) (fun x => T.length - x.1) (0, f, f) ⟨Nat.zero_le _, hf, hf, rfl⟩ ⟨⟨rfl, rfl, rfl, rfl, rfl, rfl, rfl, rfl, trivial⟩, .cons (.cons (.cons (.cons (.cons (.cons .nil))))), rfl⟩ ?_
 rintro ⟨i, x, y⟩ ⟨hi, hx, hy, hI⟩
 simp only at hi hx hy hI
 refine cd (fun hlt => ?_) (fun hge => ?_)
 · have hlt' : i < T.length := by (try simp only at hlt); omega
   obtain ⟨b, o, rfl⟩ := had (fun e => by subst e; simp at hl; omega)
   have hri : i < rs'.length := by omega
   obtain ⟨p, hp⟩ : ∃ p, rs'[i]? = some p := ⟨_, List.getElem?_eq_getElem hri⟩
   have hdr : rs'.drop i = p :: rs'.drop (i + 1) := by
    rw [List.drop_eq_getElem_cons hri]; congr 1; rw [List.getElem?_eq_getElem hri] at hp; exact Option.some.inj hp
   have hti : i < T.reverse.length := by simpa using hlt'
   obtain ⟨u, hu⟩ : ∃ u, T.reverse.getD i false = u := ⟨_, rfl⟩
   have hdt : T.reverse.drop i = u :: T.reverse.drop (i + 1) := by
    rw [List.drop_eq_getElem_cons hti]; congr 1; rw [← hu, List.getD_eq_getElem?_getD, List.getElem?_eq_getElem hti]; rfl
   rw [hdr, hdt] at hI
   refine ⟨by omega, by omega, ?_⟩
   have hpl : p.length = 32 := hln p (List.mem_of_getElem? hp)
   have hzp := qx p hpl
   have hzx := qx x hx
   have hzy := qx y hy
   refine .mk (Lib.byteCells p).toArray hzp (fun w1 hs => by rw [qi, qh, Int.toNat_natCast, Nat.mul_comm]; exact RdS.at (hrd w1 (hs.res (k := 0) rfl)) i p hp) ?_
   intro b17
   refine sN 6 (d := (Lib.byteCells p).toArray) rfl (hzp.trans (by kernel_rfl)) (qD _) ?_ (by rw [hzp]; kernel_rfl)
   rcases r with _ | ⟨br, cr', jk⟩
   · have := hR.2; omega
   injection hv with hv1 hv2 hv3
   subst hv1
   refine ⟨by omega, by omega, ?_⟩
   refine ld1 3 rfl (v := .bool u) (by rw [← hu]; exact bo_at T.reverse jk i hti _ rfl) ?_
   cases u with
   | true =>
    refine ct rfl ?_
    refine ldN 5 rfl hzy ?_
    refine ldN 6 rfl hzp ?_
    refine cv (qaK y p hy hpl) ?_
    have hzn := qx (qU y p) (qI _)
    refine sN 5 (d := (Lib.byteCells (qU y p)).toArray) rfl (hzn.trans hzy.symm) (qD _) ?_ (by rw [hzn]; kernel_rfl)
    refine .as ((i + 1 : Nat) : Int) (by simp) (by simp only [mn]; omega) (by simp only [mx]; omega) ?_
    exact ⟨(i + 1, x, qU y p), ⟨hlt', hx, qI _, hI⟩, by (try simp only); omega, ⟨⟨rfl, rfl, rfl, rfl, rfl, rfl, rfl, rfl, trivial⟩, .cons (.cons (.cons (.cons (.cons (.cons .nil))))), rfl⟩⟩
   | false =>
    refine cf rfl ?_
    refine drs [dead, dead, dead, dead, cl b14 (Lib.byteCells x).toArray 39, cl b15 (Lib.byteCells y).toArray 39, cl b17 (Lib.byteCells p).toArray 39] [6, 7] (.t 0 (.t 1 (.t 2 (.t 3 (.t 4 (.t 5 (.n 6 (.n 7 .nil)))))))) qc qe (by kernel_rfl) (.dead (.dead (.dead (.dead (.cons (.cons (.cons .nil))))))) ?_
    refine ldN 6 rfl hzp ?_
    refine ldN 4 rfl hzx ?_
    refine cz (qaK p x hpl hx) ?_
    refine ldN 6 rfl hzp ?_
    refine ldN 5 rfl hzy ?_
    refine cz (qaK p y hpl hy) ?_
    have hzn := qx (qU p x) (qI _)
    have hzm := qx (qU p y) (qI _)
    refine sN 4 (d := (Lib.byteCells (qU p x)).toArray) rfl (hzn.trans hzx.symm) (qD _) ?_ (by rw [hzn]; kernel_rfl)
    refine sN 5 (d := (Lib.byteCells (qU p y)).toArray) rfl (hzm.trans hzy.symm) (qD _) ?_ (by rw [hzm]; kernel_rfl)
    refine .as ((i + 1 : Nat) : Int) (by simp) (by simp only [mn]; omega) (by simp only [mx]; omega) ?_
    exact ⟨(i + 1, qU p x, qU p y), ⟨hlt', qI _, qI _, hI⟩, by (try simp only); omega, ⟨⟨rfl, rfl, rfl, rfl, rfl, rfl, rfl, rfl, trivial⟩, .cons (.cons (.cons (.cons (.cons (.cons .nil))))), rfl⟩⟩
 · have hge' : T.length ≤ i := by (try simp only at hge); omega
   rw [List.drop_of_length_le (by simpa using hge')] at hI
   change (x, y) = _ at hI
   rw [← hI] at hB
   simp only at hB
   have g1 : ∀ (b : Bool), decide (x = old) = b → (decide (x = old) == true) = b := fun b h => by rw [h]; cases b <;> rfl
   refine ldN 4 rfl (qx x hx) ?_
   refine ldN 1 rfl (qx old ho) ?_
   refine eqS rfl hx ho ?_
   by_cases hxo : x = old
   · have p1 := g1 _ (decide_eq_true hxo)
     have p2 : decide (x = old) = true := decide_eq_true hxo
     refine ct p1 ?_
     refine ldN 5 rfl (qx y hy) ?_
     refine ct p1 ?_
     refine ldN 2 rfl (qx new hn) ?_
     refine ct p1 ?_
     refine eqS rfl hy hn ?_
     refine ct p2 ?_
     refine rt ?_
     rw [hB, p2]; rfl
   · have p1 := g1 _ (decide_eq_false hxo)
     have p2 : decide (x = old) = false := decide_eq_false hxo
     iterate 3 refine cf p1 ?_
     refine cf p2 ?_
     refine rt ?_
     rw [hB, p2]; rfl
theorem extends_any (m n : Int) (old new : Bs) (ho : old.length = 32) (hn : new.length = 32) (ps : List Bs) (a : Option Addr) (c : Nat) (w : World) (h : RdS w (.slice a ps.length c) ps) :
 Calls Tryz.prog 85 ([.int .i64 m, .int .i64 n, qV old, qV new, .slice a ps.length c] : List Value).toArray w fun e w' => e = .returned (.bool (extB m n old new ps)) ∧ Below w.heap.size w w' := by
 obtain ⟨B, hB⟩ : ∃ B, B = extB m n old new ps := ⟨_, rfl⟩
 rw [← hB]
 unfold extB at hB
 refine (enterP (c := ((Tryz.f85.body).getD .skip)) qc Tryz.func85 rfl Tryz.ntmps85 rfl (St.rdS h) (R := fun v w' => v = .bool B ∧ Below w.heap.size w w') ?_).mono (fun e w' ⟨u, he, h1, h2⟩ => ⟨by rw [he, h1], h2⟩)
 by_cases hc : n < 1 ∨ 1048576 < n ∨ m < 1 ∨ n < m
 · rw [if_pos hc] at hB
   subst hB
   refine cutS qc (fun _ : Unit => False) (fun _ => ⟨[], [], []⟩) 5 ?_ (fun _ hx => hx.elim)
   intro b7 b8
   by_cases h1 : n < 1
   · have p : decide (n < 1) = true := decide_eq_true h1
     have q : (decide (n < 1) == false) = false := by rw [p]; rfl
     repeat (first | refine cf q ?_ | refine ct q ?_ | refine cf p ?_ | refine ct p ?_ | refine cf rfl ?_ | refine ct rfl ?_)
     exact rt rfl
   have p : decide (n < 1) = false := decide_eq_false h1
   have q : (decide (n < 1) == false) = true := by rw [p]; rfl
   by_cases h2 : n > 1048576
   · have p' : decide (n > 1048576) = true := decide_eq_true h2
     have q' : (decide (n > 1048576) == false) = false := by rw [p']; rfl
     repeat (first | refine cf q' ?_ | refine ct p' ?_ | refine ct q ?_ | refine cf p ?_ | refine cf rfl ?_ | refine ct rfl ?_)
     exact rt rfl
   have p' : decide (n > 1048576) = false := decide_eq_false h2
   have q' : (decide (n > 1048576) == false) = true := by rw [p']; rfl
   by_cases h3 : m < 1
   · have p3 : decide (m < 1) = true := decide_eq_true h3
     have q3 : (decide (m < 1) == false) = false := by rw [p3]; rfl
     repeat (first | refine cf q3 ?_ | refine ct p3 ?_ | refine ct q' ?_ | refine cf p' ?_ | refine ct q ?_ | refine cf p ?_ | refine cf rfl ?_ | refine ct rfl ?_)
     exact rt rfl
   have p3 : decide (m < 1) = false := decide_eq_false h3
   have q3 : (decide (m < 1) == false) = true := by rw [p3]; rfl
   have p4 : decide (m > n) = true := decide_eq_true (by omega)
   repeat (first | refine ct p4 ?_ | refine ct q3 ?_ | refine cf p3 ?_ | refine ct q' ?_ | refine cf p' ?_ | refine ct q ?_ | refine cf p ?_ | refine cf rfl ?_ | refine ct rfl ?_)
   exact rt rfl
 rw [if_neg hc] at hB
 have p : decide (n < 1) = false := decide_eq_false (by omega)
 have q : (decide (n < 1) == false) = true := by rw [p]; rfl
 have p' : decide (n > 1048576) = false := decide_eq_false (by omega)
 have q' : (decide (n > 1048576) == false) = true := by rw [p']; rfl
 have p3 : decide (m < 1) = false := decide_eq_false (by omega)
 have q3 : (decide (m < 1) == false) = true := by rw [p3]; rfl
 have p4 : decide (m > n) = false := decide_eq_false (by omega)
 obtain ⟨m, rfl⟩ : ∃ k : Nat, m = k := ⟨m.toNat, by omega⟩
 obtain ⟨n, rfl⟩ : ∃ k : Nat, n = k := ⟨n.toNat, by omega⟩
 simp only [Int.toNat_natCast] at hB
 have hTl : (zg m n).1.length ≤ 1048576 := Nat.le_trans (stp_len n m n) (by omega)
 have hst := fun w => steps_any m n (by omega) (by omega) (by omega) w
 obtain ⟨T, hT⟩ : ∃ T, T = (zg m n).1 := ⟨_, rfl⟩
 obtain ⟨A, hA⟩ : ∃ A, A = (zg m n).2 := ⟨_, rfl⟩
 rw [← hT] at hB hTl hst
 rw [← hA] at hB hst
 clear hT hA
 have had : ps ≠ [] → ∃ b o, a = some ⟨b, o, none⟩ := fun hne => by
  obtain ⟨_, a', c', e2, _, l3⟩ := h
  injection e2 with e2 _ _
  obtain ⟨b, o, e5, _, _⟩ := l3 hne
  exact ⟨b, o, e2.trans e5⟩
 refine cutS qc (ExOk a c ps T old new B) (exF a c ps T old new) 5 ?_ (fun x hx => ext_rest ho hn hTl w x hx)
 intro b7 b8
 repeat (first | refine cf p4 ?_ | refine ct q3 ?_ | refine cf p3 ?_ | refine ct q' ?_ | refine cf p' ?_ | refine ct q ?_ | refine cf p ?_ | refine cf rfl ?_ | refine ct rfl ?_)
 refine coW (n := T.length) (z := 1) (xs := boC T.reverse) (e := TTn) (fun v => .tuple #[v, .bool A]) (fun w1 hs => hst w1) (fun r hR => ?_)
 refine ldN 1 rfl (qx old ho) ?_
 intro b13
 refine sN 4 (d := (Lib.byteCells old).toArray) rfl ((qx old ho).trans (by kernel_rfl)) (qD _) ?_ (by rw [qx old ho]; kernel_rfl)
 cases A with
 | true =>
  refine cf rfl ?_
  refine ⟨⟨b7, b8, b13, r, a, c, ps, old⟩, ⟨hR, ho, h.1, fun hne => had hne, fun _ h => h, by rw [hB]; rfl⟩, ⟨⟨rfl, rfl, rfl, rfl, rfl, trivial⟩, .cons (.cons (.cons (.cons (.cons .nil)))), rfl⟩⟩
 | false =>
  refine ct rfl ?_
  cases ps with
  | nil =>
   refine ct rfl ?_
   subst hB
   exact rt rfl
  | cons p0 pr =>
   have e0 : (((p0 :: pr).length : Nat) : Int) ≠ 0 := by simp only [List.length_cons]; omega
   have e1 : ((((p0 :: pr).length : Nat) : Int) == 0) = false := by simpa using e0
   refine cf e1 ?_
   obtain ⟨l1, a', c', e2, l2, l3⟩ := h
   injection e2 with e2 e3 e4
   subst e2 e4
   obtain ⟨b, o, e5, l4, l5⟩ := l3 (by simp)
   subst e5
   have hc1 : pr ≠ [] → 1 < c := fun hne => by
    cases pr with
    | nil => exact absurd rfl hne
    | cons x y => simp only [List.length_cons] at l2; omega
   refine drm [3, 4] [rs (rdS (some ⟨b, o, none⟩) c (p0 :: pr)), cl b7 (Lib.byteCells old).toArray 39, cl b8 (Lib.byteCells new).toArray 39, se r (boC T.reverse) TTn, cl b13 (Lib.byteCells old).toArray 39] [5, 6] (.t 0 (.t 1 (.t 2 (.n 5 (.n 6 .nil))))) qc qe (by kernel_rfl) (.cons (.cons (.cons (.cons (.cons .nil))))) ?_
   refine slTail (by simp) l2 (fun a2 ha2 => ?_)
   refine ⟨by decide, by simp only [List.length_cons]; omega, ?_⟩
   refine .mk (Lib.byteCells p0).toArray (qx _ (l1 _ (by simp))) (fun w1 hs => ?_) ?_
   · have h1 := RdS.at (hs.res (k := 0) rfl) 0 p0 rfl
     rw [qi, qh]; simpa using h1
   refine sN 4 (d := (Lib.byteCells p0).toArray) rfl ((qx _ (l1 _ (by simp))).trans (qx old ho).symm) (qD _) ?_ (by rw [qx _ (l1 _ (by simp))]; kernel_rfl)
   refine ⟨⟨b7, b8, b13, r, a2, c - 1, pr, p0⟩, ⟨hR, l1 _ (by simp), fun q hq => l1 q (by simp [show q ∈ pr from hq]), fun hne => ⟨_, _, ha2 (hc1 hne)⟩, fun w1 h1 => h1.tail a2 _ (fun hne => ha2 (hc1 hne)) ?_, by rw [hB]; rfl⟩, ⟨⟨rfl, rfl, rfl, rfl, rfl, trivial⟩, .cons (.cons (.cons (.cons (.cons .nil)))), rfl⟩⟩
   · show pr.length ≤ c - 1
     simp only [List.length_cons] at l2; omega
end
section
open Go.RowKit Go.Sx
theorem rshort_any (v : Value) (bs : Bs) (w : World) (hrd : Rd w v (Lib.byteCells bs)) (hn : bs.length ≤ 1000000) :
 Calls Tryz.prog 39 ([v] : List Value).toArray w fun e w' => e = .returned (qV (qen bs)) ∧ Below w.heap.size w w' := S.rshort_any v bs w hrd hn
def ZK (l r : Bs) : Bs := 1 :: (l ++ r)
def rtF : Nat → List Bs → Bs
 | 0, _ => qen []
 | f + 1, l => if l.length < 2 then l.headD (qen []) else qU (rtF f (l.take (qq l.length))) (rtF f (l.drop (qq l.length)))
theorem rtF_stab (f : Nat) : ∀ (l : List Bs) (g : Nat), l.length ≤ 1048576 → l.length ≤ f → l.length ≤ g → rtF f l = rtF g l := by
 induction f with
 | zero =>
  intro l g hn h1 h2
  obtain rfl : l = [] := List.length_eq_zero_iff.1 (by omega)
  cases g <;> rfl
 | succ f ih =>
  intro l g hn h1 h2
  cases g with
  | zero => obtain rfl : l = [] := List.length_eq_zero_iff.1 (by omega); rfl
  | succ g =>
   rw [rtF, rtF]
   by_cases h : l.length < 2
   · rw [if_pos h, if_pos h]
   · obtain ⟨c1, c2, c3⟩ := QQ l.length (by omega) hn
     rw [if_neg h, if_neg h, ih (l.take _) g (by rw [List.length_take]; omega) (by rw [List.length_take]; omega) (by rw [List.length_take]; omega), ih (l.drop _) g (by rw [List.length_drop]; omega) (by rw [List.length_drop]; omega) (by rw [List.length_drop]; omega)]
def qz (l : List Bs) : Bs := rtF l.length l
theorem qbB (l : List Bs) (h : 2 ≤ l.length) (hn : l.length ≤ 1048576) : qz l = qU (qz (l.take (qq l.length))) (qz (l.drop (qq l.length))) := by
 obtain ⟨c1, c2, c3⟩ := QQ l.length h hn
 obtain ⟨q, hq⟩ : ∃ q, l.length = q + 1 := ⟨l.length - 1, by omega⟩
 unfold qz
 rw [rtF_stab (l.take _).length (l.take _) q (by rw [List.length_take]; omega) (Nat.le_refl _) (by rw [List.length_take]; omega), rtF_stab (l.drop _).length (l.drop _) q (by rw [List.length_drop]; omega) (Nat.le_refl _) (by rw [List.length_drop]; omega)]
 rw [hq, rtF, if_neg (by omega), hq]
theorem rtF_len (f : Nat) : ∀ l : List Bs, (∀ p ∈ l, p.length = 32) → (rtF f l).length = 32 := by
 induction f with
 | zero => intro l _; exact qI _
 | succ f ih =>
  intro l h
  rw [rtF]
  split
  · cases l with
    | nil => exact qI _
    | cons x xs => exact h x (by simp)
  · exact qI _
theorem Qn (l : List Bs) (h : ∀ p ∈ l, p.length = 32) : (qz l).length = 32 := rtF_len _ l h
theorem RdS.take {w : World} {a : Option Addr} {n c : Nat} {ps : List Bs} (h : RdS w (.slice a n c) ps) (k : Nat) (hk : k ≤ ps.length) : RdS w (.slice a k c) (ps.take k) := by
 obtain ⟨h1, a2, c2, h2, h3, h4⟩ := h
 injection h2 with e1 e2 e3
 have hl : (ps.take k).length = k := by rw [List.length_take]; omega
 refine ⟨fun p hp => h1 p (List.mem_of_mem_take hp), a, c, by rw [hl], by omega, fun hne => ?_⟩
 obtain ⟨b, o, e, hb, hr⟩ := h4 (fun e => hne (by rw [e, List.take_nil]))
 refine ⟨b, o, by rw [e1, e], hb, fun i p hp => hr i p ?_⟩
 have hi : i < k := by
  rcases Nat.lt_or_ge i k with h | h
  · exact h
  · rw [List.getElem?_eq_none (by omega)] at hp; cases hp
 rwa [List.getElem?_take_of_lt hi] at hp
theorem RdS.drop {w : World} {b o n c : Nat} {ps : List Bs} (h : RdS w (.slice (some ⟨b, o, none⟩) n c) ps) (k : Nat) (hk : k ≤ ps.length) (a' : Option Addr) (ha : k < c → a' = some ⟨b, o + 32 * k, none⟩) : RdS w (.slice a' (n - k) (c - k)) (ps.drop k) := by
 obtain ⟨h1, a2, c2, h2, h3, h4⟩ := h
 injection h2 with e1 e2 e3
 have hl : (ps.drop k).length = n - k := by rw [List.length_drop]; omega
 refine ⟨fun p hp => h1 p (List.mem_of_mem_drop hp), a', c - k, by rw [hl], by omega, fun hne => ?_⟩
 obtain ⟨b2, o2, e, hb, hr⟩ := h4 (fun e => hne (by rw [e, List.drop_nil]))
 rw [e] at e1
 injection e1 with e1
 injection e1 with e1 e4
 subst e1 e4
 have hlt : k < c := by
  have : (ps.drop k).length ≠ 0 := fun e => hne (List.length_eq_zero_iff.1 e)
  omega
 refine ⟨b, o + 32 * k, ha hlt, hb, fun i p hp => ?_⟩
 have := hr (k + i) p (by rw [List.getElem?_drop] at hp; exact hp)
 rwa [show o + 32 * (k + i) = o + 32 * k + 32 * i by omega] at this
theorem qdp {e z b o n c k : Nat} (hk : k ≤ n) (hnc : n ≤ c) {next : Value → Prop} {fb : Prop} (go : ∀ a', (k < c → a' = some ⟨b, o + z * k, none⟩) → next (.slice a' (n - k) (c - k))) :
 SliP (.sl e z) (.slice (some ⟨b, o, none⟩) n c) (some (k : Int)) none none next fb := by
 refine ⟨?_⟩
 refine .mk k n c rfl rfl rfl hk hnc (Nat.le_refl _) (by simp) ?_
 by_cases h1 : k = c
 · exact .all h1.symm (go _ (fun h => by omega))
 · refine .on (by omega) ?_
   rw [qi, qh, Nat.mul_comm]
   exact go _ (fun _ => rfl)
theorem cut_uniq (n j : Nat) (hn : n ≤ 1048576) (h1 : 2 ^ j ≤ n - 1) (h2 : n - 1 < 2 ^ (j + 1)) (h0 : 2 ≤ n) : qq n = 2 ^ j := by
 obtain ⟨b1, b2, b3, b4⟩ := bl_bd 64 (n - 1) (by omega) (Nat.lt_of_le_of_lt (show n - 1 ≤ 1048576 by omega) (by decide))
 unfold qq bl2
 rw [if_neg (by omega)]
 congr 1
 generalize blF 64 (n - 1) = q at *
 rcases Nat.lt_trichotomy (q - 1) j with h | h | h
 · exact absurd (Nat.lt_of_lt_of_le b3 (Nat.le_trans (Nat.pow_le_pow_right (by decide) (show q ≤ j by omega)) h1)) (Nat.lt_irrefl _)
 · exact h
 · exact absurd (Nat.lt_of_lt_of_le h2 (Nat.le_trans (Nat.pow_le_pow_right (by decide) (show j + 1 ≤ q - 1 by omega)) b2)) (Nat.lt_irrefl _)
theorem qdD (n : Nat) (hn : n ≤ 1048576) (w : World) : Calls Tryz.prog 56 ([.int .i64 n] : List Value).toArray w fun e w' => e = .returned (.int .i64 (qq n)) ∧ Below w.heap.size w w' := by
 refine qj qc Tryz.func56 rfl Tryz.ntmps56 rfl (St.start w) ?_
 refine cd (fun h => ?_) (fun h => ?_)
 · have h2 : n < 2 := by omega
   have e : qq n = 0 := by unfold qq; rw [if_pos h2]
   rw [e]
   exact rt rfl
 have h2 : 2 ≤ n := by omega
 refine lp qc (fun j : Nat => 2 ^ j ≤ n - 1) (fun j => ⟨[(0, .int .i64 n), (3, .int .i64 ((2 ^ j : Nat) : Int))], [], []⟩) (fun j => n - 2 ^ j) 0 (by omega) ⟨⟨rfl, rfl, trivial⟩, .nil, rfl⟩ ?_
 intro j hj
 have e2 : 2 ^ (j + 1) = 2 * 2 ^ j := by rw [Nat.pow_succ, Nat.mul_comm]
 have hp : 0 < 2 ^ j := Nat.pow_pos (by decide)
 refine .as ((n - 1 : Nat) : Int) (by omega) (by simp only [mn]; omega) (by simp only [mx]; omega) ?_
 refine ⟨by omega, by simp only [mx]; omega, by decide, ?_⟩
 refine cd (fun h => ?_) (fun h => ?_)
 · refine .as ((2 ^ (j + 1) : Nat) : Int) (by rw [e2]; omega) (by simp only [mn]; omega) (by simp only [mx]; omega) ?_
   exact ⟨j + 1, by omega, by omega, ⟨⟨rfl, rfl, trivial⟩, .nil, rfl⟩⟩
 · have e : qq n = 2 ^ j := cut_uniq n j hn hj (by omega) h2
   rw [e]
   exact rt rfl
theorem sumSrc {M : Bks} {B w : World} {L : List Ent} (hs : St M B w L) (k : Nat) {b t : Nat} {fz : Nat × Nat} {ro : Bool} {l : Bs} (hl : l.length = 32) (hk : L[k]? = some ⟨b, some (.cells (Lib.byteCells l).toArray t fz), ro, none⟩) :
 Src Tryz.prog 1 48 (.slice (some ⟨b, 0, none⟩) 32 32) 32 (Lib.byteCells l) w := by
 have e : (Lib.byteCells l).length = 32 := by rw [Lib.byteCells_length, hl]
 have h : Rd w (.slice (some ⟨b, 0, none⟩) 32 32) (Lib.byteCells l) := Rd.ent hs k (n := 32) hk e.symm (by rw [List.drop_zero, List.take_of_length_le (by show (Lib.byteCells l).length ≤ 32; omega)])
 have := h.src Zq (fun u hu => by obtain ⟨_, _, rfl⟩ := List.mem_map.1 hu; rfl)
 rwa [e] at this
theorem rtext_any (l r : Bs) (hl : l.length = 32) (hr : r.length = 32) (w : World) : Calls Tryz.prog 66 ([qV l, qV r] : List Value).toArray w fun e w' => ∃ q, e = .returned (sv q 65) ∧ Rw 1 65 q (Lib.byteCells (ZK l r)) ∧ zq w w' q (Lib.byteCells (ZK l r)) 5 ∧ Below w.heap.size w w' := by
 refine (enter qc Tryz.func66 rfl Tryz.ntmps66 rfl (St.start w) (R := fun v w' => ∃ q, v = sv q 65 ∧ Rw 1 65 q (Lib.byteCells (ZK l r)) ∧ zq w w' q (Lib.byteCells (ZK l r)) 5 ∧ Below w.heap.size w w') ?_).mono (fun e w' ⟨v, he, r, hv, h⟩ => ⟨r, by rw [he, hv], h⟩)
 intro b2 b3
 refine dr _ 99 (.t 1 (.t 3 (.n 0 (.n 2 (.n 4 (.n 5 .nil)))))) qc qe (by kernel_rfl) (.refl _) ?_
 refine ⟨.mk 0 32 32 rfl rfl rfl (by decide) (by decide) (by decide) (by simp) (.on (by decide) ?_)⟩
 refine ⟨.mk 0 32 32 rfl rfl rfl (by decide) (by decide) (by decide) (by simp) (.on (by decide) ?_)⟩
 refine .mk #[.int .u8 1] 5 (fun w => bs5 _ w) (fun bn => ?_)
 refine ⟨.cons (.cons .nil), ?_⟩
 refine ap (r := some (bn, 1, [])) (n := 1) (xs := [.int .u8 1]) (m := 32) (news := Lib.byteCells l) 2 qc rfl Qj rfl rfl ⟨rfl, by decide, by decide, rfl⟩ (fun w' hs => sumSrc hs 0 hl rfl) (by omega) (by unfold maxLen; omega) (fun r1 hr1 => ?_)
 refine ⟨.cons (.cons .nil), ?_⟩
 refine ap (r := r1) (n := 33) (xs := .int .u8 1 :: Lib.byteCells l) (m := 32) (news := Lib.byteCells r) 2 qc rfl Qj rfl rfl hr1 (fun w' hs => sumSrc hs 1 hr rfl) (by omega) (by unfold maxLen; omega) (fun r2 hr2 => ?_)
 refine ⟨.cons (.cons .nil), ?_⟩
 have e : (.int .u8 1 :: Lib.byteCells l) ++ Lib.byteCells r = Lib.byteCells (ZK l r) := by unfold ZK; simp [Lib.byteCells]
 rw [e] at hr2 ⊢
 refine ⟨.cons (.cons .nil), ?_⟩
 exact ⟨fun w1 hs1 => ⟨r2, rfl, hr2, Qx hs1 rfl 2 rfl, hs1.below⟩⟩
theorem rnode_any (l r : Bs) (hl : l.length = 32) (hr : r.length = 32) (w : World) : Calls Tryz.prog 65 ([qV l, qV r] : List Value).toArray w fun e w' => e = .returned (qV (qU l r)) ∧ Below w.heap.size w w' := by
 refine qj qc Tryz.func65 rfl Tryz.ntmps65 rfl (St.start w) ?_
 intro b2 b3 b4
 refine ldN 0 rfl (Zu l hl) ?_
 refine ldN 1 rfl (Zu r hr) ?_
 refine co (fun w' _ => rtext_any l r hl hr w') (fun q hq => ?_)
 refine cvs (v := qV (qU l r)) (fun w' hs => rshort_any _ (ZK l r) w' (Rd.own hs 3 rfl hq) (by simp [ZK, hl, hr])) ?_
 have hz := qx (qU l r) (qI _)
 refine sN 2 rfl (hz.trans (by kernel_rfl)) (qD _) ?_ (by rw [hz]; kernel_rfl)
 refine ldN 2 rfl hz ?_
 exact rt rfl
theorem rd_nilB (w : World) : Rd w (.slice none 0 0) (Lib.byteCells []) := ⟨none, 0, rfl, fun h => absurd rfl h⟩
theorem rroot_f (f : Nat) : ∀ (ps : List Bs) (v : Value) (w : World), ps.length < f → ps.length ≤ 1048576 → RdS w v ps →
 Calls Tryz.prog 35 ([v] : List Value).toArray w fun e w' => e = .returned (qV (qz ps)) ∧ Below w.heap.size w w' := by
 induction f with
 | zero => intro ps v w h0; exact absurd h0 (Nat.not_lt_zero _)
 | succ f ih =>
  intro ps v w h0 hn hrd
  have hrd0 := hrd
  obtain ⟨h32, a, c, hv, hc, had⟩ := hrd0
  subst hv
  refine qj qc Tryz.func35 rfl Tryz.ntmps35 rfl (St.rdS hrd) ?_
  intro b2
  refine cq (fun h => ?_) (fun h => ?_)
  · obtain rfl : ps = [] := List.length_eq_zero_iff.1 (by omega)
    refine cv (v := qV (qen [])) (fun w' => rshort_any _ [] w' (rd_nilB w') (by decide)) ?_
    have hz := qx (qen []) (qI _)
    refine sN 1 rfl (hz.trans (by kernel_rfl)) (qD _) ?_ (by rw [hz]; kernel_rfl)
    refine ldN 1 rfl hz ?_
    exact rt rfl
  obtain ⟨b, o, rfl, hb, hat⟩ := had (fun e => by subst e; simp at h)
  refine cq (fun h1 => ?_) (fun h1 => ?_)
  · obtain ⟨p, rfl⟩ : ∃ p, ps = [p] := List.length_eq_one_iff.1 (by omega)
    have hz := qx p (h32 p (by simp))
    refine ⟨by decide, by simp, ?_⟩
    refine .mk (Lib.byteCells p).toArray hz (fun w1 hs => by rw [qi, qh]; exact RdS.at (hs.res (k := 0) rfl) 0 p rfl) ?_
    refine sN 1 rfl (hz.trans (by kernel_rfl)) (qD _) ?_ (by rw [hz]; kernel_rfl)
    refine ldN 1 rfl hz ?_
    exact rt rfl
  have h2 : 2 ≤ ps.length := by omega
  obtain ⟨c1, c2, c3⟩ := QQ ps.length h2 hn
  refine cv (fun w' => qdD ps.length hn w') ?_
  have he := qbB ps h2 hn
  generalize hk : qq ps.length = k at *
  refine drs _ [9] (.t 0 (.t 1 (.t 2 (.t 3 (.t 4 (.t 5 (.t 6 (.t 7 (.t 8 (.n 9 .nil)))))))))) qc qe (by kernel_rfl) (.refl _) ?_
  refine ZH (fun a ha => by injection ha with ha; subst ha; rfl) (by omega) hc ?_
  refine czs (v := qV (qz (ps.take k))) (fun w' hs => ih (ps.take k) _ w' (by rw [List.length_take]; omega) (by rw [List.length_take]; omega) (RdS.take (hs.res (k := 0) rfl) k (by omega))) ?_
  refine qdp (by omega) hc (fun a' ha => ?_)
  refine czs (v := qV (qz (ps.drop k))) (fun w' hs => ih (ps.drop k) _ w' (by rw [List.length_drop]; omega) (by rw [List.length_drop]; omega) (RdS.drop (hs.res (k := 0) rfl) k (by omega) a' ha)) ?_
  refine cz (fun w' => rnode_any (qz (ps.take k)) (qz (ps.drop k)) (Qn _ (fun p hp => h32 p (List.mem_of_mem_take hp))) (Qn _ (fun p hp => h32 p (List.mem_of_mem_drop hp))) w') ?_
  have hz := qx (qU (qz (ps.take k)) (qz (ps.drop k))) (qI _)
  refine sN 1 rfl (hz.trans (by kernel_rfl)) (qD _) ?_ (by rw [hz]; kernel_rfl)
  refine ldN 1 rfl hz ?_
  rw [he]
  exact rt rfl
theorem Zl (ps : List Bs) (v : Value) (w : World) (hn : ps.length ≤ 1048576) (h : RdS w v ps) :
 Calls Tryz.prog 35 ([v] : List Value).toArray w fun e w' => e = .returned (qV (qz ps)) ∧ Below w.heap.size w w' := rroot_f _ ps v w (Nat.lt_succ_self _) hn h
end
section
open Go.RowKit Go.Sx
def QN (x : Bs) : List Bool → List Bs → Bs × Bs × List Bs
 | [], _ => (x, x, [])
 | true :: T, ps => let r := QN x T ps.dropLast; (r.1, qU r.2.1 (ps.getLastD []), r.2.2 ++ [ZK r.2.1 (ps.getLastD [])])
 | false :: T, ps => let r := QN x T ps.dropLast; (qU (ps.getLastD []) r.1, qU (ps.getLastD []) r.2.1, r.2.2 ++ [ZK (ps.getLastD []) r.1, ZK (ps.getLastD []) r.2.1])
end
section
open Go.RowKit Go.Sx
theorem qeY (t : Bool) (q : Bs) : ∀ (T : List Bool) (rs : List Bs) (x : Bs × Bs), rs.length = T.length → zZ (T ++ [t]) (rs ++ [q]) x = (if t then ((zZ T rs x).1, qU (zZ T rs x).2 q) else (qU q (zZ T rs x).1, qU q (zZ T rs x).2))
 | [], [], x, _ => by cases t <;> rfl
 | s :: T, r :: rs, x, h => by
  show zZ (T ++ [t]) (rs ++ [q]) _ = _
  rw [qeY t q T rs _ (by simpa using h)]; rfl
 | [], _ :: _, _, h => by simp at h
 | _ :: _, [], _, h => by simp at h
theorem qcC (x : Bs) : ∀ (T : List Bool) (pre rs : List Bs), rs.length = T.length → zZ T.reverse rs (x, x) = ((QN x T (pre ++ rs)).1, (QN x T (pre ++ rs)).2.1)
 | [], pre, rs, h => by
  obtain rfl : rs = [] := List.length_eq_zero_iff.1 h
  rfl
 | t :: T, pre, rs, h => by
  have hne : rs ≠ [] := fun e => by subst e; simp at h
  obtain ⟨rs', q, rfl⟩ : ∃ a b, rs = a ++ [b] := ⟨rs.dropLast, rs.getLast hne, (List.dropLast_concat_getLast hne).symm⟩
  have hl : rs'.length = T.length := by simpa using h
  have e1 : (pre ++ (rs' ++ [q])).dropLast = pre ++ rs' := by rw [← List.append_assoc, List.dropLast_concat]
  have e2 : (pre ++ (rs' ++ [q])).getLastD [] = q := by rw [← List.append_assoc, List.getLastD_concat]
  rw [List.reverse_cons, qeY t q T.reverse rs' (x, x) (by simpa using hl), qcC x T pre rs' hl]
  cases t <;> rw [QN, e1, e2] <;> rfl
theorem cut_same (m n : Nat) (hn : n ≤ 1048576) (h1 : qq n < m) (h2 : m ≤ n) (h3 : 2 ≤ n) : qq m = qq n := by
 obtain ⟨c1, c2, c3⟩ := QQ n h3 hn
 obtain ⟨j, hj⟩ : ∃ j, qq n = 2 ^ j := ⟨bl2 (n - 1) - 1, by unfold qq; rw [if_neg (by omega)]⟩
 rw [hj] at h1 c1 c2 c3 ⊢
 exact cut_uniq m j (by omega) (by omega) (by rw [Nat.pow_succ]; omega) (by omega)
end
section
open Go.RowKit Go.Sx
def qab (m : Int) (o : Bs) (n : Int) (r : Bs) (ps : List Bs) : Bool :=
 if m = 0 then decide (ps.length = 0) && (decide (0 < n) || decide (o = r)) else if m = n then decide (ps.length = 0) && decide (o = r) else extB m n o r ps
theorem qeX (m : Int) (o : Bs) (n : Int) (r : Bs) (ho : o.length = 32) (hr : r.length = 32) (ps : List Bs) (a : Option Addr) (c : Nat) (w : World) (h : RdS w (.slice a ps.length c) ps) :
 Calls Tryz.prog 48 ([.int .i64 m, qV o, .int .i64 n, qV r, .slice a ps.length c] : List Value).toArray w fun e w' => e = .returned (.bool (qab m o n r ps)) ∧ Below w.heap.size w w' := by
 unfold qab
 by_cases h0 : m = 0
 · subst h0
   rw [if_pos rfl]
   exact grows_zero n o r ho hr a ps.length c w
 rw [if_neg h0]
 by_cases h1 : m = n
 · subst h1
   rw [if_pos rfl]
   exact grows_eq m h0 o r ho hr a ps.length c w
 rw [if_neg h1]
 refine qj qc Tryz.func48 rfl Tryz.ntmps48 rfl (St.rdS h) ?_
 intro b6 b8
 refine cf (by simpa using h0) ?_
 refine cf (by simpa using h1) ?_
 refine ldN 1 rfl (qx o ho) ?_
 refine ldN 2 rfl (qx r hr) ?_
 refine cvs (fun w1 hs => extends_any m n o r ho hr ps a c w1 (hs.res (k := 0) rfl)) ?_
 exact rt rfl
end
section
open Go.RowKit Go.Sx
def pth : Nat → Nat → Nat → List Bool
 | 0, _, _ => []
 | f + 1, i, n => if 1 < n then (if i < qq n then true :: pth f i (qq n) else false :: pth f (i - qq n) (n - qq n)) else []
theorem pth_stab (f : Nat) : ∀ i n g, n ≤ 1048576 → n ≤ f → n ≤ g → pth f i n = pth g i n := by
 induction f with
 | zero =>
  intro i n g _ h1 _
  cases g with
  | zero => rfl
  | succ g => rw [pth, pth, if_neg (by omega)]
 | succ f ih =>
  intro i n g hn h1 h2
  cases g with
  | zero => rw [pth, pth, if_neg (by omega)]
  | succ g =>
   rw [pth, pth]
   by_cases h : 1 < n
   · obtain ⟨c1, c2, c3⟩ := QQ n h hn
     rw [if_pos h, if_pos h, ih i (qq n) g (by omega) (by omega) (by omega), ih (i - qq n) (n - qq n) g (by omega) (by omega) (by omega)]
   · rw [if_neg h, if_neg h]
def Zd (i n : Nat) : List Bool := pth n i n
theorem qc7 (i n : Nat) (h : n ≤ 1) : Zd i n = [] := by
 unfold Zd
 cases n with
 | zero => rfl
 | succ n => rw [pth, if_neg (by omega)]
theorem qdI (i n : Nat) (hn : n ≤ 1048576) (h : 1 < n) (hc : i < qq n) : Zd i n = true :: Zd i (qq n) := by
 obtain ⟨c1, c2, c3⟩ := QQ n h hn
 obtain ⟨q, rfl⟩ : ∃ q, n = q + 1 := ⟨n - 1, by omega⟩
 show pth (q + 1) i (q + 1) = _
 rw [pth, if_pos h, if_pos hc, pth_stab q i (qq (q + 1)) (qq (q + 1)) (by omega) (by omega) (Nat.le_refl _)]
 rfl
theorem qcl (i n : Nat) (hn : n ≤ 1048576) (h : 1 < n) (hc : ¬ i < qq n) : Zd i n = false :: Zd (i - qq n) (n - qq n) := by
 obtain ⟨c1, c2, c3⟩ := QQ n h hn
 obtain ⟨q, rfl⟩ : ∃ q, n = q + 1 := ⟨n - 1, by omega⟩
 show pth (q + 1) i (q + 1) = _
 rw [pth, if_pos h, if_neg hc, pth_stab q (i - qq (q + 1)) (q + 1 - qq (q + 1)) (q + 1 - qq (q + 1)) (by omega) (by omega) (Nat.le_refl _)]
 rfl
theorem pth_len (f : Nat) : ∀ i n, (pth f i n).length ≤ f := by
 induction f with
 | zero => intro i n; exact Nat.le_refl _
 | succ f ih =>
  intro i n
  unfold pth
  split
  · split
    · simp only [List.length_cons]; have := ih i (qq n); omega
    · simp only [List.length_cons]; have := ih (i - qq n) (n - qq n); omega
  · simp
def wayH (b1 b2 i n : Nat) : Res where
 w _ := False
 r k := k = b1 ∨ k = b2
 p u := u.heap[b1]? = some (.cells #[.int .i64 i] 3 (0, 0)) ∧ u.heap[b2]? = some (.cells #[.int .i64 n] 3 (0, 0))
 st u v h := fun ⟨h1, h2⟩ => ⟨(h _ (.inr (.inl rfl))).trans h1, (h _ (.inr (.inr rfl))).trans h2⟩
 bd u := fun ⟨h1, h2⟩ k hk => by
  rcases hk with hk | rfl | rfl
  · exact hk.elim
  · exact (Array.getElem?_eq_some_iff.1 h1).1
  · exact (Array.getElem?_eq_some_iff.1 h2).1
def wayNx (T : List Bool) (k : Nat) (args : List Value) (k' : Nat) : Prop := ∃ t, T[k]? = some t ∧ args = [.bool t] ∧ k' = k + 1
theorem way_box {M : Bks} {B w : World} {L : List Ent} {k b1 b2 i n : Nat} (hs : St M B w L) (h : L[k]? = some (rs (wayH b1 b2 i n))) : w.cell? ⟨b1, 0, none⟩ = some (.int .i64 i) ∧ w.cell? ⟨b2, 0, none⟩ = some (.int .i64 n) := by
 obtain ⟨h1, h2⟩ := (hs.res h : _ ∧ _)
 exact ⟨by simp [World.cell?, h1], by simp [World.cell?, h2]⟩
theorem dropB_at {T : List Bool} {k : Nat} {t : Bool} {r : List Bool} (h : T.drop k = t :: r) : T[k]? = some t ∧ T.drop (k + 1) = r := by
 have e : (T.drop k)[0]? = some t := by rw [h]; rfl
 rw [List.getElem?_drop, Nat.add_zero] at e
 exact ⟨e, by rw [← List.drop_drop, h]; rfl⟩
theorem way_itr (b1 b2 i n : Nat) (hn : n ≤ 1048576) (hi : i < 1048576) : Itr Tryz.prog 190 [ptr b1, ptr b2] 0 (wayNx (Zd i n)) (fun k => k = (Zd i n).length) (wayH b1 b2 i n) := by
 refine itrE qc Tryz.func190 rfl Tryz.ntmps190 rfl (fun _ h => h) (fun l α β R S W x0 hround => ?_)
 generalize hT : Zd i n = T at *
 refine dr [dead, rs (wayH b1 b2 i n)] 99 (.t 0 (.t 1 (.n 2 (.n 3 .nil)))) qc qe (by kernel_rfl) (.dead (.cons .nil)) ?_
 refine .mk (.int .i64 i) (fun w' hs => (way_box (k := 1) hs rfl).1) ?_
 refine .mk (.int .i64 n) (fun w' hs => (way_box (k := 1) hs rfl).2) ?_
 refine ⟨.dead (.cons .nil), ?_⟩
 refine ⟨.dead (.cons .nil), ?_⟩
 refine lp qc (fun q : (Nat × Nat × Nat) × α => q.1.1 ≤ T.length ∧ q.1.2.2 ≤ 1048576 ∧ q.1.2.1 < 1048576 ∧ T.drop q.1.1 = Zd q.1.2.1 q.1.2.2 ∧ ∀ k, (R q.1.1 q.2).A k → (R 0 x0).A k ∨ W.heap.size ≤ k) (fun q => ⟨[(0, .func (.yield l) #[] #[]), (4, .int .i64 q.1.2.1), (5, .int .i64 q.1.2.2)], [rs (R q.1.1 q.2), rs (wayH b1 b2 i n)], []⟩) (fun q => q.1.2.2) ((0, i, n), x0) ⟨Nat.zero_le _, hn, hi, by rw [List.drop_zero, hT], fun k h => .inl h⟩ ⟨⟨rfl, rfl, rfl, trivial⟩, .refl _, rfl⟩ ?_
 rintro ⟨⟨k, i', n'⟩, y⟩ ⟨hk, hn', hi', hd, hA⟩
 dsimp only at hk hn' hi' hd hA ⊢
 refine cd (fun h => ?_) (fun h => ?_)
 · have h1 : 1 < n' := by omega
   obtain ⟨c1, c2, c3⟩ := QQ n' h1 hn'
   refine cv (qcS n' hn') ?_
   by_cases hc : i' < qq n'
   · rw [qdI i' n' hn' h1 hc] at hd
     obtain ⟨ht, hd2⟩ := dropB_at hd
     have hkl := (List.getElem?_eq_some_iff.1 ht).1
     generalize qq n' = k' at *
     have p1 : decide ((i' : Int) < (k' : Int)) = true := decide_eq_true (by omega)
     have p2 : decide ((i' : Int) ≥ (k' : Int)) = false := decide_eq_false (by omega)
     have q1 : (decide ((i' : Int) < (k' : Int)) == true) = true := by rw [p1]; rfl
     have q2 : (decide ((i' : Int) ≥ (k' : Int)) == true) = false := by rw [p2]; rfl
     repeat (first | refine ct q1 ?_ | refine cf q2 ?_ | refine ct p1 ?_ | refine cf p2 ?_ | refine cf rfl ?_ | refine ct rfl ?_)
     refine yd (α := α) (β := β) (R := R) (S := S) (nx := wayNx T) (i := k) (j := k + 1) (x := y) 0 rfl hround ⟨true, ht, rfl, rfl⟩ (fun z hA2 => ?_) (fun z hA2 => ?_)
     · repeat (first | refine ct q1 ?_ | refine cf q2 ?_ | refine ct p1 ?_ | refine cf p2 ?_ | refine cf rfl ?_ | refine ct rfl ?_)
       exact ⟨((k + 1, i', k'), z), ⟨hkl, by dsimp only; omega, hi', hd2, fun b hb => (hA2 b hb).elim (hA b) .inr⟩, by dsimp only; omega, ⟨⟨rfl, rfl, rfl, trivial⟩, .refl _, rfl⟩⟩
     · repeat (first | refine ct q1 ?_ | refine cf q2 ?_ | refine ct p1 ?_ | refine cf p2 ?_ | refine cf rfl ?_ | refine ct rfl ?_)
       exact ⟨fun w1 hs => .inr ⟨z, Turns.fin hs rfl fun b hb => (hA2 b hb).elim (hA b) .inr⟩⟩
   · rw [qcl i' n' hn' h1 hc] at hd
     obtain ⟨ht, hd2⟩ := dropB_at hd
     have hkl := (List.getElem?_eq_some_iff.1 ht).1
     generalize qq n' = k' at *
     have p1 : decide ((i' : Int) < (k' : Int)) = false := decide_eq_false (by omega)
     have p2 : decide ((i' : Int) ≥ (k' : Int)) = true := decide_eq_true (by omega)
     have q1 : (decide ((i' : Int) < (k' : Int)) == true) = false := by rw [p1]; rfl
     have q2 : (decide ((i' : Int) ≥ (k' : Int)) == true) = true := by rw [p2]; rfl
     repeat (first | refine cf q1 ?_ | refine ct q2 ?_ | refine cf p1 ?_ | refine ct p2 ?_ | refine cf rfl ?_ | refine ct rfl ?_)
     refine yd (α := α) (β := β) (R := R) (S := S) (nx := wayNx T) (i := k) (j := k + 1) (x := y) 0 rfl hround ⟨false, ht, rfl, rfl⟩ (fun z hA2 => ?_) (fun z hA2 => ?_)
     · repeat (first | refine cf q1 ?_ | refine ct q2 ?_ | refine cf p1 ?_ | refine ct p2 ?_ | refine cf rfl ?_ | refine ct rfl ?_)
       refine .as ((i' - k' : Nat) : Int) (by omega) (by simp only [mn]; omega) (by simp only [mx]; omega) ?_
       refine .as ((n' - k' : Nat) : Int) (by omega) (by simp only [mn]; omega) (by simp only [mx]; omega) ?_
       exact ⟨((k + 1, i' - k', n' - k'), z), ⟨hkl, by dsimp only; omega, by dsimp only; omega, hd2, fun b hb => (hA2 b hb).elim (hA b) .inr⟩, by dsimp only; omega, ⟨⟨rfl, rfl, rfl, trivial⟩, .refl _, rfl⟩⟩
     · repeat (first | refine cf q1 ?_ | refine ct q2 ?_ | refine cf p1 ?_ | refine ct p2 ?_ | refine cf rfl ?_ | refine ct rfl ?_)
       exact ⟨fun w1 hs => .inr ⟨z, Turns.fin hs rfl fun b hb => (hA2 b hb).elim (hA b) .inr⟩⟩
 · have hke : k = T.length := by
    rw [qc7 i' n' (by omega)] at hd
    have := congrArg List.length hd
    rw [List.length_drop] at this
    simp at this
    omega
   exact ⟨fun w1 hs => .inl ⟨k, y, hke, Turns.fin hs rfl hA⟩⟩
theorem collectT_any (b1 b2 i n : Nat) (hn : n ≤ 1048576) (hi : i < 1048576) (w : World) (hH : (wayH b1 b2 i n).p w) :
 Calls Tryz.prog 135 ([.func (.func 190) #[] #[ptr b1, ptr b2]] : List Value).toArray w fun e w' => ∃ r : Sx.Own, e = .returned (sv r (Zd i n).length) ∧ Rw 1 (Zd i n).length r (boC (Zd i n)) ∧ zq w w' r (boC (Zd i n)) TTn ∧ Below w.heap.size w w' := by
 have hst : St [] w w [rs (wayH b1 b2 i n)] := St.reads fun e he => by
  rw [List.mem_singleton.1 he]; exact ⟨(qc0 _ _).2 hH, fun k hk => (rsW _ _).1 hk⟩
 have hit := way_itr b1 b2 i n hn hi
 have hTl := pth_len n i n
 change (Zd i n).length ≤ n at hTl
 generalize Zd i n = T at *
 refine (enter (vs := [.func (.func 190) #[] #[ptr b1, ptr b2]]) (R := fun v w' => ∃ r : Sx.Own, Rw 1 T.length r (boC T) ∧ v = sv r T.length ∧ zq w w' r (boC T) TTn ∧ Below w.heap.size w w') qc Tryz.func135 rfl Tryz.ntmps135 rfl hst ?_).mono (fun e w' ⟨v, he, r, h1, h2, h3⟩ => ⟨r, by rw [he, h2], h1, h3⟩)
 refine inl qc Tryz.func189 rfl Tryz.ntmps189 rfl ?_
 intro bx
 refine CodeP.from (fun w' hs => hs.deads) ?_
 refine rfiO (C := ⟨Tryz.prog, tab, 13, [], w, none⟩) (L0 := [rs (wayH b1 b2 i n)]) (α := Sx.Own) (β := Empty) qc rfl rfl rfl hit.toO (fun k r => k ≤ T.length ∧ Rw 1 k r (boC (T.take k))) (fun k r => [cl bx #[sv r k] 191, se r (boC (T.take k)) TTn]) (fun y => y.elim) (fun y => y.elim) none ⟨Nat.zero_le _, Rw.nil 1⟩ (.refl _)
  (fun w' hs => ⟨hs.res (k := 0) rfl, fun x hx e he hw => ?_⟩) ?_ ?_ ?_ (fun y => y.elim)
 · obtain ⟨j, hj⟩ := List.getElem?_of_mem he
   exact (QG hs.apart (i := j + 1) (j := 0) (by simpa using hj) rfl (by omega) x).1 hw ((rsA _ _).2 hx)
 · rintro k args q j ⟨rfl, t, _, rfl, _⟩; rfl
 · rintro lq k args q j r w' ready busy ⟨rfl, t, ht, rfl, rfl⟩ ⟨hk, hR⟩
   have hkl := (List.getElem?_eq_some_iff.1 ht).1
   have htk : T.take (k + 1) = T.take k ++ [t] := by rw [List.take_succ_eq_append_getElem hkl, (List.getElem?_eq_some_iff.1 ht).2]
   refine ⟨rfl, ?_⟩
   refine ld1 1 rfl (v := sv r k) rfl ?_
   refine .mk #[.bool t] TTn (fun w => bsTn _ w) (fun bn => ?_)
   refine ap1 2 4 qc rfl infoTn rfl rfl hR rfl rfl (by omega) (by unfold maxLen; omega) (fun r' hR' => ?_)
   rw [← qaV, ← htk] at hR' ⊢
   refine s1e 1 #[sv r' (k + 1)] rfl (show 0 < 1 by decide) rfl ?_ (h2 := (svc r' (k + 1)).1) (h3 := (svc r' (k + 1)).2)
   refine ⟨r', ⟨hkl, hR'⟩, .drop (.cons (.cons (.cons (.drop .nil)))), fun e he x hx hn => absurd ?_ hn⟩
   simp only [List.mem_cons, List.not_mem_nil, or_false] at he
   rcases he with rfl | rfl
   · simpa using hx
   · rcases r' with _ | ⟨_, _, _⟩
     · simp [se] at hx
     · simpa [se] using hx
 · rintro k r b0 hf ⟨hk, hR⟩
   obtain rfl : k = T.length := hf
   rw [List.take_of_length_le (Nat.le_refl _)] at hR
   refine ld1 1 rfl (v := sv r T.length) rfl ?_
   refine .mk 3 rfl ?_
   refine bk ?_
   exact ⟨fun w1 hs => ⟨r, hR, rfl, Qx hs rfl 2 (by rw [List.take_of_length_le (Nat.le_refl _)]; rfl), hs.below⟩⟩
end
section
open Go.RowKit Go.Sx
theorem qaN (l : List Int) : (ZI l).length = l.length := by simp [ZI]
theorem intC_at {l : List Int} {i : Nat} (h : i < l.length) : (ZI l)[i]? = some (.int .i64 l[i]) := by simp [ZI, h]
theorem take_ne (a b : List Int) (i : Nat) (ha : i < a.length) (hb : i < b.length) (hp : a.take i = b.take i) (h : a[i] ≠ b[i]) : a ≠ b := by
 rintro rfl; exact h rfl
theorem ints_any (va vb : Value) (a b : List Int) (w : World) (ha : Rd w va (ZI a)) (hb : Rd w vb (ZI b)) (hl : a.length ≤ 1000000) : Calls Tryz.prog 40 ([va, vb] : List Value).toArray w fun e w' => e = .returned (.bool (decide (a = b))) ∧ Below w.heap.size w w' := by
 have ha0 := ha
 have hb0 := hb
 obtain ⟨aa, ca, rfl, _⟩ := ha
 obtain ⟨ab, cb, rfl, _⟩ := hb
 rw [qaN] at ha0 hb0 ⊢
 rw [qaN]
 refine qj qc Tryz.func40 rfl Tryz.ntmps40 rfl (St.start w) ?_
 refine cne (fun h => ?_) (fun h => ?_)
 · refine rt ?_
   rw [decide_eq_false (by rintro rfl; exact h rfl)]; rfl
 · have hlen : a.length = b.length := by omega
   refine lp qc (fun i : Nat => i ≤ a.length ∧ a.take i = b.take i) (fun i => ⟨[(0, .slice aa a.length ca), (1, .slice ab b.length cb), (12, .int .i64 a.length), (13, .int .i64 i)], [], []⟩) (fun i => a.length - i) 0 ⟨Nat.zero_le _, rfl⟩ ⟨⟨rfl, rfl, rfl, rfl, trivial⟩, .nil, rfl⟩ ?_
   rintro i ⟨hi, hp⟩
   refine cd (fun h => ?_) (fun h => ?_)
   · have hia : i < a.length := by omega
     have hib : i < b.length := by omega
     obtain ⟨b1, o1, c1, e1, l1, r1⟩ := rd_at ha0 (by intro h; have := congrArg List.length h; rw [qaN] at this; simp only [List.length_nil] at this; omega)
     obtain ⟨b2, o2, c2, e2, l2, r2⟩ := rd_at hb0 (by intro h; have := congrArg List.length h; rw [qaN] at this; simp only [List.length_nil] at this; omega)
     injection e1 with f1 f2 f3
     injection e2 with g1 g2 g3
     subst f1 f3 g1 g3
     have r1 := r1 i _ (intC_at hia)
     have r2 := r2 i _ (intC_at hib)
     refine dr [] 99 (.t 0 (.t 1 (.t 2 (.t 3 (.t 4 (.t 5 (.t 6 (.t 7 (.t 8 .nil))))))))) qc qe (by kernel_rfl) .nil ?_
     refine ⟨by omega, by omega, ?_⟩
     refine ldo (v := .int .i64 a[i]) (by rw [qi, qh]; simpa using r1) l1 ?_
     refine ⟨by omega, by omega, ?_⟩
     refine ldo (v := .int .i64 b[i]) (by rw [qi, qh]; simpa using r2) l2 ?_
     refine cne (fun hne => ?_) (fun he => ?_)
     · refine rt ?_
       rw [decide_eq_false (take_ne a b i hia hib hp hne)]; rfl
     · refine .as ((i + 1 : Nat) : Int) (by simp) (by simp only [mn]; omega) (by simp only [mx]; omega) ?_
       refine ⟨i + 1, ⟨by omega, ?_⟩, by omega, ⟨⟨rfl, rfl, rfl, rfl, trivial⟩, .nil, rfl⟩⟩
       rw [List.take_succ_eq_append_getElem hia, List.take_succ_eq_append_getElem hib, hp, he]
   · obtain rfl : i = a.length := by omega
     have hab : a = b := by
      rw [List.take_length, hlen, List.take_length] at hp
      exact hp
     refine rt ?_
     rw [decide_eq_true hab]; rfl
def Q8 (x : UInt8) : Bs := x :: List.replicate 31 0
theorem undSs : Tryz.prog.underlying 22 = some (.slice 39) := by kernel_rfl
theorem infoSs : (Tryz.prog.info? 39).map (fun i => (i.zero, i.size, i.bytes)) = some (some (.agg Z32), 32, 32) := by kernel_rfl
theorem bsS1 (x : UInt8) (w : World) : (Instr.buildSlice 22 1 #[(0, qV (Q8 x))]).run Tryz.prog w = .ok (.slice (some ⟨w.heap.size, 0, none⟩) 1 1) (w.alloc (.cells (Lib.byteCells (Q8 x)).toArray 39)) := by
 obtain ⟨i, hi, hz, hs, hb⟩ := Qg infoSs
 exact run_buildSlice w _ _ 1 _ (Lib.byteCells (Q8 x)).toArray i (.agg Z32) undSs hi hz (by rw [hs]; decide) (by rw [hs]; decide) (by rw [hs]; kernel_rfl)
theorem undIs : Tryz.prog.underlying 54 = some (.slice 3) := by kernel_rfl
theorem infoIn : (Tryz.prog.info? 3).map (fun i => (i.zero, i.size, i.bytes)) = some (some (.int .i64 0), 1, 8) := by kernel_rfl
theorem bsI1 (x : Int) (w : World) : (Instr.buildSlice 54 1 #[(0, .int .i64 x)]).run Tryz.prog w = .ok (.slice (some ⟨w.heap.size, 0, none⟩) 1 1) (w.alloc (.cells #[.int .i64 x] 3)) := by
 obtain ⟨i, hi, hz, hs, hb⟩ := Qg infoIn
 exact run_buildSlice w _ _ 1 _ #[.int .i64 x] i (.int .i64 0) undIs hi hz (by rw [hs]; decide) (by rw [hs]; decide) (by rw [hs]; kernel_rfl)
def exH (x : UInt8) : Hd := qeo Qu (hd0 (Q8 x) 1 0) [49] [48]
theorem exH_ok (x : UInt8) : qag (exH x) := ⟨by show (Q8 x).length = 32; simp [Q8], ZX _ _⟩
theorem rhead_ex (x : UInt8) (b c : Nat) (t : TypeId) (w : World) (hw : w.heap[b]? = some (.cells (Lib.byteCells (Q8 x)).toArray t (0, 0))) :
 Calls Tryz.prog 20 ([.slice (some ⟨b, 0, none⟩) 1 c, .int .i64 0] : List Value).toArray w fun e w' => e = .returned (.agg (hdC (exH x))) ∧ Below w.heap.size w w' :=
 qdB _ (Q8 x) 1 0 [49] [48] (by simp [Q8]) w (by decide) (by decide)
  (fun w' hb => rroot1_any b c (Q8 x) (by simp [Q8]) t w' ((hb.block b (Array.getElem?_eq_some_iff.1 hw).1).trans hw)) ⟨_, _, rfl⟩ (fun w' _ => qbC 1 (by decide) w') (fun w' _ => qbC 0 (by decide) w')
theorem qct : Zk logB := fun w => qer logB (by decide) (by decide) (by decide) w
theorem qap (n : Nat) : zb n < 115792089237316195423570985008687907853269984665640564039457584007913129639936 := by unfold zb; exact keyP_lt _
theorem nbody_sig (h : Hd) (s N : Bs) : qO { h with sig := s } N = qO h N := rfl
theorem sgn_body (n : Nat) (h : Hd) (A T N : Bs) : qO (qeo n h A T) N = qO h N := nbody_sig h _ N
theorem qeD (n : Nat) (h : Hd) (A T : Bs) : qan (zb n) (qeo n h A T).sig (qO (qeo n h A T) (A ++ [32] ++ T)) = true := by
 rw [sgn_body, qe6]
 exact right_sig n (zW h A T)
theorem sgn_rightC (n : Nat) (h : Hd) (A T : Bs) (S : AuS) (hr : h.root.length = 32) (hl : h.o.length ≤ 1000) (hn : Zk h.o) (h0 : 0 ≤ h.size) (h1 : h.size ≤ 1048576) (h2 : 0 ≤ h.time) (h3 : h.time ≤ 9007199254740991) (hAl : A.length ≤ 100) (hTl : T.length ≤ 100) (hp : S.p = zb n) (ho : S.o = h.o) (w : World)
 (hA : ∀ w', Below w.heap.size w w' → Calls Tryz.prog 116 ([.int .i64 h.size] : List Value).toArray w' fun e w'' => e = .returned (VS A) ∧ Below w'.heap.size w' w'')
 (hT : ∀ w', Below w.heap.size w w' → Calls Tryz.prog 116 ([.int .i64 h.time] : List Value).toArray w' fun e w'' => e = .returned (VS T) ∧ Below w'.heap.size w' w'') : ZW S (qeo n h A T) 0 w := fun w' hb => by
 rw [hp, ho]
 exact nright_any (qeo n h A T) A T (zb n) (qap n) hr (ZX _ _) hl hn h0 h1 h2 h3 hAl hTl w' (fun w'' hb' => hA w'' (hb.trans (hb'.mono hb.size))) (fun w'' hb' => hT w'' (hb.trans (hb'.mono hb.size))) (qeD n h A T)
theorem ex_right (x : UInt8) (S : AuS) (hp : S.p = zb Qu) (ho : S.o = logB) (w : World) : ZW S (exH x) 0 w :=
 sgn_rightC Qu (hd0 (Q8 x) 1 0) [49] [48] S (by show (Q8 x).length = 32; simp [Q8]) (by show logB.length ≤ 1000; decide) qct (by show (0 : Int) ≤ 1; decide) (by show (1 : Int) ≤ 1048576; decide) (by show (0 : Int) ≤ 0; decide) (by show (0 : Int) ≤ 9007199254740991; decide) (by decide) (by decide) hp ho w (fun w'' _ => itoa_fig 1 (by decide) w'') (fun w'' _ => itoa_fig 0 (by decide) w'')
theorem leaf_ne : Q8 1 ≠ Q8 2 := by decide
theorem ex_grows (w : World) : Calls Tryz.prog 48 ([.int .i64 (exH 1).size, qV (exH 1).root, .int .i64 (exH 2).size, qV (exH 2).root, .slice none 0 0] : List Value).toArray w fun e w' => e = .returned (.bool false) ∧ Below w.heap.size w w' := by
 have h := grows_eq 1 (by decide) (Q8 1) (Q8 2) (by decide) (by decide) none 0 0 w
 rw [decide_eq_false leaf_ne] at h
 exact h
theorem alive_any (w : World) : Calls Tryz.prog 9 ([] : List Value).toArray w fun e w' => e = .returned (.bool true) ∧ Below w.heap.size w w' := by
 refine qj qc Tryz.func9 rfl Tryz.ntmps9 rfl (St.start w) ?_
 refine cv qds ?_
 refine cv (qaF Qu) ?_
 refine cM (r' := fun x : Nat × Nat => auR (au0 (zb Qu) logB x)) (fun w' hs => (qfa (zb Qu) logB (by decide) qct w').mono fun e w'' ⟨x, h0, h1, h2, h3, h4, h5⟩ => ⟨x, h0, h1, h2, h3, h4, fun k hk => (h5 k hk).elim⟩) (fun x _ => ?_)
 iterate 2 refine ct rfl ?_
 iterate 2 refine cf rfl ?_
 refine bu (c := (Lib.byteCells (Q8 1)).toArray) (by kernel_rfl) ?_
 refine .mk (Lib.byteCells (Q8 1)).toArray 39 (fun w => bsS1 1 w) (fun bn => ?_)
 refine cvs (fun w' hs => rhead_ex 1 bn 1 _ w' (hs.nth (k := 1) rfl)) ?_
 refine cT 0 (α := Nat) (Φ := fun _ => True) (v := fun _ => .nilIface) (r' := fun b => auR ((au0 (zb Qu) logB x).put (exH 1) b)) rfl (fun w' hs => (take_one (au0 (zb Qu) logB x) (exH 1) none 0 0 0 rfl (exH_ok 1) w' (hs.res (k := 0) rfl) (ex_right 1 (au0 (zb Qu) logB x) rfl rfl w') rfl rfl (by show (0 : Int) ≤ 1 ∧ (1 : Int) ≤ 1048576; decide)).mono fun e w'' ⟨h1, b, h2⟩ => ⟨b, trivial, h1, h2⟩) (fun b1 _ => ?_)
 refine bu (c := (Lib.byteCells (Q8 2)).toArray) (by kernel_rfl) ?_
 refine .mk (Lib.byteCells (Q8 2)).toArray 39 (fun w => bsS1 2 w) (fun bn2 => ?_)
 refine cvs (fun w' hs => rhead_ex 2 bn2 1 _ w' (hs.nth (k := 2) rfl)) ?_
 refine cT 0 (α := Unit) (Φ := fun _ => True) (v := fun _ => Q7 13) (r' := fun _ => auR ((au0 (zb Qu) logB x).put (exH 1) b1)) rfl (fun w' hs => (qdm ((au0 (zb Qu) logB x).put (exH 1) b1) (exH 2) none 0 0 0 (exH 1) rfl (exH_ok 2) w' (hs.res (k := 0) rfl) (ex_right 2 ((au0 (zb Qu) logB x).put (exH 1) b1) rfl rfl w') rfl (by show (1 : Int) ≤ 1; decide) (by show (0 : Int) ≤ 0; decide) (fun w'' _ => ex_grows w'')).mono fun e w'' ⟨h1, h2⟩ => ⟨(), trivial, h1, h2⟩) (fun _ _ => ?_)
 iterate 2 refine ct rfl ?_
 refine cv (errIs_any 13 13) ?_
 iterate 3 refine ct rfl ?_
 refine coV (n := 1) (z := 1) (xs := ZI [1]) (e := 3) id (fun w' hs => qeC ((au0 (zb Qu) logB x).put (exH 1) b1) w' (hs.res (k := 0) rfl) (by show 1 ≤ 1000000; decide)) (fun r hR => ?_)
 refine ct rfl ?_
 refine .mk #[.int .i64 1] 3 (fun w => bsI1 1 w) (fun bi => ?_)
 refine ct rfl ?_
 refine cvs (v := .bool true) (fun w' hs => ints_any _ _ [1] [1] w' (Rd.own hs 3 rfl hR) (Rd.ent hs 4 (n := 1) rfl rfl rfl) (by decide)) ?_
 refine ct rfl ?_
 exact rt rfl
end
section
open Go.RowKit Go.Sx
def suC (l : List Bs) : List Value := l.flatMap Lib.byteCells
abbrev S32 (l : List Bs) : Prop := ∀ p ∈ l, p.length = 32
theorem suC_snoc (l : List Bs) (x : Bs) : suC (l ++ [x]) = suC l ++ Lib.byteCells x := by unfold suC; simp
theorem suC_at {l : List Bs} (h : S32 l) : ∀ {i : Nat} {p : Bs}, l[i]? = some p → ∀ j u, (Lib.byteCells p)[j]? = some u → (suC l)[32 * i + j]? = some u := by
 induction l with
 | nil => intro i p hp; simp at hp
 | cons a l ih =>
  intro i p hp j u hu
  have ha : (Lib.byteCells a).length = 32 := by rw [Lib.byteCells_length, h a (by simp)]
  have e : suC (a :: l) = Lib.byteCells a ++ suC l := by unfold suC; rw [List.flatMap_cons]
  rw [e]
  cases i with
  | zero =>
   obtain rfl : a = p := by simpa using hp
   have := (List.getElem?_eq_some_iff.1 hu).1
   rw [List.getElem?_append_left (by omega), Nat.mul_zero, Nat.zero_add]; exact hu
  | succ i =>
   rw [List.getElem?_append_right (by omega), ha, show 32 * (i + 1) + j - 32 = 32 * i + j by omega]
   exact ih (fun p hp => h p (by simp [hp])) (by simpa using hp) j u hu
theorem RdS.own {M : Bks} {B w : World} {L : List Ent} (hs : St M B w L) (k : Nat) {r : Sx.Own} {l : List Bs} {e : TypeId} (h : S32 l) (hk : L[k]? = some (se r (suC l) e)) (hR : Rw 32 l.length r (suC l)) : RdS w (sv r l.length) l := by
 obtain ⟨h1, h2⟩ := hR
 cases r with
 | none =>
  obtain rfl : l = [] := List.length_eq_zero_iff.1 h2
  exact ⟨h, none, 0, rfl, Nat.le_refl _, fun hn => absurd rfl hn⟩
 | some p =>
  obtain ⟨b, c, j⟩ := p
  refine ⟨h, _, c, rfl, h2.1, fun hn => ⟨b, 0, rfl, (Array.getElem?_eq_some_iff.1 (hs.nth hk)).1, fun i q hq n u hu => ?_⟩⟩
  have h3 := suC_at h hq n u hu
  have := hs.cell hk (32 * i + n)
  rw [show 0 + 32 * i + n = 32 * i + n by omega, this, List.getElem?_toArray, List.getElem?_append_left (List.getElem?_eq_some_iff.1 h3).1, h3]
theorem qe4 (x : Bs) (hx : x.length = 32) (w : World) : (Instr.buildSlice 22 1 #[(0, qV x)]).run Tryz.prog w = .ok (.slice (some ⟨w.heap.size, 0, none⟩) 1 1) (w.alloc (.cells (Lib.byteCells x).toArray 39)) := by
 obtain ⟨i, hi, hz, hs, hb⟩ := Qg infoSs
 exact run_buildSlice w _ _ 1 _ (Lib.byteCells x).toArray i (.agg Z32) undSs hi hz (by rw [hs]; decide) (by rw [hs]; decide) (by rw [hs]; exact list32 (P := fun x => Instr.fill (fun i => some (i * 32, 32)) ((Array.range (1 * 32)).map ((Value.agg Z32).cells[· % (Value.agg Z32).cells.size]!)) #[(0, qV x)].toList = some (Lib.byteCells x).toArray) (fun x0 x1 x2 x3 x4 x5 x6 x7 x8 x9 x10 x11 x12 x13 x14 x15 x16 x17 x18 x19 x20 x21 x22 x23 x24 x25 x26 x27 x28 x29 x30 x31 => by kernel_rfl) x hx)
theorem apS {C : Cx} {L : List Ent} (k kn : Nat) (hP : C.P = Tryz.prog) (hT : TabOk C.P C.T) {t ty bn : Nat} {cs : Array Bool} {r : Sx.Own} {l : List Bs} {x : Bs} {next : Value → List Ent → Prop}
 (ht : Sx.look C.T.rows t fun y _ => y = .sl 39 32) (hk : L[k]? = some (se r (suC l) 39)) (hl : S32 l) (hx : x.length = 32) (hR : Rw 32 l.length r (suC l)) (hkn : L[kn]? = some (cl bn (Lib.byteCells x).toArray 39)) (hn : l.length ≤ 1048576)
 (go : ∀ r', Rw 32 (l ++ [x]).length r' (suC (l ++ [x])) → next (sv r' (l ++ [x]).length) (L.set k (se r' (suC (l ++ [x])) 39))) : BiP C .append #[t, t] ty cs [sv r l.length, .slice (some ⟨bn, 0, none⟩) 1 1] L next := by
 have hz : (Lib.byteCells x).length = 32 := by rw [Lib.byteCells_length, hx]
 refine ap (z := 32) (news := Lib.byteCells x) (m := 1) k hT ht (by rw [hP]; exact infoSs) rfl hk hR (srcE ht hT (src kn hkn (by rw [List.drop_zero, List.take_of_length_le (Nat.le_refl _)])) (by rw [hz]) (fun u hu => by obtain ⟨_, _, rfl⟩ := List.mem_map.1 hu; rfl)) (by omega) (by unfold maxLen; omega) (fun r' hr' => ?_)
 have := go r' (by rw [List.length_append, suC_snoc]; exact hr')
 rwa [List.length_append, suC_snoc] at this
theorem rleaf_any (v : Value) (bs : Bs) (w : World) (hrd : Rd w v (Lib.byteCells bs)) (hn : bs.length ≤ 100000) : Calls Tryz.prog 18 ([v] : List Value).toArray w fun e w' => e = .returned (qV (qJ bs)) ∧ Below w.heap.size w w' := by
 refine qj qc Tryz.func18 rfl Tryz.ntmps18 rfl (St.start w) ?_
 intro b2
 refine .mk #[.int .u8 0] 5 (fun w => bs5 _ w) (fun bn => ?_)
 refine ap (r := some (bn, 1, [])) (n := 1) (xs := [.int .u8 0]) (m := bs.length) (news := Lib.byteCells bs) 1 qc rfl Qj rfl rfl ⟨rfl, by decide, by decide, rfl⟩ (fun w' hs => by rw [← Lib.byteCells_length bs]; exact (hrd.below hs.below).src Zq (fun u hu => by obtain ⟨_, _, rfl⟩ := List.mem_map.1 hu; rfl)) (by omega) (by unfold maxLen; omega) (fun r1 hr1 => ?_)
 have hR : Rw 1 (1 + bs.length) r1 (Lib.byteCells (0 :: bs)) := hr1
 refine cvs (v := qV (qJ bs)) (fun w' hs => rshort_any _ (0 :: bs) w' (Rd.own hs 1 rfl hR) (by simp; omega)) ?_
 have hz := qx (qJ bs) (qI _)
 refine sN 0 rfl (hz.trans (by kernel_rfl)) (qD _) ?_ (by rw [hz]; kernel_rfl)
 refine ldN 0 rfl hz ?_
 exact rt rfl
end
section
open Go.RowKit Go.Sx
def QD : Nat → Nat → List Bs → List Bs
 | 0, _, _ => []
 | f + 1, i, l => if l.length = 1 then [] else if i < qq l.length then QD f i (l.take (qq l.length)) ++ [qz (l.drop (qq l.length))] else QD f (i - qq l.length) (l.drop (qq l.length)) ++ [qz (l.take (qq l.length))]
def prF : Nat → Nat → Bool → List Bs → List Bs
 | 0, _, _, _ => []
 | f + 1, m, b, l => if m = l.length then (if b then [] else [qz l]) else if m ≤ qq l.length then prF f m b (l.take (qq l.length)) ++ [qz (l.drop (qq l.length))] else prF f (m - qq l.length) false (l.drop (qq l.length)) ++ [qz (l.take (qq l.length))]
theorem qc5 {l : List Bs} {x : Bs} (h : S32 l) (hx : x.length = 32) : S32 (l ++ [x]) := fun p hp => (List.mem_append.1 hp).elim (h p) (fun hp => by rw [List.mem_singleton.1 hp]; exact hx)
theorem qE {l : List Bs} (h : S32 l) (k : Nat) : S32 (l.take k) := fun p hp => h p (List.mem_of_mem_take hp)
theorem zU {l : List Bs} (h : S32 l) (k : Nat) : S32 (l.drop k) := fun p hp => h p (List.mem_of_mem_drop hp)
theorem zX (f : Nat) : ∀ (i : Nat) (l : List Bs), S32 l → l.length ≤ 1048576 → S32 (QD f i l) ∧ (QD f i l).length ≤ f := by
 induction f with
 | zero => intro i l _ _; exact ⟨fun p hp => (by cases hp), Nat.le_refl _⟩
 | succ f ih =>
  intro i l h hn
  rw [QD]
  split
  · exact ⟨fun p hp => (by cases hp), Nat.zero_le _⟩
  · split
    · obtain ⟨a, b⟩ := ih i (l.take (qq l.length)) (qE h _) (by rw [List.length_take]; omega)
      exact ⟨qc5 a (Qn _ (zU h _)), by rw [List.length_append]; simpa using b⟩
    · obtain ⟨a, b⟩ := ih (i - qq l.length) (l.drop (qq l.length)) (zU h _) (by rw [List.length_drop]; omega)
      exact ⟨qc5 a (Qn _ (qE h _)), by rw [List.length_append]; simpa using b⟩
theorem qcm (f : Nat) : ∀ (m : Nat) (b : Bool) (l : List Bs), S32 l → l.length ≤ 1048576 → S32 (prF f m b l) ∧ (prF f m b l).length ≤ f := by
 induction f with
 | zero => intro m b l _ _; exact ⟨fun p hp => (by cases hp), Nat.le_refl _⟩
 | succ f ih =>
  intro m b l h hn
  rw [prF]
  split
  · cases b with
    | true => exact ⟨fun p hp => (by cases hp), Nat.zero_le _⟩
    | false => exact ⟨fun p hp => (by rw [List.mem_singleton.1 hp]; exact Qn _ h), by simp⟩
  · split
    · obtain ⟨c, d⟩ := ih m b (l.take (qq l.length)) (qE h _) (by rw [List.length_take]; omega)
      exact ⟨qc5 c (Qn _ (zU h _)), by rw [List.length_append]; simpa using d⟩
    · obtain ⟨c, d⟩ := ih (m - qq l.length) false (l.drop (qq l.length)) (zU h _) (by rw [List.length_drop]; omega)
      exact ⟨qc5 c (Qn _ (qE h _)), by rw [List.length_append]; simpa using d⟩
abbrev TSq : Nat := 39
abbrev MkS (w : World) (l : List Bs) (e : Ending) (w' : World) : Prop := ∃ r, e = .returned (sv r l.length) ∧ Rw 32 l.length r (suC l) ∧ zq w w' r (suC l) TSq ∧ Below w.heap.size w w'
theorem rpath_f (f : Nat) : ∀ (i : Nat) (ls : List Bs) (v : Value) (w : World), ls.length < f → f ≤ 1048577 → i < ls.length → ls.length ≤ 1048576 → RdS w v ls →
 Calls Tryz.prog 22 ([v, .int .i64 i] : List Value).toArray w fun e w' => MkS w (QD f i ls) e w' := by
 induction f with
 | zero => intro i ls v w h0; exact absurd h0 (Nat.not_lt_zero _)
 | succ f ih =>
  intro i ls v w h0 hf hi hn hrd
  have hrd0 := hrd
  obtain ⟨h32, a, c, hv, hc, had⟩ := hrd0
  subst hv
  obtain ⟨b, o, rfl, hb, hat⟩ := had (fun e => by subst e; simp at hi)
  refine (enter qc Tryz.func22 rfl Tryz.ntmps22 rfl (St.rdS hrd) (R := fun v w' => ∃ r, v = sv r (QD (f + 1) i ls).length ∧ Rw 32 (QD (f + 1) i ls).length r (suC (QD (f + 1) i ls)) ∧ zq w w' r (suC (QD (f + 1) i ls)) TSq ∧ Below w.heap.size w w') ?_).mono (fun e w' ⟨v, he, r, h1, h2⟩ => ⟨r, by rw [he, h1], h2⟩)
  rw [QD]
  refine cq (fun h => ?_) (fun h => ?_)
  · rw [if_pos (by omega)]
    exact ⟨fun w1 hs => ⟨none, rfl, Rw.nil 32, fun b c j e => (by cases e), hs.below⟩⟩
  rw [if_neg (by omega)]
  obtain ⟨c1, c2, c3⟩ := QQ ls.length (by omega) hn
  refine cv (fun w' => qdD ls.length hn w') ?_
  generalize hk : qq ls.length = k at *
  refine cd (fun h1 => ?_) (fun h1 => ?_)
  · rw [if_pos (by omega)]
    obtain ⟨g1, g2⟩ := zX f i (ls.take k) (qE h32 k) (by rw [List.length_take]; omega)
    have hz := Qn (ls.drop k) (zU h32 k)
    refine dr [rs (rdS (some ⟨b, o, none⟩) c ls)] 99 (.t 0 (.t 1 (.t 2 (.t 3 (.t 5 (.t 6 (.t 7 (.n 4 (.t 8 (.n 9 (.n 10 (.n 11 .nil)))))))))))) qc qe (by kernel_rfl) (.cons .nil) ?_
    refine ZH (fun a ha => by injection ha with ha; subst ha; rfl) (by omega) hc ?_
    refine qdp (by omega) hc (fun a' ha => ?_)
    refine co (fun w' hs => ih i (ls.take k) _ w' (by rw [List.length_take]; omega) (by omega) (by rw [List.length_take]; omega) (by rw [List.length_take]; omega) (RdS.take (hs.res (k := 0) rfl) k (by omega))) (fun r hr => ?_)
    refine ⟨.cons .nil, ?_⟩
    refine czs (v := qV (qz (ls.drop k))) (fun w' hs => Zl (ls.drop k) _ w' (by rw [List.length_drop]; omega) (RdS.drop (hs.res (k := 0) rfl) k (by omega) a' ha)) ?_
    refine .mk _ _ (qe4 _ hz) (fun bn => ?_)
    refine ⟨.cons .nil, ?_⟩
    refine apS 1 2 rfl qc rfl rfl g1 hz hr rfl (by omega) (fun r2 hr2 => ?_)
    refine ⟨.cons .nil, ?_⟩
    refine ⟨.cons .nil, ?_⟩
    exact ⟨fun w1 hs => ⟨r2, rfl, hr2, Qx hs rfl 1 rfl, hs.below⟩⟩
  · rw [if_neg (by omega)]
    obtain ⟨g1, g2⟩ := zX f (i - k) (ls.drop k) (zU h32 k) (by rw [List.length_drop]; omega)
    have hz := Qn (ls.take k) (qE h32 k)
    refine dr [rs (rdS (some ⟨b, o, none⟩) c ls)] 99 (.t 0 (.t 1 (.t 2 (.t 3 (.t 4 (.t 5 (.t 7 (.t 8 (.t 9 (.n 6 (.t 10 (.n 11 (.n 12 (.n 13 .nil)))))))))))))) qc qe (by kernel_rfl) (.cons .nil) ?_
    refine qdp (by omega) hc (fun a' ha => ?_)
    refine .as ((i - k : Nat) : Int) (by omega) (by simp only [mn]; omega) (by simp only [mx]; omega) ?_
    refine ZH (fun a ha => by injection ha with ha; subst ha; rfl) (by omega) hc ?_
    refine co (fun w' hs => ih (i - k) (ls.drop k) _ w' (by rw [List.length_drop]; omega) (by omega) (by rw [List.length_drop]; omega) (by rw [List.length_drop]; omega) (RdS.drop (hs.res (k := 0) rfl) k (by omega) a' ha)) (fun r hr => ?_)
    refine ⟨.cons .nil, ?_⟩
    refine czs (v := qV (qz (ls.take k))) (fun w' hs => Zl (ls.take k) _ w' (by rw [List.length_take]; omega) (RdS.take (hs.res (k := 0) rfl) k (by omega))) ?_
    refine .mk _ _ (qe4 _ hz) (fun bn => ?_)
    refine ⟨.cons .nil, ?_⟩
    refine apS 1 2 rfl qc rfl rfl g1 hz hr rfl (by omega) (fun r2 hr2 => ?_)
    refine ⟨.cons .nil, ?_⟩
    refine ⟨.cons .nil, ?_⟩
    exact ⟨fun w1 hs => ⟨r2, rfl, hr2, Qx hs rfl 1 rfl, hs.below⟩⟩
theorem Zm (i : Nat) (ls : List Bs) (v : Value) (w : World) (hi : i < ls.length) (hn : ls.length ≤ 1048576) (h : RdS w v ls) :
 Calls Tryz.prog 22 ([v, .int .i64 i] : List Value).toArray w fun e w' => MkS w (QD (ls.length + 1) i ls) e w' := rpath_f _ i ls v w (Nat.lt_succ_self _) (by omega) hi hn h
theorem rprove_f (f : Nat) : ∀ (m : Nat) (bb : Bool) (ls : List Bs) (v : Value) (w : World), ls.length < f → f ≤ 1048577 → 1 ≤ m → m ≤ ls.length → ls.length ≤ 1048576 → RdS w v ls →
 Calls Tryz.prog 51 ([v, .int .i64 m, .bool bb] : List Value).toArray w fun e w' => MkS w (prF f m bb ls) e w' := by
 induction f with
 | zero => intro m bb ls v w h0; exact absurd h0 (Nat.not_lt_zero _)
 | succ f ih =>
  intro m bb ls v w h0 hf hm hmn hn hrd
  have hrd0 := hrd
  obtain ⟨h32, a, c, hv, hc, had⟩ := hrd0
  subst hv
  obtain ⟨b, o, rfl, hb, hat⟩ := had (fun e => by subst e; simp at hmn; omega)
  refine (enter qc Tryz.func51 rfl Tryz.ntmps51 rfl (St.rdS hrd) (R := fun v w' => ∃ r, v = sv r (prF (f + 1) m bb ls).length ∧ Rw 32 (prF (f + 1) m bb ls).length r (suC (prF (f + 1) m bb ls)) ∧ zq w w' r (suC (prF (f + 1) m bb ls)) TSq ∧ Below w.heap.size w w') ?_).mono (fun e w' ⟨v, he, r, h1, h2⟩ => ⟨r, by rw [he, h1], h2⟩)
  rw [prF]
  refine cq (fun h => ?_) (fun h => ?_)
  · rw [if_pos (by omega)]
    cases bb with
    | true =>
     refine ct rfl ?_
     exact ⟨fun w1 hs => ⟨none, rfl, Rw.nil 32, fun b c j e => (by cases e), hs.below⟩⟩
    | false =>
     refine cf rfl ?_
     refine cvs (v := qV (qz ls)) (fun w' hs => Zl ls _ w' hn (hs.res (k := 0) rfl)) ?_
     refine .mk _ _ (qe4 _ (Qn _ h32)) (fun bn => ?_)
     have hz : (Lib.byteCells (qz ls)).length = 32 := by rw [Lib.byteCells_length, Qn _ h32]
     have e : suC [qz ls] = Lib.byteCells (qz ls) := by simp [suC]
     refine ⟨fun w1 hs => ⟨some (bn, 1, []), rfl, ⟨by simp only [Bool.false_eq_true, if_false, e, hz, List.length_cons, List.length_nil], Nat.le_refl _, by unfold maxLen; omega, by simp only [Bool.false_eq_true, if_false, List.append_nil, e, hz]⟩, ?_, hs.below⟩⟩
     have := Qx (e := TSq) hs (r := some (bn, 1, [])) (xs := suC [qz ls]) rfl 1 (by rw [e]; simp [se])
     exact this
  rw [if_neg (by omega)]
  obtain ⟨c1, c2, c3⟩ := QQ ls.length (by omega) hn
  refine cv (fun w' => qdD ls.length hn w') ?_
  generalize hk : qq ls.length = k at *
  refine cd (fun h1 => ?_) (fun h1 => ?_)
  · rw [if_pos (by omega)]
    obtain ⟨g1, g2⟩ := qcm f m bb (ls.take k) (qE h32 k) (by rw [List.length_take]; omega)
    have hz := Qn (ls.drop k) (zU h32 k)
    refine dr [rs (rdS (some ⟨b, o, none⟩) c ls)] 99 (.t 0 (.t 1 (.t 2 (.t 3 (.t 4 (.t 6 (.t 7 (.t 8 (.n 5 (.t 9 (.n 10 (.n 11 (.n 12 .nil))))))))))))) qc qe (by kernel_rfl) (.cons .nil) ?_
    refine ZH (fun a ha => by injection ha with ha; subst ha; rfl) (by omega) hc ?_
    refine qdp (by omega) hc (fun a' ha => ?_)
    refine co (fun w' hs => ih m bb (ls.take k) _ w' (by rw [List.length_take]; omega) (by omega) hm (by rw [List.length_take]; omega) (by rw [List.length_take]; omega) (RdS.take (hs.res (k := 0) rfl) k (by omega))) (fun r hr => ?_)
    refine ⟨.cons .nil, ?_⟩
    refine czs (v := qV (qz (ls.drop k))) (fun w' hs => Zl (ls.drop k) _ w' (by rw [List.length_drop]; omega) (RdS.drop (hs.res (k := 0) rfl) k (by omega) a' ha)) ?_
    refine .mk _ _ (qe4 _ hz) (fun bn => ?_)
    refine ⟨.cons .nil, ?_⟩
    refine apS 1 2 rfl qc rfl rfl g1 hz hr rfl (by omega) (fun r2 hr2 => ?_)
    refine ⟨.cons .nil, ?_⟩
    refine ⟨.cons .nil, ?_⟩
    exact ⟨fun w1 hs => ⟨r2, rfl, hr2, Qx hs rfl 1 rfl, hs.below⟩⟩
  · rw [if_neg (by omega)]
    obtain ⟨g1, g2⟩ := qcm f (m - k) false (ls.drop k) (zU h32 k) (by rw [List.length_drop]; omega)
    have hz := Qn (ls.take k) (qE h32 k)
    refine dr [rs (rdS (some ⟨b, o, none⟩) c ls)] 99 (.t 0 (.t 1 (.t 2 (.t 3 (.t 4 (.t 5 (.t 7 (.t 8 (.t 9 (.n 6 (.t 10 (.n 11 (.n 12 (.n 13 .nil)))))))))))))) qc qe (by kernel_rfl) (.cons .nil) ?_
    refine qdp (by omega) hc (fun a' ha => ?_)
    refine .as ((m - k : Nat) : Int) (by omega) (by simp only [mn]; omega) (by simp only [mx]; omega) ?_
    refine ZH (fun a ha => by injection ha with ha; subst ha; rfl) (by omega) hc ?_
    refine co (fun w' hs => ih (m - k) false (ls.drop k) _ w' (by rw [List.length_drop]; omega) (by omega) (by omega) (by rw [List.length_drop]; omega) (by rw [List.length_drop]; omega) (RdS.drop (hs.res (k := 0) rfl) k (by omega) a' ha)) (fun r hr => ?_)
    refine ⟨.cons .nil, ?_⟩
    refine czs (v := qV (qz (ls.take k))) (fun w' hs => Zl (ls.take k) _ w' (by rw [List.length_take]; omega) (RdS.take (hs.res (k := 0) rfl) k (by omega))) ?_
    refine .mk _ _ (qe4 _ hz) (fun bn => ?_)
    refine ⟨.cons .nil, ?_⟩
    refine apS 1 2 rfl qc rfl rfl g1 hz hr rfl (by omega) (fun r2 hr2 => ?_)
    refine ⟨.cons .nil, ?_⟩
    refine ⟨.cons .nil, ?_⟩
    exact ⟨fun w1 hs => ⟨r2, rfl, hr2, Qx hs rfl 1 rfl, hs.below⟩⟩
def qZ (m : Nat) (ls : List Bs) : List Bs := prF (ls.length + 1) m true ls
theorem ZJ (m : Nat) (ls : List Bs) (v : Value) (w : World) (hm : 1 ≤ m) (hmn : m ≤ ls.length) (hn : ls.length ≤ 1048576) (h : RdS w v ls) :
 Calls Tryz.prog 19 ([v, .int .i64 m] : List Value).toArray w fun e w' => MkS w (qZ m ls) e w' := by
 refine (enter qc Tryz.func19 rfl Tryz.ntmps19 rfl (St.start w) (R := fun v w' => ∃ r, v = sv r (qZ m ls).length ∧ Rw 32 (qZ m ls).length r (suC (qZ m ls)) ∧ zq w w' r (suC (qZ m ls)) TSq ∧ Below w.heap.size w w') ?_).mono (fun e w' ⟨v, he, r, h1, h2⟩ => ⟨r, by rw [he, h1], h2⟩)
 refine co (fun w' hs => rprove_f (ls.length + 1) m true ls v w' (Nat.lt_succ_self _) (by omega) hm hmn hn (h.below hs.below)) (fun r hr => ?_)
 exact ⟨fun w1 hs => ⟨r, rfl, hr, Qx hs rfl 0 rfl, hs.below⟩⟩
end
section
open Go.RowKit Go.Sx
def sndB (i n : Int) : Bool := decide (1 ≤ n ∧ n ≤ 1048576 ∧ 0 ≤ i ∧ i < n)
theorem psound_any (i n : Int) (w : World) : Calls Tryz.prog 134 ([.int .i64 i, .int .i64 n] : List Value).toArray w fun e w' => e = .returned (.bool (sndB i n)) ∧ Below w.heap.size w w' := by
 refine qj qc Tryz.func134 rfl Tryz.ntmps134 rfl (St.start w) ?_
 by_cases h0 : n ≥ 1
 case neg =>
  have p0 : decide (n ≥ 1) = false := decide_eq_false (by omega)
  have q0 : (decide (n ≥ 1) == true) = false := by rw [p0]; rfl
  have e : sndB i n = false := decide_eq_false (by omega)
  rw [e]
  repeat (first | refine cf q0 ?_ | refine cf p0 ?_ | refine cf rfl ?_ | refine ct rfl ?_)
  exact rt rfl
 have p0 : decide (n ≥ 1) = true := decide_eq_true (by omega)
 have q0 : (decide (n ≥ 1) == true) = true := by rw [p0]; rfl
 by_cases h1 : n ≤ 1048576
 case neg =>
  have p1 : decide (n ≤ 1048576) = false := decide_eq_false (by omega)
  have q1 : (decide (n ≤ 1048576) == true) = false := by rw [p1]; rfl
  have e : sndB i n = false := decide_eq_false (by omega)
  rw [e]
  repeat (first | refine ct q0 ?_ | refine ct p0 ?_ | refine cf q1 ?_ | refine cf p1 ?_ | refine cf rfl ?_ | refine ct rfl ?_)
  exact rt rfl
 have p1 : decide (n ≤ 1048576) = true := decide_eq_true (by omega)
 have q1 : (decide (n ≤ 1048576) == true) = true := by rw [p1]; rfl
 by_cases h2 : i ≥ 0
 case neg =>
  have p2 : decide (i ≥ 0) = false := decide_eq_false (by omega)
  have q2 : (decide (i ≥ 0) == true) = false := by rw [p2]; rfl
  have e : sndB i n = false := decide_eq_false (by omega)
  rw [e]
  repeat (first | refine ct q0 ?_ | refine ct p0 ?_ | refine ct q1 ?_ | refine ct p1 ?_ | refine cf q2 ?_ | refine cf p2 ?_ | refine cf rfl ?_ | refine ct rfl ?_)
  exact rt rfl
 have p2 : decide (i ≥ 0) = true := decide_eq_true (by omega)
 have q2 : (decide (i ≥ 0) == true) = true := by rw [p2]; rfl
 by_cases h3 : i < n
 case neg =>
  have p3 : decide (i < n) = false := decide_eq_false (by omega)
  have q3 : (decide (i < n) == true) = false := by rw [p3]; rfl
  have e : sndB i n = false := decide_eq_false (by omega)
  rw [e]
  repeat (first | refine ct q0 ?_ | refine ct p0 ?_ | refine ct q1 ?_ | refine ct p1 ?_ | refine ct q2 ?_ | refine ct p2 ?_ | refine cf q3 ?_ | refine cf p3 ?_ | refine cf rfl ?_ | refine ct rfl ?_)
  exact rt (congrArg Value.bool p3)
 have p3 : decide (i < n) = true := decide_eq_true (by omega)
 have q3 : (decide (i < n) == true) = true := by rw [p3]; rfl
 have e : sndB i n = true := decide_eq_true (by omega)
 rw [e]
 repeat (first | refine ct q0 ?_ | refine ct p0 ?_ | refine ct q1 ?_ | refine ct p1 ?_ | refine ct q2 ?_ | refine ct p2 ?_ | refine ct q3 ?_ | refine ct p3 ?_ | refine cf rfl ?_ | refine ct rfl ?_)
 exact rt (congrArg Value.bool p3)
def qe0 (x : Bs) (i n : Nat) (ps : List Bs) : Bs := (zZ (Zd i n).reverse ps (x, x)).2
def qb2 (i n : Int) (ps : List Bs) : Nat := if sndB i n then (if ps.length = (Zd i.toNat n.toNat).length then 0 else 13) else 2
def comeV (x : Bs) (i n : Int) (ps : List Bs) : Value := .tuple #[if qb2 i n ps = 0 then qV (qe0 x i.toNat n.toNat ps) else .agg Z32, Q7 (qb2 i n ps)]
theorem fold_len : ∀ (T : List Bool) (rs : List Bs) (x : Bs × Bs), x.2.length = 32 → (zZ T rs x).2.length = 32
 | [], rs, x, h => by cases rs <;> exact h
 | t :: T, [], x, h => h
 | t :: T, p :: rs, x, h => by
  show (zZ T rs _).2.length = 32
  refine fold_len T rs _ ?_
  cases t <;> exact qI _
theorem comeR_len (x : Bs) (i n : Nat) (ps : List Bs) (h : x.length = 32) : (qe0 x i n ps).length = 32 := fold_len _ _ _ h
theorem come_any (x : Bs) (i n : Int) (hx : x.length = 32) (ps : List Bs) (a : Option Addr) (c : Nat) (w : World) (h : RdS w (.slice a ps.length c) ps) :
 Calls Tryz.prog 93 ([qV x, .int .i64 i, .int .i64 n, .slice a ps.length c] : List Value).toArray w fun e w' => e = .returned (comeV x i n ps) ∧ Below w.heap.size w w' := by
 have h0 := h
 obtain ⟨h32, a0, c0, hv0, hc, had⟩ := h0
 injection hv0 with hv1 _ hv2
 subst hv1 hv2
 have hzx := qx x hx
 refine qj qc Tryz.func93 rfl Tryz.ntmps93 rfl (St.rdS h) ?_
 intro b4 b8
 refine cv (psound_any i n) ?_
 cases hs : sndB i n with
 | false =>
  have e : qb2 i n ps = 2 := by unfold qb2; rw [hs]; rfl
  refine ct rfl ?_
  unfold comeV
  rw [e]
  refine bu (c := Z32) (by kernel_rfl) ?_
  refine sN 2 rfl rfl rfl ?_ (by kernel_rfl)
  refine ldN 2 rfl rfl ?_
  exact rt rfl
 | true =>
  refine cf rfl ?_
  have hs' := of_decide_eq_true hs
  obtain ⟨i, rfl⟩ : ∃ k : Nat, i = k := ⟨i.toNat, by omega⟩
  obtain ⟨n, rfl⟩ : ∃ k : Nat, n = k := ⟨n.toNat, by omega⟩
  have hE : qb2 i n ps = if ps.length = (Zd i n).length then 0 else 13 := by unfold qb2; rw [hs]; rfl
  unfold comeV qe0
  rw [hE]
  simp only [Int.toNat_natCast]
  refine inl (C := ⟨Tryz.prog, tab, _, [], w, _⟩) qc Tryz.func136 rfl Tryz.ntmps136 rfl ?_
  intro b5 b6
  refine bk ?_
  have hTl := pth_len n i n
  change (Zd i n).length ≤ n at hTl
  refine co (fun w' hs => collectT_any b5 b6 i n (by omega) (by omega) w' ⟨hs.nth (k := 3) rfl, hs.nth (k := 4) rfl⟩) (fun r hR => ?_)
  generalize Zd i n = T at *
  obtain ⟨sa, sc, hv⟩ := qW hR
  rw [hv]
  refine cne (fun hne => ?_) (fun heq => ?_)
  · have hE2 : (if ps.length = T.length then (0 : Nat) else 13) = 13 := if_neg (by omega)
    rw [hE2]
    refine bu (c := Z32) (by kernel_rfl) ?_
    refine sN 2 rfl rfl rfl ?_ (by kernel_rfl)
    refine ldN 2 rfl rfl ?_
    exact rt rfl
  have hE2 : (if ps.length = T.length then (0 : Nat) else 13) = 0 := if_pos (by omega)
  rw [hE2]
  refine inl (C := ⟨Tryz.prog, tab, _, [], w, none⟩) qc Tryz.func137 rfl Tryz.ntmps137 rfl ?_
  refine .as ((T.length : Int) - 1 - (0 : Nat)) (by simp) (by simp only [mn]; omega) (by simp only [mx]; omega) ?_
  refine lp qc (fun i : Nat => i ≤ T.length) (fun j => ⟨[(0, .slice sa T.length sc), (2, .int .i64 j), (3, .int .i64 ((T.length : Int) - 1 - j))], [rs (rdS a c ps), cl b4 (Lib.byteCells x).toArray 39, cl b8 Z32 39, dead, dead, se r (boC (qcj T j)) TTn], []⟩) (fun j => T.length - j) 0 (Nat.zero_le _) ⟨⟨rfl, rfl, rfl, trivial⟩, by rw [qeL]; exact .cons (.cons (.cons (.dead (.dead (.cons .nil))))), rfl⟩ ?_
  intro j hj
  refine cd (fun hlt => ?_) (fun hge => ?_)
  · have hlt' : j < T.length - 1 - j := by (try simp only at hlt); omega
    rcases r with _ | ⟨b, cp, jk⟩
    · have := hR.2; omega
    injection hv with hv1 hv2 hv3
    subst hv1
    have e1 : ((T.length : Int) - 1 - j) = ((T.length - 1 - j : Nat) : Int) := by omega
    refine drm [2, 3] [dead, dead, dead, dead, dead, cl b (boC (qcj T j) ++ jk).toArray TTn] [13, 14, 15] (.t 0 (.t 1 (.t 4 (.t 5 (.t 6 (.t 7 (.t 8 (.t 9 (.t 10 (.t 11 (.t 12 (.n 13 (.n 14 (.n 15 .nil)))))))))))))) qc qe (by kernel_rfl) (.dead (.dead (.dead (.dead (.dead (.cons .nil)))))) ?_
    refine ⟨by omega, by omega, ?_⟩
    refine ld1 5 rfl (v := .bool (T.getD (T.length - 1 - j) false)) (qbD T jk j _ (by omega) (by omega) (by omega) _ e1) ?_
    refine ⟨by omega, by omega, ?_⟩
    refine ld1 5 rfl (v := .bool (T.getD j false)) (qbD T jk j _ (by omega) (by omega) (by omega) _ rfl) ?_
    refine ⟨by omega, by omega, ?_⟩
    refine s1 5 rfl (bo_lt _ jk j (by rw [Qw]; omega) _ rfl) ?_
    refine ⟨by omega, by omega, ?_⟩
    rw [bo_set _ jk j (by rw [Qw]; omega) _ _ rfl]
    refine s1 5 rfl (bo_lt _ jk (T.length - 1 - j) (by rw [List.length_set, Qw]; omega) _ e1) ?_
    rw [bo_set _ jk (T.length - 1 - j) (by rw [List.length_set, Qw]; omega) _ _ e1, qeM T j hlt']
    refine .as ((j + 1 : Nat) : Int) (by simp) (by simp only [mn]; omega) (by simp only [mx]; omega) ?_
    refine .as ((T.length : Int) - 1 - (j + 1 : Nat)) (by omega) (by simp only [mn]; omega) (by simp only [mx]; omega) ?_
    exact ⟨j + 1, by omega, by (try simp only); omega, ⟨⟨rfl, rfl, rfl, trivial⟩, .refl _, rfl⟩⟩
  have hge' : T.length ≤ 2 * j + 1 := by (try simp only at hge); omega
  rw [revI_end T j hge' hj]
  refine bk ?_
  clear hge hge' hj
  refine lp qc (fun y : Nat × Bs × Bs => y.1 ≤ T.length ∧ y.2.2.length = 32 ∧ zZ (T.reverse.drop y.1) (ps.drop y.1) y.2 = zZ T.reverse ps (x, x)) (fun y => ⟨[(4, ptr b4), (8, ptr b8), (10, .slice sa T.length sc), (32, .slice a ps.length c), (33, .int .i64 ps.length), (34, .int .i64 y.1)], [rs (rdS a c ps), cl b4 (Lib.byteCells y.2.2).toArray 39, cl b8 Z32 39, dead, dead, se r (boC T.reverse) TTn], []⟩) (fun y => T.length - y.1) (0, x, x)
   ⟨Nat.zero_le _, hx, rfl⟩ ⟨⟨rfl, rfl, rfl, rfl, rfl, rfl, trivial⟩, .refl _, rfl⟩ ?_
  rintro ⟨k, u0, y⟩ ⟨hk, hy, hI⟩
  simp only at hk hy hI
  refine cd (fun hlt => ?_) (fun hge => ?_)
  · have hlt' : k < T.length := by (try simp only at hlt); omega
    obtain ⟨b, o, rfl, _, _⟩ := had (fun e => by have : ps.length = 0 := (by rw [e]; rfl); omega)
    obtain ⟨p, hp⟩ : ∃ p, ps[k]? = some p := ⟨_, List.getElem?_eq_getElem (by omega)⟩
    have hdr : ps.drop k = p :: ps.drop (k + 1) := by
     rw [List.drop_eq_getElem_cons (by omega)]; congr 1; rw [List.getElem?_eq_getElem (by omega)] at hp; exact Option.some.inj hp
    have hti : k < T.reverse.length := by simpa using hlt'
    obtain ⟨u, hu⟩ : ∃ u, T.reverse.getD k false = u := ⟨_, rfl⟩
    have hdt : T.reverse.drop k = u :: T.reverse.drop (k + 1) := by
     rw [List.drop_eq_getElem_cons hti]; congr 1; rw [← hu, List.getD_eq_getElem?_getD, List.getElem?_eq_getElem hti]; rfl
    rw [hdr, hdt] at hI
    refine ⟨by (try simp only); omega, by (try simp only); omega, ?_⟩
    have hpl : p.length = 32 := h32 p (List.mem_of_getElem? hp)
    have hzp := qx p hpl
    have hzy := qx y hy
    refine .mk (Lib.byteCells p).toArray hzp (fun w1 hs => by rw [qi, qh, Int.toNat_natCast, Nat.mul_comm]; exact RdS.at (hs.res (k := 0) rfl) k p hp) ?_
    intro b12
    refine sN 6 (d := (Lib.byteCells p).toArray) rfl (hzp.trans (by kernel_rfl)) (qD _) ?_ (by rw [hzp]; kernel_rfl)
    rcases r with _ | ⟨br, cr', jk⟩
    · have := hR.2; omega
    injection hv with hv1 hv2 hv3
    subst hv1
    refine ⟨by (try simp only); omega, by (try simp only); omega, ?_⟩
    refine ld1 5 rfl (v := .bool u) (by rw [← hu]; exact bo_at T.reverse jk k hti _ rfl) ?_
    cases u with
    | true =>
     refine ct rfl ?_
     refine ldN 1 rfl hzy ?_
     refine ldN 6 rfl hzp ?_
     refine cv (qaK y p hy hpl) ?_
     have hzn := qx (qU y p) (qI _)
     refine sN 1 (d := (Lib.byteCells (qU y p)).toArray) rfl (hzn.trans hzy.symm) (qD _) ?_ (by rw [hzn]; kernel_rfl)
     refine .as ((k + 1 : Nat) : Int) (by simp) (by simp only [mn]; omega) (by simp only [mx]; omega) ?_
     exact ⟨(k + 1, u0, qU y p), ⟨hlt', qI _, hI⟩, by (try simp only); omega, ⟨⟨rfl, rfl, rfl, rfl, rfl, rfl, trivial⟩, .cons (.cons (.cons (.cons (.cons (.cons .nil))))), rfl⟩⟩
    | false =>
     refine cf rfl ?_
     refine ldN 6 rfl hzp ?_
     refine ldN 1 rfl hzy ?_
     refine cv (qaK p y hpl hy) ?_
     have hzn := qx (qU p y) (qI _)
     refine sN 1 (d := (Lib.byteCells (qU p y)).toArray) rfl (hzn.trans hzy.symm) (qD _) ?_ (by rw [hzn]; kernel_rfl)
     refine .as ((k + 1 : Nat) : Int) (by simp) (by simp only [mn]; omega) (by simp only [mx]; omega) ?_
     exact ⟨(k + 1, qU p u0, qU p y), ⟨hlt', qI _, hI⟩, by (try simp only); omega, ⟨⟨rfl, rfl, rfl, rfl, rfl, rfl, trivial⟩, .cons (.cons (.cons (.cons (.cons (.cons .nil))))), rfl⟩⟩
  · have hge' : T.length ≤ k := by (try simp only at hge); omega
    rw [List.drop_of_length_le (by simpa using hge')] at hI
    change (u0, y) = _ at hI
    have hzy := qx y hy
    refine ldN 1 rfl hzy ?_
    refine sN 2 (d := (Lib.byteCells y).toArray) rfl hzy (qD _) ?_ (by rw [hzy]; kernel_rfl)
    refine ldN 2 rfl hzy ?_
    refine rt ?_
    rw [← hI]; rfl
def qat (x : Bs) (i n : Int) (ps : List Bs) (root : Bs) : Bool := decide (qb2 i n ps = 0) && decide (qe0 x i.toNat n.toNat ps = root)
theorem qdM (x : Bs) (i n : Int) (hx : x.length = 32) (ps : List Bs) (a : Option Addr) (c : Nat) (root : Bs) (hr : root.length = 32) (w : World) (h : RdS w (.slice a ps.length c) ps) :
 Calls Tryz.prog 54 ([qV x, .int .i64 i, .int .i64 n, .slice a ps.length c, qV root] : List Value).toArray w fun e w' => e = .returned (.bool (qat x i n ps root)) ∧ Below w.heap.size w w' := by
 have hzx := qx x hx
 have hzr := qx root hr
 refine qj qc Tryz.func54 rfl Tryz.ntmps54 rfl (St.rdS h) ?_
 intro b5 b9
 refine ldN 1 rfl hzx ?_
 refine cvs (fun w' hs => come_any x i n hx ps a c w' (hs.res (k := 0) rfl)) ?_
 unfold qat comeV
 intro b11
 by_cases he : qb2 i n ps = 0
 · rw [if_pos he, he]
   have hR := comeR_len x i.toNat n.toNat ps hx
   generalize qe0 x i.toNat n.toNat ps = R at *
   have hzR := qx R hR
   refine sN 3 rfl (hzR.trans (by kernel_rfl)) (qD _) ?_ (by rw [hzR]; kernel_rfl)
   repeat (first | refine ct rfl ?_ | refine cf rfl ?_)
   refine ldN 3 rfl hzR ?_
   repeat (first | refine ct rfl ?_ | refine cf rfl ?_)
   refine ldN 2 rfl hzr ?_
   repeat (first | refine ct rfl ?_ | refine cf rfl ?_)
   refine eqS rfl hR hr ?_
   repeat (first | refine ct rfl ?_ | refine cf rfl ?_)
   refine rt ?_
   rw [decide_eq_true (show (0 : Nat) = 0 from rfl), Bool.true_and]
   rfl
 · rw [if_neg he, decide_eq_false he, errVs _ he]
   refine sN 3 rfl rfl rfl ?_ (by kernel_rfl)
   repeat (first | refine ct rfl ?_ | refine cf rfl ?_)
   exact rt rfl
end
end Go.Proofs.YtbgefoamhdgnaaaGreatDoor
section
namespace Go.Sx
open Go Go.RowKit
def noJ (K : Exit → Sy → Prop) : Exit → Sy → Prop := fun e s => match e with
 | .goto _ => False
 | e => K e s
theorem scp {C : Cx} (hT : TabOk C.P C.T) (hF : C.F = none) {c : Code} {K : Exit → Sy → Prop} {s : Sy} (h : cx C c (noJ K) s) : CodeP C (.scope c) K s := by
 refine ⟨fun n a w hf hs => ?_⟩
 have h1 := (ZO hT c _ s h).go n a w hf hs
 have hw : C.fence = Fence.wide := by unfold Cx.fence; rw [hF]
 rw [hw] at h1 ⊢
 refine wpIn_wide.2 (wp_scope_straight ?_)
 refine Code.wp_mono ?_ (wpIn_wide.1 h1)
 intro e a' w' hq
 cases e <;> first | exact hq | (obtain ⟨_, _, _, hk⟩ := hq; exact hk.elim)
end Go.Sx
namespace Go.Proofs.YtbgefoamhdgnaaaGreatDoor
open Go.RowKit Go.Sx
theorem ibs_call (s : ByteArray) (c : Nat) (w : World) : (callFunc 266 #[.string s, .int .u8 (c : Int)]).run Tryz.prog w = .ok (.value (.int .i64 (firstIdx s c.toUInt8))) w := by
 rw [run_callFunc_extern Tryz.func266 (by kernel_rfl) (by kernel_rfl) (by kernel_rfl) (e := Extern.BytealgIndexByte.indexByte) (by kernel_rfl), run_indexByte_string]
 rfl
theorem ib_any (s : ByteArray) (c : UInt8) (w : World) : Calls Tryz.prog 204 ([.string s, .int .u8 c.toNat] : List Value).toArray w fun e w' => e = .returned (.int .i64 (firstIdx s c)) ∧ Below w.heap.size w w' := by
 refine qj qc Tryz.func204 rfl Tryz.ntmps204 rfl (St.start w) ?_
 refine inl (C := ⟨Tryz.prog, tab, 8, [], w, none⟩) qc Tryz.func240 rfl Tryz.ntmps240 rfl ?_
 refine qd9 rfl rfl rfl (fun w hs => ibs_call s c.toNat w) ?_
 exact bk (rt (by show Value.int .i64 (firstIdx s c.toNat.toUInt8) = _; simp))
def sg4 : Bs := [46, 45, 95, 64]
theorem dec_top (s : Bs) (i : Nat) (h : i < s.length) : (Utf8.decode ⟨s.toArray⟩ i).1 < 1114112 := by
 have hb : ∀ x : UInt8, x.toNat < 256 := fun x => UInt8.toNat_lt x
 unfold Utf8.decode Utf8.runeError Utf8.valid
 simp only [Nat.add_zero, get_str s i h]
 have := hb s[i]
 generalize s[i].toNat = n at *
 repeat' split
 all_goals simp only
 all_goals first | omega | (simp only [Bool.and_eq_true, Bool.or_eq_true, decide_eq_true_eq] at *; omega)
theorem enc_hi (r : Nat) (h : 128 ≤ r) : ∃ (pre : Bs) (c : Nat), 1 ≤ pre.length ∧ pre.length ≤ 3 ∧ Utf8.encode (r : Int) = ⟨(pre ++ [UInt8.ofNat (128 + c % 64)]).toArray⟩ := by
 unfold Utf8.encode
 generalize hc : (if Utf8.valid (r : Int) then ((r : Nat) : Int).toNat else Utf8.runeError) = c
 have h2 : ¬ c < 128 := by
  rw [← hc]; split
  · simp; omega
  · decide
 simp only [if_neg h2]
 split
 · exact ⟨[UInt8.ofNat (192 + c / 64)], c, by simp, by simp, rfl⟩
 · split
   · exact ⟨[UInt8.ofNat (224 + c / 4096), UInt8.ofNat (128 + c / 64 % 64)], c, by simp, by simp, rfl⟩
   · exact ⟨[UInt8.ofNat (240 + c / 262144), UInt8.ofNat (128 + c / 4096 % 64), UInt8.ofNat (128 + c / 64 % 64)], c, by simp, by simp, rfl⟩
theorem cvRune (r : Int) (w : World) : (convert 21 9 (.int .i32 r)).run Tryz.prog w = .ok (.string (Utf8.encode r)) w := by kernel_rfl
theorem fi_hi (l : Bs) (hl : ∀ b ∈ l, b.toNat < 128) (c : UInt8) (hc : 128 ≤ c.toNat) : firstIdx ⟨l.toArray⟩ c = -1 := firstIdx_none _ _ fun b hb e => by
 have := hl b (by simpa using hb)
 rw [e] at this; omega
theorem sg4_lo : ∀ b ∈ sg4, b.toNat < 128 := by decide
theorem valid_any (r : Nat) (w : World) : Calls Tryz.prog 263 ([.int .i32 r] : List Value).toArray w fun e w' => e = .returned (.bool (decide (r < 55296) || decide (57343 < r) && decide (r ≤ 1114111))) ∧ Below w.heap.size w w' := by
 have h0 : decide ((0 : Int) ≤ (r : Int)) = true := decide_eq_true (by omega)
 have h0' : (decide ((0 : Int) ≤ (r : Int)) == true) = true := by rw [h0]; rfl
 refine qj qc Tryz.func263 rfl Tryz.ntmps263 rfl (St.start w) ?_
 iterate 2 refine ct h0' ?_
 refine ct h0 ?_
 refine cd (fun h1 => ?_) (fun h1 => ?_)
 · refine rt ?_
   rw [decide_eq_true (show r < 55296 by omega)]; rfl
 · have e1 : decide (r < 55296) = false := decide_eq_false (by omega)
   by_cases h2 : 57343 < r
   · have g2 : decide ((57343 : Int) < (r : Int)) = true := decide_eq_true (by omega)
     have g2' : (decide ((57343 : Int) < (r : Int)) == true) = true := by rw [g2]; rfl
     iterate 2 refine ct g2' ?_
     refine ct g2 ?_
     refine cd (fun h3 => ?_) (fun h3 => ?_)
     · refine rt ?_
       rw [e1, decide_eq_true h2, decide_eq_true (show r ≤ 1114111 by omega)]; rfl
     · refine rt ?_
       rw [e1, decide_eq_false (show ¬ r ≤ 1114111 by omega), Bool.and_false]; rfl
   · have g2 : decide ((57343 : Int) < (r : Int)) = false := decide_eq_false (by omega)
     have g2' : (decide ((57343 : Int) < (r : Int)) == true) = false := by rw [g2]; rfl
     iterate 2 refine cf g2' ?_
     refine cf g2 ?_
     refine cf rfl ?_
     refine rt ?_
     rw [e1, decide_eq_false h2]; rfl
theorem szC (a : Bs) : (⟨a.toArray⟩ : ByteArray).size = a.length := by simp [ByteArray.size]
theorem sg4_at (i : Nat) (h : i < (⟨sg4.toArray⟩ : ByteArray).size) : (⟨sg4.toArray⟩ : ByteArray)[i].toNat < 128 := sg4_lo _ (List.getElem_mem (l := sg4) (n := i) (by rw [szC] at h; exact h))
theorem last_at (pre : Bs) (x : UInt8) (h : pre.length < (⟨(pre ++ [x]).toArray⟩ : ByteArray).size) : (⟨(pre ++ [x]).toArray⟩ : ByteArray)[pre.length] = x := by
 show (pre ++ [x]).toArray[pre.length] = x
 simp
theorem idxr_hi (r : Nat) (hr : 128 ≤ r) (hr2 : r < 1114112) (w : World) : Calls Tryz.prog 239 ([VS sg4, .int .i32 r] : List Value).toArray w fun e w' => e = .returned (.int .i64 (-1)) ∧ Below w.heap.size w w' := by
 have h0 : decide ((0 : Int) ≤ (r : Int)) = true := decide_eq_true (by omega)
 have h0' : (decide ((0 : Int) ≤ (r : Int)) == true) = true := by rw [h0]; rfl
 have h1 : decide ((r : Int) < 128) = false := decide_eq_false (by omega)
 refine qj qc Tryz.func239 rfl Tryz.ntmps239 rfl (St.start w) ?_
 iterate 2 refine ct h0' ?_
 refine ct h0 ?_
 refine cf h1 ?_
 refine cq (fun he => ?_) (fun he => ?_)
 · refine rngS qdi (fun b => ?_)
   refine lp qc (fun i : Nat => i ≤ 4) (fun i => ⟨[(175, ptr b)], [siE b ⟨sg4.toArray⟩ i], []⟩) (fun i => 4 - i) 0 (by decide) ⟨⟨rfl, trivial⟩, .cons .nil, rfl⟩ ?_
   intro i hi
   refine nxtS 0 rfl (fun h => ?_) (fun h => ?_)
   · refine cf rfl ?_
     exact rt rfl
   · have hi4 : i < sg4.length := h
     have hi5 : i < 4 := h
     have hlo := sg4_lo _ (List.getElem_mem hi4)
     rw [dec_lo sg4 i hi4 hlo]
     refine ct rfl ?_
     refine cf (by simp only [beq_eq_false_iff_ne]; omega) ?_
     exact ⟨i + 1, by omega, by omega, ⟨⟨rfl, trivial⟩, .cons .nil, rfl⟩⟩
 · refine cv (valid_any r) ?_
   generalize (decide (r < 55296) || decide (57343 < r) && decide (r ≤ 1114111)) = v
   cases v with
   | false =>
    refine ct rfl ?_
    exact rt rfl
   | true =>
    refine cf rfl ?_
    refine scp qc rfl ?_
    refine semV (fun w _ => cvRune r w) ?_
    obtain ⟨pre, c, p1, p2, hen⟩ := enc_hi r hr
    rw [hen]
    have hx : 128 ≤ (UInt8.ofNat (128 + c % 64)).toNat := by simp; omega
    generalize UInt8.ofNat (128 + c % 64) = x at *
    have hsz : (⟨(pre ++ [x]).toArray⟩ : ByteArray).size = pre.length + 1 := by rw [szC]; simp
    have hla := last_at pre x (by omega)
    refine .as ((pre.length : Nat) : Int) (by rw [hsz]; simp) (by simp only [mn]; omega) (by simp only [mx]; omega) ?_
    refine lp qc (fun _ : Unit => True) (fun _ => ⟨[(0, VS sg4), (7, VS (pre ++ [x])), (8, .int .i64 pre.length), (9, .int .i64 pre.length)], [], []⟩) (fun _ => 0) () trivial ⟨⟨rfl, rfl, rfl, rfl, trivial⟩, .nil, rfl⟩ ?_
    intro _ _
    refine ct (decide_eq_true (by show (pre.length : Int) < 4; omega)) ?_
    refine scp qc rfl ?_
    refine dr [] 99 (.t 0 (.t 1 (.t 2 (.t 3 (.t 4 (.t 5 (.t 6 .nil))))))) qc qe (by kernel_rfl) .nil ?_
    refine ⟨by omega, by rw [Int.toNat_natCast]; show pre.length < 4; omega, ?_⟩
    refine ⟨by omega, by rw [Int.toNat_natCast, hsz]; omega, ?_⟩
    refine cne (fun _ => ?_) (fun hq => ?_)
    · refine dr [] 99 (.t 0 (.t 1 (.t 2 (.t 3 (.t 4 (.t 5 (.t 6 (.t 7 (.t 8 .nil))))))))) qc qe (by kernel_rfl) .nil ?_
      refine .as ((pre.length + 1 : Nat) : Int) (by simp) (by simp only [mn]; omega) (by simp only [mx]; omega) ?_
      refine slFF (s := sg4) (pre.length + 1) (by show pre.length + 1 ≤ 4; omega) rfl ?_
      refine ⟨by omega, by rw [Int.toNat_natCast, hsz]; omega, ?_⟩
      simp only [Int.toNat_natCast, hla]
      refine cz (fun w => ib_any ⟨(sg4.drop (pre.length + 1)).toArray⟩ x w) ?_
      rw [fi_hi _ (fun b hb => sg4_lo b (List.mem_of_mem_drop hb)) x hx]
      refine ct rfl ?_
      exact rt rfl
    · exfalso
      simp only [Int.toNat_natCast, hla] at hq
      have := sg4_at pre.length (by show pre.length < 4; omega)
      omega
end Go.Proofs.YtbgefoamhdgnaaaGreatDoor
end
namespace Go.Proofs.YtbgefoamhdgnaaaGreatDoor
section
open Go.RowKit Go.Sx
def fourB (c : Nat) : Bool := decide (c = 46) || decide (c = 45) || decide (c = 95) || decide (c = 64)
theorem four_tab : ∀ c, c < 128 → decide (firstIdx ⟨sg4.toArray⟩ (UInt8.ofNat c) ≥ 0) = fourB c := by decide +kernel
theorem idxr_lo (c : Nat) (hc : c < 128) (w : World) : Calls Tryz.prog 239 ([VS sg4, .int .i32 c] : List Value).toArray w fun e w' => e = .returned (.int .i64 (firstIdx ⟨sg4.toArray⟩ (UInt8.ofNat c))) ∧ Below w.heap.size w w' := by
 have h0 : decide ((0 : Int) ≤ (c : Int)) = true := decide_eq_true (by omega)
 have h0' : (decide ((0 : Int) ≤ (c : Int)) == true) = true := by rw [h0]; rfl
 have h1 : decide ((c : Int) < 128) = true := decide_eq_true (by omega)
 refine qj qc Tryz.func239 rfl Tryz.ntmps239 rfl (St.start w) ?_
 iterate 2 refine ct h0' ?_
 refine ct h0 ?_
 refine ct h1 ?_
 refine .as (((UInt8.ofNat c).toNat : Nat) : Int) (by simp; omega) (by simp only [mn]; omega) (by have := UInt8.toNat_lt (UInt8.ofNat c); simp only [mx]; omega) ?_
 refine cv (fun w => ib_any ⟨sg4.toArray⟩ (UInt8.ofNat c) w) ?_
 exact rt rfl
theorem qcI (c : Nat) (hc : c < 1114112) (w : World) : Calls Tryz.prog 203 ([VS sg4, .int .i32 c] : List Value).toArray w fun e w' => e = .returned (.bool (fourB c)) ∧ Below w.heap.size w w' := by
 refine qj qc Tryz.func203 rfl Tryz.ntmps203 rfl (St.start w) ?_
 by_cases h : c < 128
 · refine cv (idxr_lo c h) ?_
   exact rt (congrArg Value.bool (four_tab c h))
 · refine cv (idxr_hi c (by omega) hc) ?_
   refine rt (congrArg Value.bool ?_)
   unfold fourB
   rw [decide_eq_false (show ¬ c = 46 by omega), decide_eq_false (show ¬ c = 45 by omega), decide_eq_false (show ¬ c = 95 by omega), decide_eq_false (show ¬ c = 64 by omega)]
   rfl
theorem odd_any (c : Nat) (hc : c < 1114112) (w : World) : Calls Tryz.prog 202 ([.int .i32 c] : List Value).toArray w fun e w' => e = .returned (.bool (qdR c)) ∧ Below w.heap.size w w' := by
 by_cases hl : 97 ≤ c ∧ c ≤ 122
 · have := qdQ c hl.1 hl.2 w
   rwa [show qdR c = false by unfold qdR; rw [decide_eq_true hl]; rfl]
 refine qj qc Tryz.func202 rfl Tryz.ntmps202 rfl (St.start w) ?_
 by_cases hd : 48 ≤ c ∧ c ≤ 57
 · have ho : qdR c = false := by unfold qdR; rw [decide_eq_true hd, Bool.or_true]; rfl
   rw [ho]
   have a1 : decide ((c : Int) < 97) = true := decide_eq_true (by omega)
   have a2 : decide ((c : Int) > 122) = false := decide_eq_false (by omega)
   have a3 : decide ((c : Int) < 48) = false := decide_eq_false (by omega)
   have a4 : decide ((c : Int) > 57) = false := decide_eq_false (by omega)
   refine cf (by first | rfl | (rw [a1]; rfl)) ?_
   refine cf (by first | rfl | (rw [a1]; rfl)) ?_
   refine ct (by first | rfl | exact a1) ?_
   refine ct (by first | rfl | (rw [a1]; rfl)) ?_
   refine ct (by first | rfl | (rw [a1]; rfl)) ?_
   refine ct (by first | rfl | (rw [a1]; rfl)) ?_
   refine ct (by first | rfl | (rw [a3]; rfl)) ?_
   refine ct (by first | rfl | (rw [a3]; rfl)) ?_
   refine ct (by first | rfl | (rw [a1]; rfl)) ?_
   refine cf (by first | rfl | exact a3) ?_
   refine ct (by first | rfl | exact a1) ?_
   iterate 3 refine cf (by rw [a4]; rfl) ?_
   refine cf a4 ?_
   exact rt rfl
 · have ho : qdR c = !fourB c := by unfold qdR fourB; rw [decide_eq_false hl, decide_eq_false hd]; rfl
   rw [ho]
   rcases (show c < 48 ∨ (57 < c ∧ c < 97) ∨ 122 < c by omega) with h | h | h
   · have a1 : decide ((c : Int) < 97) = true := decide_eq_true (by omega)
     have a2 : decide ((c : Int) > 122) = false := decide_eq_false (by omega)
     have a3 : decide ((c : Int) < 48) = true := decide_eq_true (by omega)
     have a4 : decide ((c : Int) > 57) = false := decide_eq_false (by omega)
     refine cf (by first | rfl | (rw [a1]; rfl)) ?_
     refine cf (by first | rfl | (rw [a1]; rfl)) ?_
     refine ct (by first | rfl | exact a1) ?_
     refine ct (by first | rfl | (rw [a1]; rfl)) ?_
     refine ct (by first | rfl | (rw [a1]; rfl)) ?_
     refine ct (by first | rfl | (rw [a1]; rfl)) ?_
     refine cf (by first | rfl | (rw [a3]; rfl)) ?_
     refine cf (by first | rfl | (rw [a3]; rfl)) ?_
     refine ct (by first | rfl | (rw [a1]; rfl)) ?_
     refine ct (by first | rfl | exact a3) ?_
     refine ct (by first | rfl | exact a1) ?_
     refine ct (by first | rfl | (rw [a3]; rfl)) ?_
     refine ct (by first | rfl | (rw [a3]; rfl)) ?_
     refine cv (qcI c hc) ?_
     refine ct (by first | rfl | (rw [a3]; rfl)) ?_
     refine ct (by first | rfl | exact a3) ?_
     exact rt rfl
   · have a1 : decide ((c : Int) < 97) = true := decide_eq_true (by omega)
     have a2 : decide ((c : Int) > 122) = false := decide_eq_false (by omega)
     have a3 : decide ((c : Int) < 48) = false := decide_eq_false (by omega)
     have a4 : decide ((c : Int) > 57) = true := decide_eq_true (by omega)
     refine cf (by first | rfl | (rw [a1]; rfl)) ?_
     refine cf (by first | rfl | (rw [a1]; rfl)) ?_
     refine ct (by first | rfl | exact a1) ?_
     refine ct (by first | rfl | (rw [a1]; rfl)) ?_
     refine ct (by first | rfl | (rw [a1]; rfl)) ?_
     refine ct (by first | rfl | (rw [a1]; rfl)) ?_
     refine ct (by first | rfl | (rw [a3]; rfl)) ?_
     refine ct (by first | rfl | (rw [a3]; rfl)) ?_
     refine ct (by first | rfl | (rw [a1]; rfl)) ?_
     refine cf (by first | rfl | exact a3) ?_
     refine ct (by first | rfl | exact a1) ?_
     refine ct (by first | rfl | (rw [a4]; rfl)) ?_
     refine ct (by first | rfl | (rw [a4]; rfl)) ?_
     refine cv (qcI c hc) ?_
     refine ct (by first | rfl | (rw [a4]; rfl)) ?_
     refine ct (by first | rfl | exact a4) ?_
     exact rt rfl
   · have a1 : decide ((c : Int) < 97) = false := decide_eq_false (by omega)
     have a2 : decide ((c : Int) > 122) = true := decide_eq_true (by omega)
     have a3 : decide ((c : Int) < 48) = false := decide_eq_false (by omega)
     have a4 : decide ((c : Int) > 57) = true := decide_eq_true (by omega)
     refine ct (by first | rfl | (rw [a1]; rfl)) ?_
     refine ct (by first | rfl | (rw [a1]; rfl)) ?_
     refine cf (by first | rfl | exact a1) ?_
     refine ct (by first | rfl | (rw [a2]; rfl)) ?_
     refine ct (by first | rfl | (rw [a2]; rfl)) ?_
     refine ct (by first | rfl | (rw [a2]; rfl)) ?_
     refine ct (by first | rfl | (rw [a3]; rfl)) ?_
     refine ct (by first | rfl | (rw [a3]; rfl)) ?_
     refine ct (by first | rfl | (rw [a2]; rfl)) ?_
     refine cf (by first | rfl | exact a3) ?_
     refine ct (by first | rfl | exact a2) ?_
     refine ct (by first | rfl | (rw [a4]; rfl)) ?_
     refine ct (by first | rfl | (rw [a4]; rfl)) ?_
     refine cv (qcI c hc) ?_
     refine ct (by first | rfl | (rw [a4]; rfl)) ?_
     refine ct (by first | rfl | exact a4) ?_
     exact rt rfl
theorem cfuncN_any (s : Bs) (w : World) : Calls Tryz.prog 195 ([VS s, oddF] : List Value).toArray w fun e w' => e = .returned (.bool (s.any fun c => qdR c.toNat)) ∧ Below w.heap.size w w' :=
 qe2 s qdR (fun c hc => by unfold qdR; rw [decide_eq_false (by omega), decide_eq_false (by omega), decide_eq_false (by omega), decide_eq_false (by omega), decide_eq_false (by omega), decide_eq_false (by omega)]; rfl) (fun i hi w => odd_any _ (dec_top s i hi) w) w
theorem qeQ (s : Bs) (w : World) : Calls Tryz.prog 146 ([VS s] : List Value).toArray w fun e w' => e = .returned (.bool (z8 s)) ∧ Below w.heap.size w w' := by
 refine qj qc Tryz.func146 rfl Tryz.ntmps146 rfl (St.start w) ?_
 have e1 : (!((ByteArray.mk s.toArray).toList == (ByteArray.mk #[]).toList)) = decide (1 ≤ s.length) := by
  rw [show (#[] : Array UInt8) = ([] : Bs).toArray from rfl, qaW]
  cases s <;> simp
 have e2 : decide (((⟨s.toArray⟩ : ByteArray).size : Int) ≤ 64) = decide (s.length ≤ 64) := by rw [szC]; exact decide_eq_decide.2 (by omega)
 unfold z8
 by_cases h1 : 1 ≤ s.length
 · rw [decide_eq_true h1] at e1 ⊢
   iterate 3 refine ct (by rw [e1]; rfl) ?_
   refine ct e1 ?_
   by_cases h2 : s.length ≤ 64
   · rw [decide_eq_true h2] at e2 ⊢
     iterate 3 refine ct (by rw [e2]; rfl) ?_
     refine cv (cfuncN_any s) ?_
     refine ct (by rw [e2]; rfl) ?_
     refine ct e2 ?_
     exact rt rfl
   · rw [decide_eq_false h2] at e2 ⊢
     iterate 4 refine cf (by rw [e2]; rfl) ?_
     refine cf e2 ?_
     exact rt rfl
 · rw [decide_eq_false h1] at e1 ⊢
   iterate 3 refine cf (by rw [e1]; rfl) ?_
   refine cf e1 ?_
   iterate 4 refine cf rfl ?_
   refine cf rfl ?_
   exact rt rfl
theorem qdT (s : Bs) (h : z8 s = true) : Zk s := fun w => by have := qeQ s w; rwa [h] at this
theorem own_gen (s : Bs) (g : Value) (w : World) :
 Calls Tryz.prog 101 ([.agg (ZS 4 3 s g)] : List Value).toArray w fun e w' => e = .returned (.bool (z8 s)) ∧ Below w.heap.size w w' := by
 refine qj qc Tryz.func101 rfl Tryz.ntmps101 rfl (St.start w) ?_
 intro b
 repeat (first | refine ct rfl ?_ | refine cf rfl ?_ | refine ld1 0 rfl rfl ?_ | refine cv (qeQ s) ?_ | exact rt rfl | refine bk ?_)
theorem check_no (s : Bs) (hn : z8 s = false) (g : Value) (w : World) : Calls Tryz.prog 72 ([.agg (ZS 4 3 s g)] : List Value).toArray w fun e w' => e = .returned (ErrN 11) ∧ Below w.heap.size w w' := by
 refine qj qc Tryz.func72 rfl Tryz.ntmps72 rfl (St.start w) ?_
 have ho := fun w => own_gen s g w
 rw [hn] at ho
 intro b1
 refine dr [cl b1 (ZS 4 3 s g) TEn] 99 (.t 0 (.n 1 (.t 2 (.t 3 (.t 4 (.t 5 (.n 6 (.t 7 (.t 8 (.t 9 (.t 10 (.t 12 (.t 13 (.t 14 (.t 15 (.t 16 (.n 11 (.n 17 (.t 18 (.t 19 .nil)))))))))))))))))))) qc qe (by kernel_rfl) (.cons .nil) ?_
 refine ldN 0 rfl rfl ?_
 refine cv ho ?_
 refine ⟨.cons .nil, ?_⟩
 repeat (first | refine ct rfl ?_ | refine cf rfl ?_ | exact rt rfl)
theorem keysIs_gen (s : Bs) (w : World) : Calls Tryz.prog 41 ([VS (idP ++ s)] : List Value).toArray w fun e w' => e = .returned (.bool (z8 s)) ∧ Below w.heap.size w w' := by
 cases hn : z8 s with
 | true => exact qbp s (qdT s hn) w
 | false =>
  refine qj qc Tryz.func41 rfl Tryz.ntmps41 rfl (St.start w) ?_
  refine cv (cutp_any idP s) ?_
  refine ct rfl ?_
  refine bu (c := QI) (by kernel_rfl) ?_
  refine .mk QI TSg (fun w => bsSg w) (fun bn => ?_)
  refine bu (c := ZS 4 3 s (sg1 bn 1)) (by kernel_rfl) ?_
  intro b5
  refine sN 1 rfl rfl rfl ?_ (by kernel_rfl)
  refine ldN 1 rfl rfl ?_
  refine cv (check_no s hn _) ?_
  exact rt rfl
def zE (h : Hd) : Bool := z8 h.o && decide (0 ≤ h.size) && decide (h.size ≤ 1048576) && decide (0 ≤ h.time) && decide (h.time ≤ 9007199254740991)
theorem qeA (h : Hd) (hl : h.o.length ≤ 1000000) (w : World) :
 Calls Tryz.prog 115 ([.agg (hdC h)] : List Value).toArray w fun e w' => e = .returned (.bool (zE h)) ∧ Below w.heap.size w w' := by
 have hk := fun w => keysIs_gen h.o w
 by_cases hg : zE h = true
 · rw [hg]
   simp only [zE, Bool.and_eq_true, decide_eq_true_eq] at hg
   exact qeB h hl (qdT _ hg.1.1.1.1) hg.1.1.1.2 hg.1.1.2 hg.1.2 hg.2 w
 · rw [show zE h = false by simpa using hg]
   refine qj qc Tryz.func115 rfl Tryz.ntmps115 rfl (St.start w) ?_
   intro b1
   refine ld1 0 rfl rfl ?_
   refine cv (qcv h.o hl) ?_
   cases hn : z8 h.o with
   | false =>
    rw [hn] at hk
    refine cv hk ?_
    iterate 4
     iterate 3 refine cf rfl ?_
     refine cf rfl ?_
    exact rt rfl
   | true =>
    rw [hn] at hk
    refine cv hk ?_
    simp only [zE, Bool.and_eq_true, decide_eq_true_eq, hn, true_and] at hg
    by_cases c1 : 0 ≤ h.size
    · by_cases c2 : h.size ≤ 1048576
      · by_cases c3 : 0 ≤ h.time
        · have e1 : decide (h.size ≥ 0) = true := decide_eq_true (by omega)
          have e2 : decide (h.size ≤ 1048576) = true := decide_eq_true (by omega)
          have e3 : decide (h.time ≥ 0) = true := decide_eq_true (by omega)
          have e4 : decide (h.time ≤ 9007199254740991) = false := decide_eq_false (by omega)
          refine ct (by rfl) ?_
          refine ct (by rfl) ?_
          refine ld1 0 rfl rfl ?_
          refine ct (by rfl) ?_
          refine ct (by rfl) ?_
          refine ct (by first | rfl | (rw [e1]; rfl)) ?_
          refine ct (by first | rfl | (rw [e1]; rfl)) ?_
          refine ld1 0 rfl rfl ?_
          refine ct (by first | rfl | (rw [e1]; rfl)) ?_
          refine ct (by first | rfl | exact e1) ?_
          refine ct (by first | rfl | (rw [e2]; rfl)) ?_
          refine ct (by first | rfl | (rw [e2]; rfl)) ?_
          refine ld1 0 rfl rfl ?_
          refine ct (by first | rfl | (rw [e2]; rfl)) ?_
          refine ct (by first | rfl | exact e2) ?_
          refine ct (by first | rfl | (rw [e3]; rfl)) ?_
          refine ct (by first | rfl | (rw [e3]; rfl)) ?_
          refine ld1 0 rfl rfl ?_
          refine ct (by first | rfl | (rw [e3]; rfl)) ?_
          refine ct (by first | rfl | exact e3) ?_
          exact rt (congrArg Value.bool e4)
        · have e1 : decide (h.size ≥ 0) = true := decide_eq_true (by omega)
          have e2 : decide (h.size ≤ 1048576) = true := decide_eq_true (by omega)
          have e3 : decide (h.time ≥ 0) = false := decide_eq_false (by omega)
          refine ct (by rfl) ?_
          refine ct (by rfl) ?_
          refine ld1 0 rfl rfl ?_
          refine ct (by rfl) ?_
          refine ct (by rfl) ?_
          refine ct (by first | rfl | (rw [e1]; rfl)) ?_
          refine ct (by first | rfl | (rw [e1]; rfl)) ?_
          refine ld1 0 rfl rfl ?_
          refine ct (by first | rfl | (rw [e1]; rfl)) ?_
          refine ct (by first | rfl | exact e1) ?_
          refine ct (by first | rfl | (rw [e2]; rfl)) ?_
          refine ct (by first | rfl | (rw [e2]; rfl)) ?_
          refine ld1 0 rfl rfl ?_
          refine ct (by first | rfl | (rw [e2]; rfl)) ?_
          refine ct (by first | rfl | exact e2) ?_
          refine cf (by first | rfl | (rw [e3]; rfl)) ?_
          refine cf (by first | rfl | (rw [e3]; rfl)) ?_
          refine cf (by first | rfl | (rw [e3]; rfl)) ?_
          refine cf (by first | rfl | exact e3) ?_
          exact rt rfl
      · have e1 : decide (h.size ≥ 0) = true := decide_eq_true (by omega)
        have e2 : decide (h.size ≤ 1048576) = false := decide_eq_false (by omega)
        refine ct (by rfl) ?_
        refine ct (by rfl) ?_
        refine ld1 0 rfl rfl ?_
        refine ct (by rfl) ?_
        refine ct (by rfl) ?_
        refine ct (by first | rfl | (rw [e1]; rfl)) ?_
        refine ct (by first | rfl | (rw [e1]; rfl)) ?_
        refine ld1 0 rfl rfl ?_
        refine ct (by first | rfl | (rw [e1]; rfl)) ?_
        refine ct (by first | rfl | exact e1) ?_
        refine cf (by first | rfl | (rw [e2]; rfl)) ?_
        refine cf (by first | rfl | (rw [e2]; rfl)) ?_
        refine cf (by first | rfl | (rw [e2]; rfl)) ?_
        refine cf (by first | rfl | exact e2) ?_
        refine cf (by rfl) ?_
        refine cf (by rfl) ?_
        refine cf (by rfl) ?_
        refine cf (by rfl) ?_
        exact rt rfl
    · have e1 : decide (h.size ≥ 0) = false := decide_eq_false (by omega)
      refine ct (by rfl) ?_
      refine ct (by rfl) ?_
      refine ld1 0 rfl rfl ?_
      refine ct (by rfl) ?_
      refine ct (by rfl) ?_
      refine cf (by first | rfl | (rw [e1]; rfl)) ?_
      refine cf (by first | rfl | (rw [e1]; rfl)) ?_
      refine cf (by first | rfl | (rw [e1]; rfl)) ?_
      refine cf (by first | rfl | exact e1) ?_
      refine cf (by rfl) ?_
      refine cf (by rfl) ?_
      refine cf (by rfl) ?_
      refine cf (by rfl) ?_
      refine cf (by rfl) ?_
      refine cf (by rfl) ?_
      refine cf (by rfl) ?_
      refine cf (by rfl) ?_
      exact rt rfl
end
section
open Go.RowKit Go.Sx
def Laid (w : World) : Prop := Lib.TabIs Tryz.prog w "internal/strconv.uint64pow10" .u64 Lib.pow10Tab
theorem pow_at : ∃ g, Tryz.prog.globalNamed "internal/strconv.uint64pow10" = some g := Option.isSome_iff_exists.1 (by kernel_rfl)
theorem Laid.below {w w' : World} {B : Nat} (h : Laid w) (hB : w.heap.size ≤ B) (hb : Below B w w') : Laid w' := by
 obtain ⟨g, hg⟩ := pow_at
 have hlt : g < w.heap.size := World.block_lt_of_cell? w _ (Lib.TabIs.cell h hg 0 (by decide))
 unfold Laid Lib.TabIs World.var? at *
 rw [hg] at h ⊢
 simp only [Option.bind_some] at h ⊢
 rw [hb.block _ (by omega)]
 exact h
theorem itoa_any (n : Int) (h0 : -9223372036854775808 ≤ n) (h1 : n ≤ 9223372036854775807) (w : World) (hl : Laid w) : Calls Tryz.prog 116 ([.int .i64 n] : List Value).toArray w fun e w' => e = .returned (VS (Lib.itoa n)) ∧ Below w.heap.size w w' := by
 refine (Tryz.strconv_Itoa n h0 h1 w hl).mono ?_
 rintro e w' ⟨he, k, os, rfl⟩
 refine ⟨he, rfl, rfl, rfl, by simp [Sort.grow, World.drewN], fun j hj => ?_⟩
 simp [Sort.grow, World.drewN, Array.getElem?_append, hj]
def zC (h : Hd) : Bs := Lib.itoa h.size ++ [32] ++ Lib.itoa h.time
def zP (h : Hd) (p : Nat) (o : Bs) : Nat := if zE h then (if h.o = o then (if qan p h.sig (qO h (zC h)) then 0 else 7) else 11) else 1
theorem qcA {h : Hd} (hg : zE h = true) : z8 h.o = true ∧ 0 ≤ h.size ∧ h.size ≤ 1048576 ∧ 0 ≤ h.time ∧ h.time ≤ 9007199254740991 := by
 simp only [zE, Bool.and_eq_true, decide_eq_true_eq] at hg
 exact ⟨hg.1.1.1.1, hg.1.1.1.2, hg.1.1.2, hg.1.2, hg.2⟩
theorem body_no (h : Hd) (hk : qag h) (hl : h.o.length ≤ 1000) (hg : zE h = false) (w : World) :
 Calls Tryz.prog 83 ([.agg (hdC h)] : List Value).toArray w fun e w' => e = .returned (.tuple #[.slice none 0 0, ErrN 1]) ∧ Below w.heap.size w w' := by
 have hs := fun w => qeA h (by omega) w
 rw [hg] at hs
 refine qj qc Tryz.func83 rfl Tryz.ntmps83 rfl (St.start w) ?_
 intro b1
 refine ldN 0 rfl (qT h hk.1 hk.2) ?_
 refine cv hs ?_
 refine ct rfl ?_
 exact rt rfl
theorem body_yes (h : Hd) (hk : qag h) (hl : h.o.length ≤ 1000) (hg : zE h = true) (w : World) (hw : Laid w) :
 Calls Tryz.prog 83 ([.agg (hdC h)] : List Value).toArray w fun e w' => ∃ x : Nat × Nat, True ∧ e = .returned (.tuple #[.slice (some ⟨x.1, 0, none⟩) (qO h (zC h)).length x.2, .nilIface]) ∧ St [] w w' [qdz x.1 x.2 (qO h (zC h))] := by
 obtain ⟨hn, h0, h1, h2, h3⟩ := qcA hg
 have l1 := Lib.itoa_length_le h.size (by omega) (by omega)
 have l2 := Lib.itoa_length_le h.time (by omega) (by omega)
 exact body_any h (Lib.itoa h.size) (Lib.itoa h.time) hk.1 hk.2 hl (qdT _ hn) h0 h1 h2 h3 (by omega) (by omega) w (fun w' hb => itoa_any _ (by omega) (by omega) w' (hw.below (Nat.le_refl _) hb)) (fun w' hb => itoa_any _ (by omega) (by omega) w' (hw.below (Nat.le_refl _) hb))
theorem nums_len {h : Hd} (hg : zE h = true) : (zC h).length ≤ 300 := by
 obtain ⟨hn, h0, h1, h2, h3⟩ := qcA hg
 have l1 := Lib.itoa_length_le h.size (by omega) (by omega)
 have l2 := Lib.itoa_length_le h.time (by omega) (by omega)
 simp only [zC, List.length_append, List.length_cons, List.length_nil]; omega
theorem qdS (h : Hd) (p : Nat) (o : Bs) (hp : p < 115792089237316195423570985008687907853269984665640564039457584007913129639936) (hk : qag h) (hl : h.o.length ≤ 1000) (w : World) (hw : Laid w) :
 Calls Tryz.prog 47 ([.agg (hdC h), .agg (k32 p), VS o] : List Value).toArray w fun e w' => e = .returned (Q7 (zP h p o)) ∧ Below w.heap.size w w' := by
 have hsz := qT h hk.1 hk.2
 refine qj qc Tryz.func47 rfl Tryz.ntmps47 rfl (St.start w) ?_
 intro b3 b4
 refine ldN 0 rfl hsz ?_
 unfold zP
 cases hg : zE h with
 | false =>
  refine cv (body_no h hk hl hg) ?_
  refine ct rfl ?_
  exact rt rfl
 | true =>
  refine cMs (v := fun x : Nat × Nat => .tuple #[.slice (some ⟨x.1, 0, none⟩) (qO h (zC h)).length x.2, .nilIface]) (es := fun x => [qdz x.1 x.2 (qO h (zC h))]) (fun w' hs => body_yes h hk hl hg w' (hw.below (Nat.le_refl _) hs.below)) (fun x _ e he k hk => by
   obtain rfl : e = qdz x.1 x.2 (qO h (zC h)) := by simpa using he
   simpa using hk) (fun x _ => ?_)
  refine cf rfl ?_
  refine ld1 0 rfl rfl ?_
  have hoo : (!(ByteArray.mk h.o.toArray).toList == (ByteArray.mk o.toArray).toList) = !decide (h.o = o) := by rw [qaW]
  rw [if_pos rfl]
  by_cases ho : h.o = o
  · rw [decide_eq_true ho] at hoo
    rw [if_pos ho]
    refine cf hoo ?_
    refine ldN 1 rfl (qf _) ?_
    refine ldP 0 (d := (Lib.byteCells h.sig).toArray) rfl (by simp [Lib.byteCells_length, hk.2]) (hd_sig h hk.1 hk.2) ?_
    refine .mk #[.slice (some ⟨x.1, 0, none⟩) (qO h (zC h)).length x.2] 48 (fun w => bss1 _ _ _ w) (fun bn => ?_)
    have hbl := qcr h (zC h) hk.1 hl (nums_len hg)
    refine cvs (v := .bool (qan p h.sig (qO h (zC h)))) (fun w' hs => ?_) ?_
    · have hrd : Rd w' (.slice (some ⟨x.1, 0, none⟩) (qO h (zC h)).length x.2) (Lib.byteCells (qO h (zC h))) := Rd.ent hs 2 rfl (by rw [Lib.byteCells_length]) (by have := qcJ (qO h (zC h)) x.2; rw [szB] at this; exact this)
      have hP := Parts.made (bs := qO h (zC h)) hs 3 (vs := [.slice (some ⟨x.1, 0, none⟩) (qO h (zC h)).length x.2]) [Lib.byteCells (qO h (zC h))] 1 rfl rfl rfl (List.append_nil _) (fun i v xs hv hx => by
       cases i with
       | zero => injection hv with hv; injection hx with hx; subst hv; subst hx; exact hrd
       | succ i => simp at hv) (by simp)
      exact Qm p hp h.sig hk.2 _ (qO h (zC h)) w' hP (by omega)
    cases qan p h.sig (qO h (zC h)) with
    | true =>
     refine cf rfl ?_
     exact rt rfl
    | false =>
     refine ct rfl ?_
     exact rt rfl
  · rw [decide_eq_false ho] at hoo
    rw [if_neg ho]
    refine ct hoo ?_
    exact rt rfl
theorem right_gen (S : AuS) (h : Hd) (hp : S.p < 115792089237316195423570985008687907853269984665640564039457584007913129639936) (hk : qag h) (hl : h.o.length ≤ 1000) (w : World) (hw : Laid w) : ZW S h (zP h S.p S.o) w := fun w' hb =>
 qdS h S.p S.o hp hk hl w' (hw.below (Nat.le_refl _) hb)
end
section
open Go.RowKit Go.Sx
structure Op23 where
 kind : Int
 hd : Hd
 rh : Hd
 ri : Int
 rl : Bs
 ra : Option Addr
 rn : Nat
 rc : Nat
 a : Option Addr
 c : Nat
 ps : List Bs
 ta : Option Addr
 tn : Nat
 tc : Nat
 at' : Int
instance : Inhabited Hd := ⟨⟨[], 0, 0, [], []⟩⟩
instance : Inhabited Op23 := ⟨⟨0, default, default, 0, [], none, 0, 0, none, 0, [], none, 0, 0, 0⟩⟩
end
section
open Go.RowKit Go.Sx
def qaD (S : AuS) (x : Hd) (ps : List Bs) : Nat := S.takeB x ps.length (zP x S.p S.o) (match S.last with | some l => qab l.size l.root x.size x.root ps | none => true)
def TkS (S : AuS) (x : Hd) (k : Nat) (S' : AuS) : Prop := if k = 0 then ∃ b, S' = S.put x b else S' = S
theorem rightE_nums {h : Hd} {p : Nat} {o : Bs} (h0 : zP h p o = 0) : 0 ≤ h.size ∧ h.size ≤ 1048576 := by
 unfold zP at h0
 by_cases hg : zE h = true
 · obtain ⟨_, h1, h2, _⟩ := qcA hg; exact ⟨h1, h2⟩
 · rw [if_neg hg] at h0; cases h0
theorem qcd (S : AuS) (x : Hd) (ps : List Bs) (a : Option Addr) (c : Nat) (hp : S.p < 115792089237316195423570985008687907853269984665640564039457584007913129639936) (hx : qag x) (hl : x.o.length ≤ 1000) (w : World) (hw : Laid w) (h : AuP S w) (hr : RdS w (.slice a ps.length c) ps) :
 Calls Tryz.prog 15 ([ptr S.bA, .agg (hdC x), .slice a ps.length c] : List Value).toArray w fun e w' => ∃ S', TkS S x (qaD S x ps) S' ∧ e = .returned (Q7 (qaD S x ps)) ∧ Turns w w' (auR S) (auR S') := by
 have hR := right_gen S x hp hx hl w hw
 have bad : ∀ k, k ≠ 0 → qaD S x ps = k → (Calls Tryz.prog 15 ([ptr S.bA, .agg (hdC x), .slice a ps.length c] : List Value).toArray w fun e w' => e = .returned (Q7 k) ∧ Turns w w' (auR S) (auR S)) → Calls Tryz.prog 15 ([ptr S.bA, .agg (hdC x), .slice a ps.length c] : List Value).toArray w fun e w' => ∃ S', TkS S x (qaD S x ps) S' ∧ e = .returned (Q7 (qaD S x ps)) ∧ Turns w w' (auR S) (auR S') := by
  intro k hk he hc
  rw [he]
  exact hc.mono fun e w' ⟨h1, h2⟩ => ⟨S, by unfold TkS; rw [if_neg hk], h1, h2⟩
 have good : qaD S x ps = 0 → (Calls Tryz.prog 15 ([ptr S.bA, .agg (hdC x), .slice a ps.length c] : List Value).toArray w fun e w' => e = .returned .nilIface ∧ ∃ b, Turns w w' (auR S) (auR (S.put x b))) → Calls Tryz.prog 15 ([ptr S.bA, .agg (hdC x), .slice a ps.length c] : List Value).toArray w fun e w' => ∃ S', TkS S x (qaD S x ps) S' ∧ e = .returned (Q7 (qaD S x ps)) ∧ Turns w w' (auR S) (auR S') := by
  intro he hc
  rw [he]
  exact hc.mono fun e w' ⟨h1, b, h2⟩ => ⟨S.put x b, by unfold TkS; rw [if_pos rfl]; exact ⟨b, rfl⟩, h1, h2⟩
 obtain ⟨r, hr0⟩ : ∃ r, r = zP x S.p S.o := ⟨_, rfl⟩
 rw [← hr0] at hR
 have ht : qaD S x ps = S.takeB x ps.length r (match S.last with | some l => qab l.size l.root x.size x.root ps | none => true) := by rw [hr0]; rfl
 unfold AuS.takeB at ht
 by_cases h1 : r = 0
 case neg =>
  rw [if_pos h1] at ht
  exact bad r h1 ht (take_bad S x a _ c r hx w h hR h1)
 have hz := rightE_nums (hr0.symm.trans h1)
 rw [if_neg (by omega)] at ht
 cases hS : S.last with
 | none =>
  rw [hS] at ht
  simp only at ht
  by_cases hn : 0 < ps.length
  · rw [if_pos hn] at ht
    exact bad 13 (by decide) ht (take_first S x a _ c r hS hx w h hR h1 hn)
  · rw [if_neg hn] at ht
    exact good ht (take_one S x a _ c r hS hx w h hR h1 (by omega) hz)
 | some l =>
  rw [hS] at ht
  simp only at ht
  by_cases h2 : x.size < l.size
  · rw [if_pos (.inl h2)] at ht
    exact bad 2 (by decide) ht (take_size S x a _ c r l hS hx w h hR h1 h2)
  by_cases h3 : x.time < l.time
  · rw [if_pos (.inr h3)] at ht
    exact bad 2 (by decide) ht (take_time S x a _ c r l hS hx w h hR h1 (by omega) h3)
  rw [if_neg (by omega)] at ht
  have hG : ∀ g, qab l.size l.root x.size x.root ps = g → GrowsC l x (.slice a ps.length c) g w := fun g hg w' hb => by
   rw [← hg]
   exact qeX l.size l.root x.size x.root (h.hk l hS).1 hx.1 ps a c w' (hr.below hb)
  cases hg : qab l.size l.root x.size x.root ps with
  | false =>
   rw [if_pos hg] at ht
   exact bad 13 (by decide) ht (qdm S x a _ c r l hS hx w h hR h1 (by omega) (by omega) (hG _ hg))
  | true =>
   rw [if_neg (by rw [hg]; decide)] at ht
   exact good ht (take_next S x a _ c r l hS hx w h hR h1 (by omega) (by omega) hz (hG _ hg))
structure SInv (S : AuS) (i : Nat) : Prop where
 hk : ∀ x, S.last = some x → qag x
 kl : ∀ x, S.last = some x → (S.fs.map (·.1)).getLast? = some x.size
 gt : ∀ x, S.last = some x → getS x.size S.fs = some (qV x.root)
 ln : S.fs.length ≤ i
theorem getS_same (k : Int) (v : Value) (clk : Nat) (es : Es Int) : getS k (Zc k v clk es) = some v := by
 induction es with
 | nil => simp [Zc, qcB]
 | cons e l ih =>
  unfold Zc
  by_cases hk : k = e.1
  · rw [if_pos hk, qcB, if_pos rfl]
  · rw [if_neg hk, qcB, if_neg hk, ih]
theorem setS_len (k : Int) (v : Value) (clk : Nat) (es : Es Int) : (Zc k v clk es).length ≤ es.length + 1 := by
 have := congrArg List.length (qeE k v clk es)
 rw [List.length_map] at this
 rw [this]
 split
 · rw [List.length_map]; omega
 · simp
theorem SInv.step {S S' : AuS} {x : Hd} {i k : Nat} {w : World} (h : SInv S i) (hx : qag x) (ht : TkS S x k S') (hp : AuP S' w) : SInv S' (i + 1) ∧ S'.p = S.p ∧ S'.o = S.o ∧ S'.bA = S.bA := by
 unfold TkS at ht
 by_cases hk : k = 0
 · rw [if_pos hk] at ht
   obtain ⟨b, rfl⟩ := ht
   refine ⟨⟨hp.hk, hp.kl, fun y hy => ?_, ?_⟩, rfl, rfl, rfl⟩
   · obtain rfl : x = y := Option.some.inj hy
     exact getS_same _ _ _ _
   · have := setS_len x.size (qV x.root) S.clk S.fs
     have := h.ln
     show (Zc x.size (qV x.root) S.clk S.fs).length ≤ i + 1
     omega
 · rw [if_neg hk] at ht
   subst ht
   exact ⟨⟨h.hk, h.kl, h.gt, Nat.le_succ_of_le h.ln⟩, rfl, rfl, rfl⟩
end
section
open Go.RowKit Go.Sx
abbrev TRc : Nat := 47
structure Rc where
 hd : Hd
 i : Int
 l : Bs
 ps : List Bs
 a : Option Addr
 c : Nat
def Rc.cs (r : Rc) : Array Value := ((hdC r.hd).toList ++ (Value.int .i64 r.i :: (Lib.byteCells r.l ++ [Value.slice r.a r.ps.length r.c]))).toArray
def qcL (r : Rc) : Prop := qag r.hd ∧ r.l.length = 32
theorem ZM {h : Hd} (k : qag h) : (hdC h).toList.length = 99 := by simpa using qT h k.1 k.2
theorem zk {r : Rc} (k : qcL r) : r.cs.size = 133 := by
 unfold Rc.cs
 simp only [List.size_toArray, List.length_append, ZM k.1, List.length_cons, Lib.byteCells_length, k.2, List.length_nil]
theorem rc_hd {r : Rc} (k : qcL r) : r.cs.extract 0 (0 + 99) = hdC r.hd := by
 unfold Rc.cs
 rw [List.extract_toArray, List.extract_eq_take_drop, List.drop_zero, Nat.zero_add, Nat.sub_zero, List.take_left' (ZM k.1)]
theorem rc_i {r : Rc} (k : qcL r) : r.cs[99]? = some (.int .i64 r.i) := by
 unfold Rc.cs
 rw [List.getElem?_toArray, List.getElem?_append_right (by rw [ZM k.1]; exact Nat.le_refl _), ZM k.1]; rfl
theorem rc_leaf {r : Rc} (k : qcL r) : r.cs.extract 100 (100 + 32) = (Lib.byteCells r.l).toArray := by
 unfold Rc.cs
 rw [List.extract_toArray, List.extract_eq_take_drop, show (100 : Nat) + 32 - 100 = 32 from rfl, show (100 : Nat) = 99 + 1 from rfl, ← List.drop_drop, List.drop_left' (ZM k.1)]
 show ((Lib.byteCells r.l ++ _).take 32).toArray = _
 rw [List.take_left' (by rw [Lib.byteCells_length, k.2])]
theorem rc_path {r : Rc} (k : qcL r) : r.cs[132]? = some (.slice r.a r.ps.length r.c) := by
 unfold Rc.cs
 rw [List.getElem?_toArray, List.getElem?_append_right (by rw [ZM k.1]; decide), ZM k.1]
 show (Lib.byteCells r.l ++ _)[32]? = _
 rw [List.getElem?_append_right (by rw [Lib.byteCells_length, k.2]; exact Nat.le_refl _), Lib.byteCells_length, k.2]; rfl
theorem rc_sz (r : Rc) : r.cs[1]? = some (.int .i64 r.hd.size) := rfl
theorem rc_root {r : Rc} (k : qcL r) : r.cs.extract 3 (3 + 32) = (Lib.byteCells r.hd.root).toArray := by
 unfold Rc.cs
 rw [List.extract_toArray, List.extract_eq_take_drop]
 show ((Lib.byteCells r.hd.root ++ Lib.byteCells r.hd.sig ++ _).take 32).toArray = _
 rw [List.append_assoc, List.take_left' (by rw [Lib.byteCells_length, k.1.1])]
theorem qck (r : Rc) : r.cs.toList.all (·.oneCell') = true := by
 have h := qau r.hd
 have h2 := qD r.l
 unfold Rc.cs
 simp only [List.all_append, List.all_cons, Bool.and_eq_true]
 exact ⟨h, rfl, h2, rfl, rfl⟩
def qb9 (r : Rc) : Bool := zE r.hd && decide (0 ≤ r.i) && decide (r.i < r.hd.size) && decide (r.ps.length ≤ 20)
theorem whole_any (r : Rc) (k : qcL r) (hl : r.hd.o.length ≤ 1000000) (w : World) : Calls Tryz.prog 95 ([.agg r.cs] : List Value).toArray w fun e w' => e = .returned (.bool (qb9 r)) ∧ Below w.heap.size w w' := by
 have hsz := zk k
 have hh := qT r.hd k.1.1 k.1.2
 have e1 := rc_sz r
 have e99 := rc_i k
 have e132 := rc_path k
 refine qj qc Tryz.func95 rfl Tryz.ntmps95 rfl (St.start w) ?_
 intro b1
 refine ldP 0 (d := hdC r.hd) rfl hh (rc_hd k) ?_
 refine cv (fun w' => qeA r.hd hl w') ?_
 unfold qb9
 generalize r.cs = C at *
 cases hg : zE r.hd with
 | false =>
  repeat (first | refine cf rfl ?_ | refine ct rfl ?_)
  exact rt rfl
 | true =>
  by_cases h0 : r.i ≥ 0
  case neg =>
   have p0 : decide (r.i ≥ 0) = false := decide_eq_false (by omega)
   have q0 : (decide (r.i ≥ 0) == true) = false := by rw [p0]; rfl
   have e : (true && decide (0 ≤ r.i) && decide (r.i < r.hd.size) && decide (r.ps.length ≤ 20)) = false := by rw [Bool.eq_false_iff]; intro h; simp at h; omega
   rw [e]
   repeat (first | refine cf q0 ?_ | refine cf p0 ?_ | refine cf rfl ?_ | refine ct rfl ?_ | refine ld1 0 rfl (by exact e99) ?_ | refine ld1 0 rfl (by exact e1) ?_ | refine ld1 0 rfl (by exact e132) ?_)
   exact rt rfl
  have p0 : decide (r.i ≥ 0) = true := decide_eq_true (by omega)
  have q0 : (decide (r.i ≥ 0) == true) = true := by rw [p0]; rfl
  by_cases h1 : r.i < r.hd.size
  case neg =>
   have p1 : decide (r.i < r.hd.size) = false := decide_eq_false (by omega)
   have q1 : (decide (r.i < r.hd.size) == true) = false := by rw [p1]; rfl
   have e : (true && decide (0 ≤ r.i) && decide (r.i < r.hd.size) && decide (r.ps.length ≤ 20)) = false := by rw [Bool.eq_false_iff]; intro h; simp at h; omega
   rw [e]
   repeat (first | refine ct q0 ?_ | refine ct p0 ?_ | refine cf q1 ?_ | refine cf p1 ?_ | refine cf rfl ?_ | refine ct rfl ?_ | refine ld1 0 rfl (by exact e99) ?_ | refine ld1 0 rfl (by exact e1) ?_ | refine ld1 0 rfl (by exact e132) ?_)
   exact rt rfl
  have p1 : decide (r.i < r.hd.size) = true := decide_eq_true (by omega)
  have q1 : (decide (r.i < r.hd.size) == true) = true := by rw [p1]; rfl
  by_cases h2 : r.ps.length ≤ 20
  case neg =>
   have p2 : decide (((r.ps.length : Nat) : Int) ≤ 20) = false := decide_eq_false (by omega)
   have q2 : (decide (((r.ps.length : Nat) : Int) ≤ 20) == true) = false := by rw [p2]; rfl
   have e : (true && decide (0 ≤ r.i) && decide (r.i < r.hd.size) && decide (r.ps.length ≤ 20)) = false := by rw [Bool.eq_false_iff]; intro h; simp at h; omega
   rw [e]
   repeat (first | refine ct q0 ?_ | refine ct p0 ?_ | refine ct q1 ?_ | refine ct p1 ?_ | refine cf q2 ?_ | refine cf p2 ?_ | refine cf rfl ?_ | refine ct rfl ?_ | refine ld1 0 rfl (by exact e99) ?_ | refine ld1 0 rfl (by exact e1) ?_ | refine ld1 0 rfl (by exact e132) ?_)
   exact rt (congrArg Value.bool p2)
  have p2 : decide (((r.ps.length : Nat) : Int) ≤ 20) = true := decide_eq_true (by omega)
  have q2 : (decide (((r.ps.length : Nat) : Int) ≤ 20) == true) = true := by rw [p2]; rfl
  have e : (true && decide (0 ≤ r.i) && decide (r.i < r.hd.size) && decide (r.ps.length ≤ 20)) = true := by simp; omega
  rw [e]
  repeat (first | refine ct q0 ?_ | refine ct p0 ?_ | refine ct q1 ?_ | refine ct p1 ?_ | refine ct q2 ?_ | refine ct p2 ?_ | refine cf rfl ?_ | refine ct rfl ?_ | refine ld1 0 rfl (by exact e99) ?_ | refine ld1 0 rfl (by exact e1) ?_ | refine ld1 0 rfl (by exact e132) ?_)
  exact rt (congrArg Value.bool p2)
def zV (r : Rc) (p : Nat) (o : Bs) : Nat := if qb9 r then (if zP r.hd p o = 0 then (if qat r.l r.i r.hd.size r.ps r.hd.root then 0 else 13) else zP r.hd p o) else 1
theorem rightrc_any (r : Rc) (p : Nat) (o : Bs) (hp : p < 115792089237316195423570985008687907853269984665640564039457584007913129639936) (k : qcL r) (hl : r.hd.o.length ≤ 1000) (w : World) (hw : Laid w) (h : RdS w (.slice r.a r.ps.length r.c) r.ps) :
 Calls Tryz.prog 57 ([.agg r.cs, .agg (k32 p), VS o] : List Value).toArray w fun e w' => e = .returned (Q7 (zV r p o)) ∧ Below w.heap.size w w' := by
 have hsz := zk k
 have hh := qT r.hd k.1.1 k.1.2
 have hzl := qx r.l k.2
 have hzr := qx r.hd.root k.1.1
 refine qj qc Tryz.func57 rfl Tryz.ntmps57 rfl (St.rdS h) ?_
 intro b3 b4
 refine ldN 1 rfl hsz ?_
 refine cv (fun w' => whole_any r k (by omega) w') ?_
 unfold zV
 cases hwb : qb9 r with
 | false =>
  refine ct rfl ?_
  exact rt rfl
 | true =>
  refine cf rfl ?_
  refine ldP 1 (d := hdC r.hd) rfl hh (rc_hd k) ?_
  refine ldN 2 rfl (qf _) ?_
  refine cvs (fun w' hs => qdS r.hd p o hp k.1 hl w' (hw.below (Nat.le_refl _) hs.below)) ?_
  by_cases he : zP r.hd p o = 0
  case neg =>
   rw [if_pos rfl, if_neg he, errVs _ he]
   refine ct rfl ?_
   exact rt rfl
  rw [if_pos rfl, if_pos he, he]
  refine cf rfl ?_
  refine ldP 1 (d := (Lib.byteCells r.l).toArray) rfl hzl (rc_leaf k) ?_
  refine ld1 1 rfl (by exact rc_i k) ?_
  refine ld1 1 rfl (by exact rc_sz r) ?_
  refine ld1 1 rfl (by exact rc_path k) ?_
  refine ldP 1 (d := (Lib.byteCells r.hd.root).toArray) rfl hzr (rc_root k) ?_
  refine cvs (fun w' hs => qdM r.l r.i r.hd.size k.2 r.ps r.a r.c r.hd.root k.1.1 w' (hs.res (k := 0) rfl)) ?_
  cases hb : qat r.l r.i r.hd.size r.ps r.hd.root with
  | false =>
   refine ct rfl ?_
   exact rt rfl
  | true =>
   refine cf rfl ?_
   exact rt rfl
end
section
open Go.RowKit Go.Sx
theorem AuP.below {S : AuS} {w w' : World} (h : AuP S w) (hb : Below w.heap.size w w') : AuP S w' :=
 (auR S).st w w' (fun k hk => hb.block k ((auR S).bd w h k hk)) h
def qaZ (S : AuS) (bs : Bs) (i : Int) (ps : List Bs) : Nat := match S.last with
 | none => 12
 | some h => if i < 0 ∨ h.size ≤ i then 2 else if qat (qJ bs) i h.size ps h.root then 0 else 13
theorem qaY (S : AuS) (bs : Bs) (v : Value) (i : Int) (ps : List Bs) (a : Option Addr) (c : Nat) (w : World) (h : AuP S w) (hv : Rd w v (Lib.byteCells bs)) (hn : bs.length ≤ 100000) (hr : RdS w (.slice a ps.length c) ps) :
 Calls Tryz.prog 21 ([ptr S.bA, v, .int .i64 i, .slice a ps.length c] : List Value).toArray w fun e w' => e = .returned (Q7 (qaZ S bs i ps)) ∧ Below w.heap.size w w' := by
 refine qj qc Tryz.func21 rfl Tryz.ntmps21 rfl (St.start w) ?_
 refine cvs (fun w' hs => last_any S w' (h.below hs.below)) ?_
 intro b9
 unfold lastT
 obtain ⟨E, hE⟩ : ∃ E, E = qaZ S bs i ps := ⟨_, rfl⟩
 rw [← hE]
 unfold qaZ at hE
 cases hl : S.last with
 | none =>
  rw [hl] at hE
  subst hE
  have hz := qT H0 (by simp [H0]) (by simp [H0])
  refine sN 0 (d := hdC H0) rfl (hz.trans (by kernel_rfl)) (qau _) ?_ (by rw [hz]; kernel_rfl)
  refine ct rfl ?_
  exact rt rfl
 | some x =>
  rw [hl] at hE
  simp only at hE
  have hx := h.hk x hl
  have hz := qT x hx.1 hx.2
  have hzr := qx x.root hx.1
  refine sN 0 (d := hdC x) rfl (hz.trans (by kernel_rfl)) (qau _) ?_ (by rw [hz]; kernel_rfl)
  refine cf rfl ?_
  by_cases h0 : i < 0
  · have p0 : decide (i < 0) = true := decide_eq_true h0
    have q0 : (decide (i < 0) == false) = false := by rw [p0]; rfl
    repeat (first | refine cf q0 ?_ | refine ct p0 ?_ | refine ct rfl ?_ | refine cf rfl ?_)
    rw [if_pos (.inl h0)] at hE
    subst hE
    exact rt rfl
  have p0 : decide (i < 0) = false := decide_eq_false h0
  have q0 : (decide (i < 0) == false) = true := by rw [p0]; rfl
  by_cases h1 : i ≥ x.size
  · have p1 : decide (i ≥ x.size) = true := decide_eq_true h1
    repeat (first | refine ct q0 ?_ | refine cf p0 ?_ | refine ct p1 ?_ | refine ct rfl ?_ | refine cf rfl ?_ | refine ld1 0 rfl rfl ?_)
    rw [if_pos (.inr h1)] at hE
    subst hE
    exact rt rfl
  have p1 : decide (i ≥ x.size) = false := decide_eq_false h1
  repeat (first | refine ct q0 ?_ | refine cf p0 ?_ | refine cf p1 ?_ | refine ct rfl ?_ | refine cf rfl ?_ | refine ld1 0 rfl rfl ?_)
  rw [if_neg (by omega)] at hE
  refine dr [cl b9 (hdC x) THd] 99 (.t 0 (.t 1 (.t 2 (.t 3 (.t 4 (.t 5 (.t 6 (.t 7 (.t 8 (.t 9 (.t 10 .nil))))))))))) qc qe (by kernel_rfl) (.cons .nil) ?_
  refine czs (v := qV (qJ bs)) (fun w' hs => leaf_any v bs w' (hv.below hs.below) hn) ?_
  refine ld1 0 rfl (v := .int .i64 x.size) rfl ?_
  refine ldP 0 (d := (Lib.byteCells x.root).toArray) rfl hzr (ZL x hx.1) ?_
  refine czs (v := .bool (qat (qJ bs) i x.size ps x.root)) (fun w' hs => qdM (qJ bs) i x.size (qI _) ps a c x.root hx.1 w' (hr.below hs.below)) ?_
  cases hb : qat (qJ bs) i x.size ps x.root with
  | false =>
   rw [hb] at hE
   subst hE
   refine ct rfl ?_
   exact rt rfl
  | true =>
   rw [hb] at hE
   subst hE
   refine cf rfl ?_
   exact rt rfl
def ZE (S : AuS) (r : Rc) (ps : List Bs) : Nat := if zV r S.p S.o = 0 then (match S.last with
 | none => 12
 | some h => if h.size < r.hd.size then 2 else if qab r.hd.size r.hd.root h.size h.root ps then 0 else 13) else zV r S.p S.o
theorem ZU (S : AuS) (r : Rc) (hp : S.p < 115792089237316195423570985008687907853269984665640564039457584007913129639936) (k : qcL r) (hl : r.hd.o.length ≤ 1000) (ps : List Bs) (a : Option Addr) (c : Nat) (w : World) (hw : Laid w) (h : AuP S w) (hq : RdS w (.slice r.a r.ps.length r.c) r.ps) (hr : RdS w (.slice a ps.length c) ps) :
 Calls Tryz.prog 23 ([ptr S.bA, .agg r.cs, .slice a ps.length c] : List Value).toArray w fun e w' => e = .returned (Q7 (ZE S r ps)) ∧ Below w.heap.size w w' := by
 have hsz := zk k
 have ha := ZF S.p S.o S.lastV (.map (some S.bm))
 refine qj qc Tryz.func23 rfl Tryz.ntmps23 rfl (au_ro h) ?_
 intro b4
 refine cf rfl ?_
 refine dr [cr S.bA (auC S.p S.o S.lastV (.map (some S.bm))) TAu, mrI S.bm S.fs S.clk, cl b4 r.cs TRc] 99 (.t 0 (.t 1 (.t 2 (.t 3 (.t 4 (.t 5 (.t 6 (.t 7 (.t 8 (.t 9 (.n 10 .nil))))))))))) qc qe (by kernel_rfl) (.cons (.cons (.cons .nil))) ?_
 refine ldN 2 rfl hsz ?_
 refine ldP 0 (d := k32 S.p) rfl (qf _) (ZP _ _ _ _) ?_
 refine ld1 0 rfl (by exact ha.1) ?_
 refine czs (v := Q7 (zV r S.p S.o)) (fun w' hs => rightrc_any r S.p S.o hp k hl w' (hw.below (Nat.le_refl _) hs.below) (hq.below hs.below)) ?_
 refine ⟨.cons (.cons (.cons .nil)), ?_⟩
 obtain ⟨E, hE⟩ : ∃ E, E = ZE S r ps := ⟨_, rfl⟩
 rw [← hE]
 unfold ZE at hE
 by_cases he : zV r S.p S.o = 0
 case neg =>
  rw [if_neg he] at hE
  subst hE
  rw [errVs _ he]
  refine ct rfl ?_
  exact rt rfl
 rw [if_pos he] at hE
 rw [he]
 refine cf rfl ?_
 refine cvs (fun w' hs => last_any S w' (h.below hs.below)) ?_
 intro b8
 unfold lastT
 cases hS : S.last with
 | none =>
  rw [hS] at hE
  subst hE
  have hz := qT H0 (by simp [H0]) (by simp [H0])
  refine sN 3 (d := hdC H0) rfl (hz.trans (by kernel_rfl)) (qau _) ?_ (by rw [hz]; kernel_rfl)
  refine ct rfl ?_
  exact rt rfl
 | some x =>
  rw [hS] at hE
  simp only at hE
  have hx := h.hk x hS
  have hz := qT x hx.1 hx.2
  have hzr := qx x.root hx.1
  have hzq := qx r.hd.root k.1.1
  refine sN 3 (d := hdC x) rfl (hz.trans (by kernel_rfl)) (qau _) ?_ (by rw [hz]; kernel_rfl)
  refine cf rfl ?_
  refine ld1 2 rfl (by exact rc_sz r) ?_
  refine ld1 3 rfl (v := .int .i64 x.size) rfl ?_
  refine cd (fun h1 => ?_) (fun h1 => ?_)
  · rw [if_pos (show x.size < r.hd.size by omega)] at hE
    subst hE
    exact rt rfl
  rw [if_neg (show ¬ x.size < r.hd.size by omega)] at hE
  refine ld1 2 rfl (by exact rc_sz r) ?_
  refine ldP 2 (d := (Lib.byteCells r.hd.root).toArray) rfl hzq (rc_root k) ?_
  refine ld1 3 rfl (v := .int .i64 x.size) rfl ?_
  refine ldP 3 (d := (Lib.byteCells x.root).toArray) rfl hzr (ZL x hx.1) ?_
  refine cvs (fun w' hs => qeX r.hd.size r.hd.root x.size x.root k.1.1 hx.1 ps a c w' (hr.below hs.below)) ?_
  cases hb : qab r.hd.size r.hd.root x.size x.root ps with
  | false =>
   rw [hb] at hE
   subst hE
   refine ct rfl ?_
   exact rt rfl
  | true =>
   rw [hb] at hE
   subst hE
   refine cf rfl ?_
   exact rt rfl
end
section
open Go.RowKit Go.Sx
theorem qe5 (x : Bs) (T : List Bool) (ps : List Bs) (q : Bs) : QN x (true :: T) (ps ++ [q]) = ((QN x T ps).1, qU (QN x T ps).2.1 q, (QN x T ps).2.2 ++ [ZK (QN x T ps).2.1 q]) := by
 rw [QN, List.dropLast_concat, List.getLastD_concat]
theorem qeg (x : Bs) (T : List Bool) (ps : List Bs) (q : Bs) : QN x (false :: T) (ps ++ [q]) = (qU q (QN x T ps).1, qU q (QN x T ps).2.1, (QN x T ps).2.2 ++ [ZK q (QN x T ps).1, ZK q (QN x T ps).2.1]) := by
 rw [QN, List.dropLast_concat, List.getLastD_concat]
theorem path_ok (f : Nat) : ∀ (i : Nat) (ls : List Bs) (x : Bs), ls.length < f → ls.length ≤ 1048576 → ls[i]? = some x →
 (QD f i ls).length = (Zd i ls.length).length ∧ (QN x (Zd i ls.length) (QD f i ls)).2.1 = qz ls := by
 induction f with
 | zero => intro i ls x h; exact absurd h (Nat.not_lt_zero _)
 | succ f ih =>
  intro i ls x h hn hx
  have hi : i < ls.length := (List.getElem?_eq_some_iff.1 hx).1
  rw [QD]
  by_cases h1 : ls.length = 1
  · rw [if_pos h1, qc7 i _ (by omega)]
    obtain ⟨y, rfl⟩ := List.length_eq_one_iff.1 h1
    have : i = 0 := by simpa using hi
    subst this
    obtain rfl : y = x := by simpa using hx
    exact ⟨rfl, rfl⟩
  rw [if_neg h1]
  obtain ⟨c1, c2, c3⟩ := QQ ls.length (by omega) hn
  have hr := qbB ls (by omega) hn
  by_cases h2 : i < qq ls.length
  · rw [if_pos h2, qdI i _ hn (by omega) h2, qe5]
    have hl : (ls.take (qq ls.length)).length = qq ls.length := by rw [List.length_take]; omega
    obtain ⟨a, b⟩ := ih i (ls.take (qq ls.length)) x (by omega) (by omega) (by rw [List.getElem?_take_of_lt h2]; exact hx)
    rw [hl] at a b
    exact ⟨by rw [List.length_append, a]; rfl, by show qU _ _ = _; rw [b, hr]⟩
  · rw [if_neg h2, qcl i _ hn (by omega) h2, qeg]
    have hl : (ls.drop (qq ls.length)).length = ls.length - qq ls.length := List.length_drop
    obtain ⟨a, b⟩ := ih (i - qq ls.length) (ls.drop (qq ls.length)) x (by omega) (by omega) (by rw [List.getElem?_drop, show qq ls.length + (i - qq ls.length) = i by omega]; exact hx)
    rw [hl] at a b
    exact ⟨by rw [List.length_append, a]; rfl, by show qU _ _ = _; rw [b, hr]⟩
theorem qeU {l : List Bs} (h : l ≠ []) (x : Bs) : (l ++ [x]).head? = l.head? := by cases l with | nil => exact absurd rfl h | cons a l => rfl
theorem prove_ok (f : Nat) : ∀ (m : Nat) (b : Bool) (ls : List Bs), ls.length < f → 1 ≤ m → m ≤ ls.length → ls.length ≤ 1048576 →
 (prF f m b ls).length = (zg m ls.length).1.length + (if b && (zg m ls.length).2 then 0 else 1) ∧
 ∀ x, (if b && (zg m ls.length).2 then x = qz (ls.take m) else (prF f m b ls).head? = some x) → (QN x (zg m ls.length).1 (prF f m b ls)).1 = qz (ls.take m) ∧ (QN x (zg m ls.length).1 (prF f m b ls)).2.1 = qz ls := by
 induction f with
 | zero => intro m b ls h; exact absurd h (Nat.not_lt_zero _)
 | succ f ih =>
  intro m b ls h hm hmn hn
  rw [prF]
  by_cases h1 : m = ls.length
  · rw [if_pos h1, stp_end m _ hm (by omega), List.take_of_length_le (by omega)]
    cases b with
    | true => exact ⟨rfl, fun x hx => ⟨hx, hx⟩⟩
    | false => exact ⟨rfl, fun x hx => by obtain rfl : qz ls = x := Option.some.inj hx; exact ⟨rfl, rfl⟩⟩
  rw [if_neg h1]
  obtain ⟨c1, c2, c3⟩ := QQ ls.length (by omega) hn
  have hr := qbB ls (by omega) hn
  by_cases h2 : m ≤ qq ls.length
  · rw [if_pos h2, stp_left m _ hm hn (by omega) h2]
    have hl : (ls.take (qq ls.length)).length = qq ls.length := by rw [List.length_take]; omega
    obtain ⟨a, c⟩ := ih m b (ls.take (qq ls.length)) (by omega) hm (by omega) (by omega)
    rw [hl] at a c
    rw [List.take_take, Nat.min_eq_left h2] at c
    simp only
    refine ⟨by rw [List.length_append, a, List.length_cons, List.length_cons, List.length_nil]; omega, fun x hx => ?_⟩
    obtain ⟨d, e⟩ := c x (by
     split at hx
     · rename_i h3; rw [if_pos h3]; exact hx
     · rename_i h3
       rw [if_neg h3]
       rw [if_neg h3] at a
       rwa [qeU (fun e => by rw [e] at a; simp at a)] at hx)
    rw [qe5]
    exact ⟨d, by show qU _ _ = _; rw [e, hr]⟩
  · rw [if_neg h2, qey m _ hm hn (by omega) h2]
    have hl : (ls.drop (qq ls.length)).length = ls.length - qq ls.length := List.length_drop
    obtain ⟨a, c⟩ := ih (m - qq ls.length) false (ls.drop (qq ls.length)) (by omega) (by omega) (by omega) (by omega)
    rw [hl] at a c
    simp only [Bool.false_and, Bool.and_false, Bool.false_eq_true, if_false] at a c ⊢
    refine ⟨by rw [List.length_append, a, List.length_cons, List.length_cons, List.length_nil], fun x hx => ?_⟩
    rw [qeU (fun e => by rw [e] at a; simp at a)] at hx
    obtain ⟨d, e⟩ := c x hx
    have hcm := cut_same m ls.length hn (by omega) hmn (by omega)
    have hml : (ls.take m).length = m := by rw [List.length_take]; omega
    have hrm := qbB (ls.take m) (by omega) (by omega)
    rw [hml, hcm, List.take_take, Nat.min_eq_left (by omega), List.drop_take] at hrm
    rw [qeg]
    exact ⟨by show qU _ _ = _; rw [d, hrm], by show qU _ _ = _; rw [e, hr]⟩
theorem grow_ok (m : Nat) (ls : List Bs) (hm : 1 ≤ m) (hmn : m ≤ ls.length) (hn : ls.length ≤ 1048576) : qab (m : Nat) (qz (ls.take m)) (ls.length : Nat) (qz ls) (qZ m ls) = true := by
 unfold qab
 rw [if_neg (by omega)]
 obtain ⟨a, b⟩ := prove_ok (ls.length + 1) m true ls (Nat.lt_succ_self _) hm hmn hn
 by_cases h : m = ls.length
 · have e : qZ m ls = [] := by unfold qZ; rw [prF, if_pos h]; rfl
   rw [if_pos (by omega), e, List.take_of_length_le (by omega)]
   simp
 rw [if_neg (by omega)]
 unfold extB
 rw [if_neg (by omega), Int.toNat_natCast, Int.toNat_natCast]
 change (qZ m ls).length = _ at a
 change ∀ x, (if true && (zg m ls.length).2 then x = qz (ls.take m) else (qZ m ls).head? = some x) → (QN x (zg m ls.length).1 (qZ m ls)).1 = qz (ls.take m) ∧ (QN x (zg m ls.length).1 (qZ m ls)).2.1 = qz ls at b
 generalize qZ m ls = ps at *
 generalize zg m ls.length = st at *
 obtain ⟨T, A⟩ := st
 have key : ∀ (x : Bs) (pre rs : List Bs), ps = pre ++ rs → rs.length = T.length → (QN x T ps).1 = qz (ls.take m) → (QN x T ps).2.1 = qz ls → extE T (qz (ls.take m)) (qz ls) x rs = true := by
  intro x pre rs he hl h1 h2
  unfold extE
  rw [if_pos hl, qcC x T pre rs hl, ← he, h1, h2]
  simp
 cases A with
 | true =>
  obtain ⟨c, d⟩ := b (qz (ls.take m)) rfl
  exact key _ [] ps rfl (by simpa using a) c d
 | false =>
  simp only [Bool.and_false, Bool.false_eq_true, if_false] at a b ⊢
  match ps, a, b, key with
  | [], a, _, _ => simp at a
  | p :: r, a, b, key =>
   obtain ⟨c, d⟩ := b p rfl
   exact key p [p] r rfl (by simpa using a) c d
theorem holds_ok (i : Nat) (ls : List Bs) (x : Bs) (hn : ls.length ≤ 1048576) (hx : ls[i]? = some x) : qat x (i : Nat) (ls.length : Nat) (QD (ls.length + 1) i ls) (qz ls) = true := by
 have hi : i < ls.length := (List.getElem?_eq_some_iff.1 hx).1
 obtain ⟨a, b⟩ := path_ok (ls.length + 1) i ls x (Nat.lt_succ_self _) hn hx
 have hs : sndB (i : Nat) (ls.length : Nat) = true := decide_eq_true (by omega)
 unfold qat qb2 qe0
 rw [hs, if_pos rfl, Int.toNat_natCast, Int.toNat_natCast, if_pos a, qcC x _ [] _ a]
 simp only [List.nil_append, Bool.and_eq_true, decide_eq_true_eq]
 exact ⟨trivial, b⟩
theorem pth_log (d : Nat) : ∀ (i n : Nat), n ≤ 1048576 → n ≤ 2 ^ d → (Zd i n).length ≤ d := by
 induction d with
 | zero => intro i n hn h; rw [qc7 i n (by simpa using h)]; exact Nat.le_refl _
 | succ d ih =>
  intro i n hn h
  by_cases h1 : 1 < n
  · obtain ⟨c1, c2, c3⟩ := QQ n h1 hn
    obtain ⟨j, hj⟩ : ∃ j, qq n = 2 ^ j := ⟨bl2 (n - 1) - 1, by unfold qq; rw [if_neg (by omega)]⟩
    have hk : qq n ≤ 2 ^ d := by
     rw [hj]
     refine Nat.pow_le_pow_right (by decide) ?_
     rcases Nat.lt_or_ge d j with h2 | h2
     · exfalso
       have : 2 ^ (d + 1) ≤ 2 ^ j := Nat.pow_le_pow_right (by decide) h2
       omega
     · exact h2
    by_cases h2 : i < qq n
    · rw [qdI i n hn h1 h2]
      have := ih i (qq n) (by omega) hk
      simp only [List.length_cons]; omega
    · rw [qcl i n hn h1 h2]
      have := ih (i - qq n) (n - qq n) (by omega) (by omega)
      simp only [List.length_cons]; omega
  · rw [qc7 i n (by omega)]; exact Nat.zero_le _
end
section
open Go.RowKit Go.Sx
theorem lay_go (v : List Value) : ∀ (k off : Nat) (c : Array Value), off + k + v.length ≤ c.size → ((v.zipIdx k).foldl (fun cs (p : Value × Nat) => cs.setIfInBounds (off + p.2) p.1) c).toList = c.toList.take (off + k) ++ v ++ c.toList.drop (off + k + v.length) := by
 induction v with
 | nil => intro k off c h; simp
 | cons a v ih =>
  intro k off c h
  rw [List.zipIdx_cons, List.foldl_cons, ih (k + 1) off _ (by simp only [Array.size_setIfInBounds]; simp at h; omega)]
  simp only [Array.toList_setIfInBounds, List.length_cons]
  simp only [List.length_cons] at h
  have hs : off + k < c.toList.length := by simp; omega
  have e : (c.toList.take (off + k + 1)).set (off + k) a = c.toList.take (off + k) ++ [a] := by
   have hl : (c.toList.take (off + k)).length = off + k := by rw [List.length_take]; omega
   rw [List.take_succ_eq_append_getElem hs, List.set_append_right _ _ (by omega), hl, Nat.sub_self]; rfl
  rw [show off + (k + 1) = off + k + 1 by omega, List.take_set, List.drop_set_of_lt (by omega), e]
  simp only [List.append_assoc, List.nil_append, List.cons_append, show off + k + 1 + v.length = off + k + (v.length + 1) by omega]
theorem lay_any (v c : Array Value) (off : Nat) (h : off + v.size ≤ c.size) : (v.zipIdx.foldl (fun cs (p : Value × Nat) => cs.setIfInBounds (off + p.2) p.1) c).toList = c.toList.take off ++ v.toList ++ c.toList.drop (off + v.size) := by
 have := lay_go v.toList 0 off c (by simpa using h)
 rw [Nat.add_zero] at this
 have e : v.zipIdx.foldl (fun cs (p : Value × Nat) => cs.setIfInBounds (off + p.2) p.1) c = (v.toList.zipIdx 0).foldl (fun cs (p : Value × Nat) => cs.setIfInBounds (off + p.2) p.1) c := by
  rw [← Array.foldl_toList, Array.toList_zipIdx]
 rw [e, this]
 simp
def rcZ0 : List Value := (hdC H0).toList ++ (Value.int .i64 0 :: (List.replicate 32 (Value.int .u8 0) ++ [Value.slice none 0 0]))
theorem rcZ0_len : rcZ0.length = 133 := by decide +kernel
theorem rc_zero : (Tryz.prog.info? TRc).bind (·.zero) = some (.agg rcZ0.toArray) := by kernel_rfl
theorem rc_und : Tryz.prog.underlying TRc = some (.struct (Tryz.prog.fieldsOf TRc)) := by kernel_rfl
theorem rc_places : (Tryz.prog.fieldsOf TRc).toList.mapM (fun f => (Tryz.prog.info? f.type).map fun i => (f.offset, i.size)) = some [(0, 99), (99, 1), (100, 32), (132, 1)] := by kernel_rfl
theorem qbW {place : Nat → Option (Nat × Nat)} {l : List Value} {i off size : Nat} {v : Value} {rest : List (Nat × Value)} (hp : place i = some (off, size)) (hs : v.cells.size = size) (hb : off + size ≤ l.length) :
 Instr.fill place l.toArray ((i, v) :: rest) = Instr.fill place (l.take off ++ v.cells.toList ++ l.drop (off + size)).toArray rest := by
 rw [Instr.fill, hp]
 simp only
 rw [if_neg (by simp [hs]; omega)]
 congr 1
 apply Array.ext'
 have := lay_any v.cells l.toArray off (by simp [hs]; omega)
 rw [hs] at this
 simpa using this
theorem ZZ (r : Rc) (k : qcL r) : Tryz.prog.built TRc [(0, .agg (hdC r.hd)), (1, .int .i64 r.i), (2, qV r.l), (3, .slice r.a r.ps.length r.c)] = some r.cs := by
 have hH := ZM k.1
 have hL : (Lib.byteCells r.l).length = 32 := by rw [Lib.byteCells_length, k.2]
 have hz := rcZ0_len
 unfold Program.built
 cases hi : Tryz.prog.info? TRc with
 | none => have := rc_zero; rw [hi] at this; cases this
 | some it =>
  have h0 : it.zero = some (.agg rcZ0.toArray) := by have := rc_zero; rw [hi] at this; exact this
  rw [rc_und]
  simp only [h0, rc_places]
  unfold Rc.cs
  generalize hZ : rcZ0 = Z at *
  generalize hHH : (hdC r.hd).toList = H at *
  have hHs : (hdC r.hd).size = 99 := by rw [← Array.length_toList, hHH, hH]
  show Instr.fill _ Z.toArray _ = _
  rw [qbW (l := Z) (v := .agg (hdC r.hd)) (off := 0) (size := 99) rfl hHs (by omega)]
  show Instr.fill _ (Z.take 0 ++ (hdC r.hd).toList ++ Z.drop (0 + 99)).toArray _ = _
  rw [hHH, List.take_zero, List.nil_append, qbW (off := 99) (size := 1) rfl rfl (by simp [hH, hz])]
  rw [List.take_left' hH, List.drop_append, List.drop_of_length_le (show H.length ≤ 99 + 1 by omega), hH, List.nil_append, List.drop_drop]
  show Instr.fill _ (H ++ [Value.int .i64 r.i] ++ Z.drop (0 + 99 + (99 + 1 - 99))).toArray _ = _
  have e1 : (H ++ [Value.int .i64 r.i]).length = 100 := by simp [hH]
  rw [qbW (off := 100) (size := 32) rfl (by show (Lib.byteCells r.l).toArray.size = 32; simp [hL]) (by simp [hH, hz])]
  rw [List.take_left' e1, List.drop_append, List.drop_of_length_le (show (H ++ [Value.int .i64 r.i]).length ≤ 100 + 32 by omega), e1, List.nil_append, List.drop_drop]
  show Instr.fill _ (H ++ [Value.int .i64 r.i] ++ Lib.byteCells r.l ++ Z.drop (0 + 99 + (99 + 1 - 99) + (100 + 32 - 100))).toArray _ = _
  have e2 : (H ++ [Value.int .i64 r.i] ++ Lib.byteCells r.l).length = 132 := by simp [hH, hL]
  rw [qbW (off := 132) (size := 1) rfl rfl (by rw [List.length_append, e2, List.length_drop, hz]; omega)]
  rw [List.take_left' e2, List.drop_of_length_le (by rw [List.length_append, e2, List.length_drop, hz]; omega)]
  show some _ = some _
  simp [Value.cells]
end
section
open Go.RowKit Go.Sx
theorem dec_big (u : Nat) (h : ¬ u < 10) : Lib.decDigits u = Lib.decDigits (u / 10) ++ [UInt8.ofNat (48 + u % 10)] := by rw [Lib.decDigits, dif_neg h]
theorem dec_fig (u : Nat) (h : u < 10) : Lib.decDigits u = [UInt8.ofNat (48 + u)] := by rw [Lib.decDigits, dif_pos h]
theorem dec_len (u : Nat) (h : u ≤ 9223372036854775807) : (Lib.decDigits u).length ≤ 21 := by
 rw [← Lib.itoa_nonneg]; exact Lib.itoa_length_le _ (by omega) (by omega)
theorem rnum_f (f : Nat) : ∀ (u : Nat) (w : World), u < f → u ≤ 9223372036854775807 → Calls Tryz.prog 91 ([.int .i64 u] : List Value).toArray w fun e w' => e = .returned (VS (Lib.decDigits u)) ∧ Below w.heap.size w w' := by
 induction f with
 | zero => intro u w h; exact absurd h (Nat.not_lt_zero _)
 | succ f ih =>
  intro u w h hu
  by_cases h1 : u < 10
  · rw [dec_fig u h1]; exact qbC u h1 w
  refine qj qc Tryz.func91 rfl Tryz.ntmps91 rfl (St.start w) ?_
  refine cf (decide_eq_false (by omega)) ?_
  refine ⟨by omega, by simp only [mx]; omega, by decide, ?_⟩
  refine cv (v := VS (Lib.decDigits (u / 10))) (fun w' => by have := ih (u / 10) w' (by omega) (by omega); rwa [show (((u / 10 : Nat) : Int)) = (u : Int) / 10 by omega] at this) ?_
  refine ⟨by omega, by simp only [mx]; omega, by decide, ?_⟩
  refine cv (v := VS [UInt8.ofNat (48 + u % 10)]) (fun w' => by have := qbC (u % 10) (by omega) w'; rwa [show (((u % 10 : Nat) : Int)) = (u : Int) % 10 by omega] at this) ?_
  have hl := dec_len (u / 10) (by omega)
  refine ⟨by rw [szB, szB]; simp; omega, ?_⟩
  rw [cat2 _ _ _ rfl, dec_big u h1]
  exact rt rfl
theorem rnum_any (u : Nat) (hu : u ≤ 9223372036854775807) (w : World) : Calls Tryz.prog 91 ([.int .i64 u] : List Value).toArray w fun e w' => e = .returned (VS (Lib.itoa u)) ∧ Below w.heap.size w w' := by
 rw [Lib.itoa_nonneg]; exact rnum_f _ u w (Nat.lt_succ_self _) hu
def hdR (ps : List Bs) (t : Nat) : Hd := qeo Qu (hd0 (qz ps) (ps.length : Nat) (t : Nat)) (Lib.itoa (ps.length : Nat)) (Lib.itoa (t : Nat))
theorem qbr (ps : List Bs) (t : Nat) (h : ∀ p ∈ ps, p.length = 32) : qag (hdR ps t) := ⟨Qn ps h, ZX _ _⟩
theorem Zn (ps : List Bs) (v : Value) (t : Nat) (w : World) (hn : ps.length ≤ 1048576) (ht : t ≤ 9007199254740991) (h : RdS w v ps) :
 Calls Tryz.prog 20 ([v, .int .i64 t] : List Value).toArray w fun e w' => e = .returned (.agg (hdC (hdR ps t))) ∧ Below w.heap.size w w' := by
 have h0 := h
 obtain ⟨h32, a, c, hv, _, _⟩ := h0
 exact qdB v (qz ps) ps.length t _ _ (Qn ps h32) w (Nat.le_trans (Lib.itoa_length_le _ (by omega) (by omega)) (by decide)) (Nat.le_trans (Lib.itoa_length_le _ (by omega) (by omega)) (by decide))
  (fun w' hb => Zl ps v w' hn (h.below hb)) ⟨a, c, hv⟩ (fun w' _ => rnum_any ps.length (by omega) w') (fun w' _ => rnum_any t (by omega) w')
theorem qcx (ps : List Bs) (t : Nat) (hn : ps.length ≤ 1048576) (ht : t ≤ 9007199254740991) : zP (hdR ps t) (zb Qu) logB = 0 := by
 have hg : zE (hdR ps t) = true := by
  unfold zE
  have h1 : z8 (hdR ps t).o = true := by show z8 logB = true; decide +kernel
  have h2 : (hdR ps t).size = (ps.length : Nat) := rfl
  have h3 : (hdR ps t).time = (t : Nat) := rfl
  rw [h1, h2, h3]
  simp only [Bool.true_and, Bool.and_eq_true, decide_eq_true_eq]
  omega
 unfold zP
 rw [if_pos hg, if_pos (show (hdR ps t).o = logB from rfl)]
 have h := qeD Qu (hd0 (qz ps) (ps.length : Nat) (t : Nat)) (Lib.itoa (ps.length : Nat)) (Lib.itoa (t : Nat))
 exact if_pos h
end
end Go.Proofs.YtbgefoamhdgnaaaGreatDoor
