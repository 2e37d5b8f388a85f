/- an auditor takes only what the last head begins, or two unlike texts have one digest -/
import Derived.Shelf.SlIterI.Nil
import Derived.Shelf.SortM.Plain
import Derived.Shelf.SortM.SortNone
import Derived.Ground.GgzProg
import Derived.Ground.SlgmProg
import Derived.Test.YtbgefoamhdgnaaaGreatDoorProg
import Derived.Scope
import Derived.Laws.Externs
import Derived.Laws.Runes
import Derived.WalkSmall
import Derived.Lib.ItoaLen
import Derived.Test.YtbgefoamhdgnaaaGreatDoorRows
import Derived.WalkKit
import Derived.ProofKit
import Derived.OpenShut
import Derived.ShutString
import Derived.ChangeOld
import Derived.Below
import Derived.Lib.UnsafeStr
import Derived.Test.YtbgefoamhdgnaaaGreatDoorHb5
set_option maxRecDepth 100000
set_option maxHeartbeats 16000000
set_option linter.unusedVariables false
set_option linter.unusedSimpArgs false
namespace Go.Sx
section
open Go Go.RowKit
variable {C : Cx} {ops : Array Oper} {L0 : List Ent} {f : List Nat} {Q : Act → World → Prop}
theorem Sub.none (L : List Ent) : Sub [] L := .nil
theorem dG_free (n : Nat) : ∀ (l : Array Bool) (s : Sy), dG C ops L0 f Q n l s → dG C ops [] [] Q n l s := by
 induction n with
 | zero => intro l s h; exact h
 | succ n ih =>
  intro l s h
  exact ⟨h.1, fun j hj o ho a w hf hs => (h.2 j hj o ho a w hf hs).mono fun u L' hk => ⟨fun _ => Sub.none _, ih _ _ hk.2⟩⟩
def mxs (C : Cx) (ops : Array Oper) : List Nat → (Sy → Prop) → Sy → Prop
 | [], K, s => K s
 | i :: r, K, s => dt C ops [] i (mxs C ops r K) s
def mxOk (ops : Array Oper) : List Nat → Array Bool → Bool
 | [], _ => true
 | i :: r, l => tOk ops [] l i && mxOk ops r (l.setIfInBounds i true)
def mxl : List Nat → Array Bool → Array Bool
 | [], l => l
 | i :: r, l => mxl r (l.setIfInBounds i true)
theorem mxs_ok (hT : TabOk C.P C.T) (hsel : Region.noSelect ops = true) {K : Sy → Prop} (ms : List Nat) : ∀ (n : Nat) (l : Array Bool) (s : Sy), Shut ops l → mxOk ops ms l = true →
 (∀ s', s'.L = s.L → K s' → Shut ops (mxl ms l) → dG C ops [] [] Q n (mxl ms l) s') → mxs C ops ms K s → dG C ops [] [] Q (n + ms.length) l s := by
 induction ms with
 | nil => intro n l s hsh _ hK h; exact hK s rfl h hsh
 | cons i r ih =>
  intro n l s hsh hok hK h
  simp only [mxOk, Bool.and_eq_true] at hok
  obtain ⟨hk, hr⟩ := hok
  simp only [tOk, Bool.and_eq_true, Bool.not_eq_true'] at hk
  obtain ⟨⟨⟨k1, k2⟩, k3⟩, k4⟩ := hk
  obtain ⟨σ, L, D⟩ := s
  change dt C ops [] i (mxs C ops r K) ⟨σ, L, D⟩ at h
  simp only [dt, opAt, qby] at h
  have hsb : Sub [] L := Sub.none L
  split at h
  · rename_i o ho
    have hf' : ∀ j, Qp j [] = true → (ops[j]?).isSome = true → Dep ops i j := fun j hj _ => by cases hj
    have hrd : i ∈ Region.ready .any ops l := by simpa using k2
    obtain ⟨b, hp, hq, hb⟩ := gd_ok (C := C) (s := ⟨σ, L, D⟩) h
    cases b with
    | false => exact qaV (v := undef) ho hsel k3 hf' (n + r.length) l _ hsh (Region.free_spec ho k1) hrd hsb (fun a ha => .inr ⟨hb a ha, rfl⟩) (ih n _ _ (hsh.next hrd) hr hK (hq rfl))
    | true =>
     have key : ∃ v, mxs C ops r K ⟨put C.N o.dst v σ, L, D⟩ ∧ ∀ a, Fits C.N ⟨σ, L, D⟩ a → ∀ w, St C.M C.B w [] → FinT C v w ((execOp a.eval o).run C.P w) := by
      obtain ⟨v, hv, hr'⟩ := tkV_ok hT (qco σ) (hp rfl)
      refine ⟨v, hv, fun a ha w hs => ?_⟩
      rw [execOp_congr o (fun cs b => Region.noSelect_spec hsel i o cs b ho) (fun x hx => qd0 ha (qb2 (hp rfl) x hx))]
      exact hr' w hs
     obtain ⟨v, hv, hr'⟩ := key
     exact qaV (v := v) ho hsel k3 hf' (n + r.length) l _ hsh (Region.free_spec ho k1) hrd hsb (fun a ha => .inl ⟨hb a ha, hr' a ha⟩) (ih n _ _ (hsh.next hrd) hr hK hv)
  · exact h.elim
theorem drm (ms : List Nat) (L0 : List Ent) (fs : List Nat) (od : Od) (hT : TabOk C.P C.T) {id : Nat} {K : Exit → Sy → Prop} {s : Sy} (hm : C.P.follows .mixedOrders = true)
 (hok : (Region.noSelect ops && Nat.ble od.len (ops.size - ms.length) && Nat.ble ms.length ops.size && mxOk ops ms (Array.replicate ops.size false) && Za ops fs od (mxl ms (Array.replicate ops.size false))) = true) (hL : Sub L0 s.L) (h : mxs C ops ms (dx C ops L0 fs od (K .normal)) s) : qb0 C id ops K s := by
 simp only [Bool.and_eq_true] at hok
 obtain ⟨⟨⟨⟨h1, h2⟩, h5⟩, h6⟩, h3⟩ := hok
 refine ⟨fun n a w hf hs => ?_⟩
 have hsh : Shut ops (Array.replicate ops.size false) := by
  intro j o ho hj
  have hlt : j < ops.size := (Array.getElem?_eq_some_iff.1 ho).1
  simp [hlt] at hj
 have h4 := mxs_ok (Q := Q8 C (K .normal)) hT h1 ms (ops.size - ms.length) (Array.replicate ops.size false) s hsh h6
  (fun s' hs' hk hsh' => dG_free _ _ _ (dx_ok (L0 := L0) (f := fs) hT h1 od (ops.size - ms.length) _ s' (by simpa using h2) hsh' h3 (.inl (by rw [hs']; exact hL)) hk)) h
 rw [Nat.sub_add_cancel (Nat.le_of_ble_eq_true h5)] at h4
 exact wpIn_region_any hm (dG_any (Q' := Qof C K) (fun a w hq => hq) _ _ _ h4 a _ hf hs.drew)
end
end Go.Sx
namespace Go.Proofs.YtbgefoamhdgnaaaGreatDoor
section
open Go.RowKit Go.Sx
theorem qaX (l : List Bool) : (boC l).length = l.length := by simp [boC]
theorem qbU (l : List Bool) (x : Bool) : boC (l ++ [x]) = boC l ++ [.bool x] := by simp [boC]
theorem rev_cell (xs : List Bool) (j : List Value) (i k : Nat) (h : k < xs.length) (h1 : i ≤ k) (h2 : k < xs.length - i) (q : Int) (hq : q = k) : (boC (qdr xs i) ++ j).toArray[nad 0 (nmu q.toNat 1)]? = some (.bool (xs.getD k false)) := by
 subst hq
 rw [qk, qj, Nat.zero_add, Nat.mul_one, Int.toNat_natCast, List.getElem?_toArray, List.getElem?_append_left (by rw [qaX, ze]; exact h)]
 unfold boC
 rw [List.getElem?_map, qbt _ _ _ h, if_neg (by omega)]; rfl
theorem bo_set (l : List Bool) (j : List Value) (k : Nat) (h : k < l.length) (v : Bool) (q : Int) (hq : q = k) : (boC l ++ j).toArray.setIfInBounds (nad 0 (nmu q.toNat 1)) (.bool v) = (boC (l.set k v) ++ j).toArray := by
 subst hq
 rw [qk, qj, Nat.zero_add, Nat.mul_one, Int.toNat_natCast, List.setIfInBounds_toArray, List.set_append_left _ _ (by rw [qaX]; exact h)]
 unfold boC
 rw [List.map_set]
theorem bo_lt (l : List Bool) (j : List Value) (k : Nat) (h : k < l.length) (q : Int) (hq : q = k) : nad 0 (nmu q.toNat 1) < (boC l ++ j).toArray.size := by
 subst hq
 rw [qk, qj, Nat.zero_add, Nat.mul_one, Int.toNat_natCast, List.size_toArray, List.length_append, qaX]; omega
theorem _root_.Go.Sx.Rw.same {z n : Nat} {r : Sx.Own} {xs ys : List Value} (h : Rw z n r xs) (hl : ys.length = xs.length) : Rw z n r ys := by
 refine ⟨hl.trans h.1, ?_⟩
 cases r with
 | none => exact h.2
 | some x => obtain ⟨h1, h2, h3⟩ := h.2; exact ⟨h1, h2, by rw [List.length_append, hl, ← List.length_append]; exact h3⟩
theorem zN {z n : Nat} {r : Sx.Own} {xs : List Value} (h : Rw z n r xs) : ∃ a c, sv r n = .slice a n c := by
 cases r with
 | none => have : n = 0 := h.2; subst this; exact ⟨none, 0, rfl⟩
 | some x => exact ⟨_, _, rfl⟩
theorem steps_any (m n : Nat) (hm : 1 ≤ m) (hmn : m ≤ n) (hn : n ≤ 1048576) (w : World) : Calls Tryz.prog 127 ([.int .i64 m, .int .i64 n] : List Value).toArray w fun e w' =>
 ∃ r, e = .returned (.tuple #[sv r (qU m n).1.length, .bool (qU m n).2]) ∧ Rw 1 (qU m n).1.length r (boC (qU m n).1.reverse) ∧ z8 w w' r (boC (qU m n).1.reverse) TTn ∧ Below w.heap.size w w' := by
 have hTl : (qU m n).1.length ≤ 1048576 := Nat.le_trans (qbn n m n) hn
 obtain ⟨T, hT⟩ : ∃ T, T = (qU m n).1 := ⟨_, rfl⟩
 obtain ⟨A, hA⟩ : ∃ A, A = (qU m n).2 := ⟨_, rfl⟩
 rw [← hT, ← hA]
 rw [← hT] at hTl
 refine (enter qd Tryz.func127 rfl Tryz.ntmps127 rfl (St.start w) (R := fun v w' => ∃ r, v = .tuple #[sv r T.length, .bool A] ∧ Rw 1 T.length r (boC T.reverse) ∧ z8 w w' r (boC T.reverse) TTn ∧ Below w.heap.size w w') ?_).mono (fun e w' ⟨v, he, r, h1, h2⟩ => ⟨r, by rw [he, h1], h2⟩)
 refine lp qd (fun x : Nat × Nat × List Bool × Bool × Sx.Own => 1 ≤ x.1 ∧ x.1 ≤ x.2.1 ∧ x.2.1 ≤ 1048576 ∧ Rw 1 x.2.2.1.length x.2.2.2.2 (boC x.2.2.1) ∧ x.2.2.1 ++ (qU x.1 x.2.1).1 = T ∧ (x.2.2.2.1 && (qU x.1 x.2.1).2) = A)
  (fun x => ⟨[(0, .int .i64 x.1), (1, .int .i64 x.2.1), (4, sv x.2.2.2.2 x.2.2.1.length), (5, .bool x.2.2.2.1)], [se x.2.2.2.2 (boC x.2.2.1) TTn], []⟩) (fun x => x.2.1) (m, n, [], true, none)
  ⟨hm, hmn, hn, Rw.nil 1, by rw [hT]; rfl, by rw [hA]; rfl⟩ ⟨⟨rfl, rfl, rfl, rfl, trivial⟩, .pad .nil, rfl⟩ ?_
 rintro ⟨m', n', dn, av, r⟩ ⟨h1, h2, h3, hR, hd, ha⟩
 simp only at h1 h2 h3 hR hd ha
 have hdl : dn.length ≤ 1048576 := by rw [← hd] at hTl; simp only [List.length_append] at hTl; omega
 refine cd (fun hlt => ?_) (fun hge => ?_)
 · have hlt' : m' < n' := by (try simp only at hlt); omega
   obtain ⟨c1, c2, c3⟩ := zF n' (by omega) h3
   refine cv (leafcut_any n' h3) ?_
   refine cd (fun hc => ?_) (fun hc => ?_)
   · have hc' : m' ≤ qx n' := by (try simp only at hc); omega
     have hsp := ZQ m' n' h1 h3 hlt' hc'
     refine .mk #[.bool true] TTn (fun w => bsTn _ w) (fun bn => ?_)
     refine ap1 (r := r) (n := dn.length) (xs := boC dn) 0 1 qd rfl infoTn rfl rfl hR rfl rfl (by omega) (by unfold maxLen; omega) (fun r2 hr2 => ?_)
     rw [← qbU] at hr2
     refine ⟨(m', qx n', dn ++ [true], av, r2), ⟨h1, hc', by (try simp only); omega, by simpa using hr2, by rw [hsp] at hd; simpa using hd, by rw [hsp] at ha; exact ha⟩, c2, ?_⟩
     simp only [qbU, List.length_append, List.length_cons, List.length_nil]
     exact ⟨⟨rfl, rfl, rfl, rfl, trivial⟩, .cons .nil, rfl⟩
   · have hc' : ¬ m' ≤ qx n' := by (try simp only at hc); omega
     have hsp := Zk m' n' h1 h3 hlt' hc'
     refine .mk #[.bool false] TTn (fun w => bsTn _ w) (fun bn => ?_)
     refine ap1 (r := r) (n := dn.length) (xs := boC dn) 0 1 qd rfl infoTn rfl rfl hR rfl rfl (by omega) (by unfold maxLen; omega) (fun r2 hr2 => ?_)
     refine .as ((m' - qx n' : Nat) : Int) (by (try simp only); omega) (by simp only [mn]; omega) (by simp only [mx]; omega) ?_
     refine .as ((n' - qx n' : Nat) : Int) (by (try simp only); omega) (by simp only [mn]; omega) (by simp only [mx]; omega) ?_
     rw [← qbU] at hr2
     refine ⟨(m' - qx n', n' - qx n', dn ++ [false], false, r2), ⟨by (try simp only); omega, by (try simp only); omega, by (try simp only); omega, by simpa using hr2, by rw [hsp] at hd; simpa using hd, by rw [hsp] at ha; simpa using ha⟩, by (try simp only); omega, ?_⟩
     simp only [qbU, List.length_append, List.length_cons, List.length_nil]
     exact ⟨⟨rfl, rfl, rfl, rfl, trivial⟩, .cons .nil, rfl⟩
 · have hge' : n' ≤ m' := by (try simp only at hge); omega
   rw [qcR m' n' h1 hge'] at hd ha
   simp only [List.append_nil, Bool.and_true] at hd ha
   subst hd ha
   clear hT hA hge
   obtain ⟨sa, sc, hv⟩ := zN hR
   rw [hv]
   refine inl (C := ⟨Tryz.prog, tab, 32, [], w, none⟩) qd Tryz.func137 rfl Tryz.ntmps137 rfl ?_
   refine .as ((dn.length : Int) - 1 - (0 : Nat)) (by simp) (by simp only [mn]; omega) (by simp only [mx]; omega) ?_
   refine lp qd (fun i : Nat => i ≤ dn.length) (fun i => ⟨[(0, .slice sa dn.length sc), (2, .int .i64 i), (3, .int .i64 ((dn.length : Int) - 1 - i))], [se r (boC (qdr dn i)) TTn], []⟩) (fun i => dn.length - i) 0 (Nat.zero_le _) ⟨⟨rfl, rfl, rfl, trivial⟩, by rw [revI_zero]; exact .cons .nil, rfl⟩ ?_
   intro i hi
   refine cd (fun hlt => ?_) (fun hge => ?_)
   · have hlt' : i < dn.length - 1 - i := by (try simp only at hlt); omega
     rcases r with _ | ⟨b, c, jk⟩
     · have := hR.2; omega
     injection hv with hv1 hv2 hv3
     subst hv1
     have e1 : ((dn.length : Int) - 1 - i) = ((dn.length - 1 - i : Nat) : Int) := by omega
     refine drm [2, 3] [cl b (boC (qdr dn i) ++ jk).toArray TTn] [13, 14, 15] (.t 0 (.t 1 (.t 4 (.t 5 (.t 6 (.t 7 (.t 8 (.t 9 (.t 10 (.t 11 (.t 12 (.n 13 (.n 14 (.n 15 .nil)))))))))))))) qd qf (by kernel_rfl) (.cons .nil) ?_
     refine ⟨by omega, by omega, ?_⟩
     refine ld1 0 rfl (v := .bool (dn.getD (dn.length - 1 - i) false)) (rev_cell dn jk i _ (by omega) (by omega) (by omega) _ e1) ?_
     refine ⟨by omega, by omega, ?_⟩
     refine ld1 0 rfl (v := .bool (dn.getD i false)) (rev_cell dn jk i _ (by omega) (by omega) (by omega) _ rfl) ?_
     refine ⟨by omega, by omega, ?_⟩
     refine s1 0 rfl (bo_lt _ jk i (by rw [ze]; omega) _ rfl) ?_
     refine ⟨by omega, by omega, ?_⟩
     rw [bo_set _ jk i (by rw [ze]; omega) _ _ rfl]
     refine s1 0 rfl (bo_lt _ jk (dn.length - 1 - i) (by rw [List.length_set, ze]; omega) _ e1) ?_
     rw [bo_set _ jk (dn.length - 1 - i) (by rw [List.length_set, ze]; omega) _ _ e1, revI_step dn i hlt']
     refine .as ((i + 1 : Nat) : Int) (by simp) (by simp only [mn]; omega) (by simp only [mx]; omega) ?_
     refine .as ((dn.length : Int) - 1 - (i + 1 : Nat)) (by omega) (by simp only [mn]; omega) (by simp only [mx]; omega) ?_
     exact ⟨i + 1, by omega, by (try simp only); omega, ⟨⟨rfl, rfl, rfl, trivial⟩, .cons .nil, rfl⟩⟩
   · have hge' : dn.length ≤ 2 * i + 1 := by (try simp only at hge); omega
     rw [revI_end dn i hge' hi]
     refine bk ?_
     exact ⟨fun w1 hs => ⟨r, by (try rw [hv]); rfl, hR.same (by rw [qaX, qaX, List.length_reverse]), zU hs rfl 0 rfl, hs.below⟩⟩
end
end Go.Proofs.YtbgefoamhdgnaaaGreatDoor
namespace Go.Sx
section
open Go Go.RowKit
def takeS : Nat → Code → Code
 | 0, _ => .skip
 | k + 1, .seq a b => .seq a (takeS k b)
 | _ + 1, _ => .skip
def dropS : Nat → Code → Code
 | 0, c => c
 | k + 1, .seq _ b => dropS k b
 | _ + 1, c => c
def cutK {α : Type} (J : α → Prop) (f : α → Sy) (K : Exit → Sy → Prop) : Exit → Sy → Prop := fun e s => match e with
 | .normal => ∃ x, J x ∧ Le (f x) s
 | e => K e s
theorem cutS {C : Cx} (hT : TabOk C.P C.T) {α : Type} (J : α → Prop) (f : α → Sy) {K : Exit → Sy → Prop} : ∀ (k : Nat) {c : Code} {s : Sy}, cx C (takeS k c) (cutK J f K) s → (∀ x, J x → CodeP C (dropS k c) K (f x)) → CodeP C c K s := by
 have base : ∀ {c : Code} {s : Sy}, (∃ x, J x ∧ Le (f x) s) → (∀ x, J x → CodeP C c K (f x)) → CodeP C c K s := fun {c s} ⟨x, hx, hl⟩ h => ⟨fun n a w hf hs => (h x hx).go n a w (Fits.le hf hl) (hs.sub hl.l)⟩
 intro k
 induction k with
 | zero => exact fun {c s} h1 h2 => base h1 h2
 | succ k ih =>
  intro c s h1 h2
  cases c with
  | seq a b =>
   refine ⟨fun n a' w hf hs => wpIn_seq (wpIn_mono ((ZJ hT a _ s h1).go n a' w hf hs) ?_)⟩
   rintro e a1 w1 ⟨s', hf', hs', hk⟩
   cases e with
   | normal => exact (ih hk h2).go n a1 w1 hf' hs'
   | _ => exact ⟨s', hf', hs', hk⟩
  | _ => exact base h1 h2
theorem enterP {P : Program} {T : Tab} (hT : TabOk P T) {g : FuncId} {fn : Func} {c : Code} (hf : P.funcs[g]? = some fn) (hb : fn.body = some c) {N : Nat} (hN : fn.ntmps = N) {vs : List Value} (hle : Nat.ble vs.length N = true) {M : Bks} {w : World} {L : List Ent}
 {R : Value → World → Prop} (hs : St M w w L) (h : CodeP ⟨P, T, N, M, w, none⟩ c (retK ⟨P, T, N, M, w, none⟩ fn R) ⟨par 0 vs, L, []⟩) : Calls P g vs.toArray w fun e w' => ∃ v, e = .returned v ∧ R v w' := by
 subst hN
 refine (callsIn_wide (n := 3)).1 (callsIn_of_wp_marks hf hb trivial (wpIn_mono (h.go 3 _ w ⟨by have := Nat.le_of_ble_eq_true hle; simp; omega, rfl, ?_⟩ hs) ?_) rfl)
 · intro i v hv
   obtain ⟨_, h1⟩ := par_get _ _ _ _ hv
   have hi : i < vs.length := (List.getElem?_eq_some_iff.1 h1).1
   simp [Array.getD_eq_getD_getElem?, Array.getElem?_append, hi]
   simpa [hi] using h1
 · rintro e a w' ⟨s, hf', hs', hk⟩
   have hd := hf'.defers
   cases e with
   | normal => simp only [bodyPostM, hd]; exact qaP (C := ⟨P, T, fn.ntmps, M, w, none⟩) hT hf'.slot s.D s.L w' hs' hk
   | ret => simp only [bodyPostM, hd]; exact qaP (C := ⟨P, T, fn.ntmps, M, w, none⟩) hT hf'.slot s.D s.L w' hs' hk
   | _ => exact hk.elim
end
end Go.Sx
namespace Go.Proofs.YtbgefoamhdgnaaaGreatDoor
section
open Go.RowKit Go.Sx
def RdS (w : World) (v : Value) (ps : List Bs) : Prop := (∀ p ∈ ps, p.length = 32) ∧ ∃ a c, v = .slice a ps.length c ∧ ps.length ≤ c ∧ (ps ≠ [] → ∃ b o, a = some ⟨b, o, none⟩ ∧ b < w.heap.size ∧ ∀ i p, ps[i]? = some p → w.rangeAt b (o + 32 * i) (Lib.byteCells p))
theorem RdS.below {w w' : World} {v : Value} {ps : List Bs} (h : RdS w v ps) (hb : Below w.heap.size w w') : RdS w' v ps := by
 obtain ⟨h1, a, c, h2, h3, h4⟩ := h
 refine ⟨h1, a, c, h2, h3, fun hn => ?_⟩
 obtain ⟨b, o, e, hl, hr⟩ := h4 hn
 exact ⟨b, o, e, Nat.lt_of_lt_of_le hl hb.size, fun i p hp j u hu => (hb.cell (p := ⟨b, _, none⟩) hl).trans (hr i p hp j u hu)⟩
def rdS (a : Option Addr) (c : Nat) (ps : List Bs) : Res where
 w := fun _ => False
 r := fun k => ps ≠ [] ∧ ∃ o, a = some ⟨k, o, none⟩
 p := fun w => RdS w (.slice a ps.length c) ps
 st := fun u v h hp => by
  obtain ⟨h1, a', c', h2, h3, h4⟩ := hp
  refine ⟨h1, a', c', h2, h3, fun hne => ?_⟩
  obtain ⟨b, o, e1, hl, hr⟩ := h4 hne
  injection h2 with e2 _ _
  have hb := h b (.inr ⟨hne, o, by rw [e2, e1]⟩)
  refine ⟨b, o, e1, ?_, fun i p hp j x hx => ?_⟩
  · rw [Array.getElem?_eq_getElem hl] at hb
    exact (Array.getElem?_eq_some_iff.1 hb).1
  · rw [← hr i p hp j x hx]; simp only [World.cell?, hb]
 bd := fun u h k hk => by
  rcases hk with hk | ⟨hne, o, hk⟩
  · exact hk.elim
  · obtain ⟨h1, a', c', h2, h3, h4⟩ := h
    obtain ⟨b, o2, e1, hl, _⟩ := h4 hne
    injection h2 with e2 _ _
    rw [hk, e1] at e2
    injection e2 with e2
    injection e2 with e2 _
    rw [e2]; exact hl
theorem St.rdS {a : Option Addr} {c : Nat} {ps : List Bs} {w : World} (h : RdS w (.slice a ps.length c) ps) : St [] w w [rs (Go.Proofs.YtbgefoamhdgnaaaGreatDoor.rdS a c ps)] := St.reads fun e he => by
 obtain rfl : e = rs (Go.Proofs.YtbgefoamhdgnaaaGreatDoor.rdS a c ps) := by simpa using he
 exact ⟨(qbq _ w).2 h, fun k hk => (rsW _ k).1 hk⟩
theorem RdS.tail {w : World} {b o n c : Nat} {p : Bs} {ps : List Bs} (h : RdS w (.slice (some ⟨b, o, none⟩) n c) (p :: ps)) (a' : Option Addr) (c' : Nat) (ha : ps ≠ [] → a' = some ⟨b, o + 32, none⟩) (hc : ps.length ≤ c') : RdS w (.slice a' ps.length c') ps := by
 obtain ⟨h1, a2, c2, h2, h3, h4⟩ := h
 refine ⟨fun q hq => h1 q (by simp [hq]), a', c', rfl, hc, fun hne => ?_⟩
 obtain ⟨b2, o2, e1, hl, hr⟩ := h4 (by simp)
 injection h2 with e2 _ _
 rw [e1] at e2
 injection e2 with e2
 injection e2 with e2 e3
 subst e2 e3
 refine ⟨b, o + 32, ha hne, hl, fun i q hq => ?_⟩
 have := hr (i + 1) q (by simpa using hq)
 rwa [show o + 32 * (i + 1) = o + 32 + 32 * i by omega] at this
def qap : List Bool → List Bs → Bs × Bs → Bs × Bs
 | t :: ts, p :: ps, x => qap ts ps (if t then (x.1, Qh x.2 p) else (Qh p x.1, Qh p x.2))
 | _, _, x => x
def extE (T : List Bool) (old new f : Bs) (rs : List Bs) : Bool := if rs.length = T.length then decide ((qap T.reverse rs (f, f)).1 = old) && decide ((qap T.reverse rs (f, f)).2 = new) else false
def extB (m n : Int) (old new : Bs) (ps : List Bs) : Bool :=
 if n < 1 ∨ 1048576 < n ∨ m < 1 ∨ n < m then false
 else if (qU m.toNat n.toNat).2 then extE (qU m.toNat n.toNat).1 old new old ps
 else match ps with
  | [] => false
  | p :: r => extE (qU m.toNat n.toNat).1 old new p r
end
section
open Go.RowKit Go.Sx
def AuS.takeB (S : AuS) (h : Hd) (n r : Nat) (g : Bool) : Nat :=
 if r ≠ 0 then r else match S.last with
 | none => if 0 < n then 13 else 0
 | some l => if h.size < l.size ∨ h.time < l.time then 2 else if g = false then 13 else 0
def AuS.put (S : AuS) (h : Hd) (b : Nat) : AuS := { S with last := some h, bh := b, fs := zM h.size (Qe h.root) S.clk S.fs, clk := qcQ h.size S.fs S.clk }
theorem modify_same {α β : Type} (g : α → β) (f : α → α) (h : ∀ x, g (f x) = g x) (l : List α) (i : Nat) : (l.modify i f).map g = l.map g := by
 induction l generalizing i with
 | nil => simp
 | cons x l ih => cases i <;> simp [h, ih]
theorem modify_mem {α : Type} (f : α → α) (l : List α) (i : Nat) {y : α} (h : y ∈ l.modify i f) : ∃ x ∈ l, y = x ∨ y = f x := by
 obtain ⟨j, hj⟩ := List.mem_iff_getElem?.1 h
 rw [List.getElem?_modify] at hj
 split at hj
 · cases hl : l[j]? with
   | none => rw [hl] at hj; cases hj
   | some x => rw [hl] at hj; injection hj with hj; exact ⟨x, List.mem_of_getElem? hl, .inr hj.symm⟩
 · cases hl : l[j]? with
   | none => rw [hl] at hj; cases hj
   | some x => rw [hl] at hj; injection hj with hj; exact ⟨x, List.mem_of_getElem? hl, .inl hj.symm⟩
theorem set_es (k : Int) (v : Value) (clk : Nat) (fs : Es Int) (hn : (fs.map (·.2.2)).Nodup) (hl : ∀ e ∈ fs, e.2.2 < clk) :
 ((zM k v clk fs).map (·.2.2)).Nodup ∧ ∀ e ∈ zM k v clk fs, e.2.2 < qcQ k fs clk ∧ (e ∈ fs ∨ e.2.1 = v) := by
 unfold qcQ qas
 cases h : Qg k fs 0 with
 | none =>
  rw [set_new h]
  refine ⟨?_, fun e he => ?_⟩
  · rw [List.map_append, List.nodup_append]
    refine ⟨hn, by simp, fun a ha b hb e => ?_⟩
    obtain ⟨x, hx, rfl⟩ := List.mem_map.1 ha
    have := hl x hx
    simp at hb
    omega
  · simp only [Option.map_none, Option.isSome_none, Bool.false_eq_true, if_false]
    rcases List.mem_append.1 he with he | he
    · exact ⟨Nat.lt_succ_of_lt (hl e he), .inl he⟩
    · obtain rfl : e = (k, v, clk) := by simpa using he
      exact ⟨Nat.lt_succ_self _, .inr rfl⟩
 | some p =>
  obtain ⟨i, u⟩ := p
  rw [qen h]
  refine ⟨?_, fun e he => ?_⟩
  · rw [modify_same (fun e : Int × Value × Nat => e.2.2) (fun e => (k, v, e.2.2)) (fun x => rfl)]; exact hn
  · simp only [Option.map_some, Option.isSome_some, if_true]
    obtain ⟨x, hx, h1 | h1⟩ := modify_mem _ _ _ he
    · subst h1; exact ⟨hl _ hx, .inl hx⟩
    · subst h1; exact ⟨hl x hx, .inr rfl⟩
theorem setS_keys (k : Int) (v : Value) (clk : Nat) (fs : Es Int) : (zM k v clk fs).map (·.1) = if k ∈ fs.map (·.1) then fs.map (·.1) else fs.map (·.1) ++ [k] := by
 induction fs with
 | nil => rfl
 | cons e l ih =>
  unfold zM
  by_cases hk : k = e.1
  · rw [if_pos hk]; simp [hk]
  · rw [if_neg hk, List.map_cons, ih]
    by_cases hm : k ∈ l.map (·.1)
    · rw [if_pos hm, if_pos (by rw [List.map_cons]; exact List.mem_cons_of_mem _ hm), List.map_cons]
    · rw [if_neg hm, if_neg (by rw [List.map_cons, List.mem_cons]; exact fun h => h.elim hk hm), List.map_cons, List.cons_append]
theorem last_top {l : List Int} {m : Int} (hp : l.Pairwise (· < ·)) (hl : l.getLast? = some m) : ∀ k ∈ l, k ≤ m := by
 obtain ⟨i, rfl⟩ := List.getLast?_eq_some_iff.1 hl
 intro k hk
 rcases List.mem_append.1 hk with h | h
 · exact Int.le_of_lt ((List.pairwise_append.1 hp).2.2 k h m (by simp))
 · simp at h; omega
theorem put_keys {S : AuS} {u : World} {x : Hd} (h : AuP S u) (hz : 0 ≤ x.size ∧ x.size ≤ 1048576) (hge : ∀ l, S.last = some l → l.size ≤ x.size) (v : Value) :
 (∀ k ∈ (zM x.size v S.clk S.fs).map (·.1), 0 ≤ k ∧ k ≤ 1048576) ∧ ((zM x.size v S.clk S.fs).map (·.1)).Pairwise (· < ·) ∧ ((zM x.size v S.clk S.fs).map (·.1)).getLast? = some x.size := by
 rw [setS_keys]
 cases hl : S.last with
 | none => rw [h.k0 hl]; simp; omega
 | some l =>
  have ht := last_top h.ks (h.kl l hl)
  have hg := hge l hl
  by_cases hm : x.size ∈ S.fs.map (·.1)
  · rw [if_pos hm]
    have := ht _ hm
    exact ⟨h.kb, h.ks, by rw [h.kl l hl]; congr 1; omega⟩
  · rw [if_neg hm]
    refine ⟨fun k hk => ?_, ?_, by simp⟩
    · rcases List.mem_append.1 hk with h1 | h1
      · exact h.kb k h1
      · simp at h1; omega
    · rw [List.pairwise_append]
      refine ⟨h.ks, by simp, fun a ha b hb => ?_⟩
      have h1 := ht a ha
      have : a ≠ x.size := fun e => hm (e ▸ ha)
      simp at hb; omega
theorem au_rw {S : AuS} {w : World} (h : AuP S w) {v : Value} (hv : S.lastV = v) : St [bl S.bA, bl S.bm] w w [cl S.bA (auC S.p S.o v (.map (some S.bm))) TAu, me S.bm keI S.fs S.clk] := by
 subst hv
 exact St.from w _ _ (fun e he => by
  simp only [List.mem_cons, List.not_mem_nil, or_false] at he
  rcases he with rfl | rfl
  · exact ⟨by simpa using h.a, fun k hk => by simp at hk; simp [bl, hk]⟩
  · exact ⟨by simpa using h.m, fun k hk => by simp at hk; simp [bl, hk]⟩) (by
    refine .cons (fun y hy => ?_) (by simp)
    obtain rfl : y = me S.bm keI S.fs S.clk := by simpa using hy
    have := h.ne
    exact fun k => ⟨fun h1 h2 => by simp at h1 h2; omega, fun h1 h2 => by simp at h1 h2; omega⟩)
theorem Zd {S : AuS} {x : Hd} (hx : S.last = some x) : S.lastV = ptr S.bh := by unfold AuS.lastV; rw [hx]
theorem qbG {S : AuS} (hx : S.last = none) : S.lastV = .pointer none := by unfold AuS.lastV; rw [hx]
theorem au_rwH {S : AuS} {w : World} (h : AuP S w) (x : Hd) (hx : S.last = some x) : St [bl S.bA, bl S.bm] w w [cl S.bA (auC S.p S.o (ptr S.bh) (.map (some S.bm))) TAu, me S.bm keI S.fs S.clk, cr S.bh (hdC x) THd] :=
 St.from w _ _ (fun e he => by
  simp only [List.mem_cons, List.not_mem_nil, or_false] at he
  rcases he with rfl | rfl | rfl
  · have := h.a
    unfold AuS.lastV at this
    rw [hx] at this
    exact ⟨by simpa using this, fun k hk => by simp at hk; simp [bl, hk]⟩
  · exact ⟨by simpa using h.m, fun k hk => by simp at hk; simp [bl, hk]⟩
  · exact ⟨by simpa using h.h x hx, fun k hk => by simp at hk⟩) (by
    have h1 := h.ne
    obtain ⟨h2, h3⟩ := h.nh (by rw [hx]; simp)
    refine .cons (fun y hy => ?_) (.cons (fun y hy => ?_) (by simp))
    · simp only [List.mem_cons, List.not_mem_nil, or_false] at hy
      rcases hy with rfl | rfl
      · exact fun k => ⟨fun h1 h2 => by simp at h1 h2; omega, fun h1 h2 => by simp at h1 h2; omega⟩
      · exact fun k => ⟨fun h1 h2 => by simp at h1 h2; omega, fun h1 h2 => by simp at h1⟩
    · obtain rfl : y = cr S.bh (hdC x) THd := by simpa using hy
      exact fun k => ⟨fun h1 h2 => by simp at h1 h2; omega, fun h1 h2 => by simp at h1⟩)
theorem zg {S : AuS} {w w' : World} {L : List Ent} (h : AuP S w) {v : Value} (hv : S.lastV = v) (hs : St [bl S.bA, bl S.bm] w w' L) (h0 : L[0]? = some (cl S.bA (auC S.p S.o v (.map (some S.bm))) TAu)) (h1 : L[1]? = some (me S.bm keI S.fs S.clk)) : Below w.heap.size w w' := by
 subst hv
 refine ⟨hs.os, hs.tape, hs.output, hs.size, fun k hk => ?_⟩
 by_cases ha : k = S.bA
 · subst ha; rw [hs.nth h0, h.a]
 · by_cases hb : k = S.bm
   · subst hb; rw [hs.nth h1, h.m]
   · exact hs.old k hk (by simp [bl, ha, hb])
theorem qbZ {S : AuS} {w w' : World} {L : List Ent} (h : AuP S w) {v : Value} (hv : S.lastV = v) (hs : St [bl S.bA, bl S.bm] w w' L) (h0 : L[0]? = some (cl S.bA (auC S.p S.o v (.map (some S.bm))) TAu)) (h1 : L[1]? = some (me S.bm keI S.fs S.clk)) : Turns w w' (auR S) (auR S) :=
 Turns.of_below (r := auR S) h (zg h hv hs h0 h1)
theorem au_put {S : AuS} {w w' : World} {L : List Ent} {x : Hd} {b j : Nat} (h : AuP S w) (hx : qa0 x) (hz : 0 ≤ x.size ∧ x.size ≤ 1048576) (hge : ∀ l, S.last = some l → l.size ≤ x.size) (hs : St [bl S.bA, bl S.bm] w w' L) (h0 : L[0]? = some (cl S.bA (auC S.p S.o (ptr b) (.map (some S.bm))) TAu)) (h1 : L[1]? = some (me S.bm keI (zM x.size (Qe x.root) S.clk S.fs) (qcQ x.size S.fs S.clk)))
 (h2 : L[j]? = some (cl b (hdC x) THd)) (hj : 2 ≤ j) : Turns w w' (auR S) (auR (S.put x b)) := by
 obtain ⟨k1, k2, k3⟩ := put_keys h hz hge (Qe x.root)
 obtain ⟨e1, e2⟩ := set_es x.size (Qe x.root) S.clk S.fs h.nb h.lt
 have hb : w.heap.size ≤ b := by
  rcases hs.own _ (List.mem_of_getElem? h2) rfl rfl with hh | hh
  · exact hh
  · have l0 := (Array.getElem?_eq_some_iff.1 h.a).1
    have l1 := (Array.getElem?_eq_some_iff.1 h.m).1
    have p0 := Qx hs.apart h0 h2 (by omega)
    have p1 := Qx hs.apart h1 h2 (by omega)
    simp only [qbM, qcT, bl, or_false] at hh
    rcases hh with hh | hh
    · exact absurd (by simp [hh]) ((p0 b).2 (by simp))
    · exact absurd (by simp [hh]) ((p1 b).2 (by simp))
 have l0 := (Array.getElem?_eq_some_iff.1 h.a).1
 have l1 := (Array.getElem?_eq_some_iff.1 h.m).1
 refine Turns.of_st hs (fun k hk => ?_) ⟨hs.nth h0, hs.nth h1, fun y hy => ?_, h.ne, fun _ => ⟨?_, ?_⟩, e1, fun e he => (e2 e he).1, fun y hy => ?_, fun e he => ?_, k1, k2, fun y hy => ?_, fun hy => ?_⟩ (fun k hk => ?_) (fun k hk => ?_)
 · simp only [qbM, qcT, bl, or_false] at hk
   rcases hk with hk | hk
   · exact .inl hk
   · exact .inr (.inl hk)
 · obtain rfl : x = y := Option.some.inj hy
   exact hs.nth h2
 · show b ≠ S.bA; omega
 · show b ≠ S.bm; omega
 · obtain rfl : x = y := Option.some.inj hy
   exact hx
 · rcases (e2 e he).2 with h3 | h3
   · exact h.v e h3
   · exact ⟨x.root, hx.1, h3⟩
 · obtain rfl : x = y := Option.some.inj hy
   exact k3
 · cases hy
 · rcases hk with rfl | rfl | ⟨_, rfl⟩
   · exact .inl (.inl rfl)
   · exact .inl (.inr (.inl rfl))
   · exact .inr hb
 · rcases hk with (rfl | rfl | ⟨_, rfl⟩) | hk
   · exact .inl (.inl (.inl rfl))
   · exact .inl (.inl (.inr (.inl rfl)))
   · exact .inr hb
   · exact hk.elim
theorem qam (p : Nat) (o : Bs) (l m : Value) : (auC p o l m).extract 0 (0 + 32) = k32 p := by
 have hl : (k32 p).toList.length = 32 := by simpa using qg p
 unfold auC
 rw [List.extract_toArray, List.extract_eq_take_drop, List.drop_zero, List.take_left' (by rw [hl])]
theorem qaT (h : Hd) (hr : h.root.length = 32) : (hdC h).extract 3 (3 + 32) = (Lib.byteCells h.root).toArray := by
 unfold hdC
 rw [List.extract_toArray, List.extract_eq_take_drop]
 show (List.take 32 (Lib.byteCells h.root ++ Lib.byteCells h.sig)).toArray = _
 rw [List.take_left' (by simp [Lib.byteCells_length, hr])]
abbrev ZP (S : AuS) (h : Hd) (r : Nat) (w : World) : Prop := ∀ w', Below w.heap.size w w' → Calls Tryz.prog 47 ([.agg (hdC h), .agg (k32 S.p), VS S.o] : List Value).toArray w' fun e w'' => e = .returned (ZF r) ∧ Below w'.heap.size w' w''
abbrev GrowsC (l h : Hd) (ps : Value) (g : Bool) (w : World) : Prop := ∀ w', Below w.heap.size w w' → Calls Tryz.prog 48 ([.int .i64 l.size, Qe l.root, .int .i64 h.size, Qe h.root, ps] : List Value).toArray w' fun e w'' => e = .returned (.bool g) ∧ Below w'.heap.size w' w''
theorem auC_set (p : Nat) (o : Bs) (l l' m : Value) : (auC p o l m).setIfInBounds 33 l' = auC p o l' m := by
 have hl : (k32 p).toList.length = 32 := by simpa using qg p
 apply Array.ext'
 unfold auC
 simp only [Array.toList_setIfInBounds]
 rw [List.set_append_right _ _ (by omega), hl]
 rfl
theorem take_bad (S : AuS) (x : Hd) (a : Option Addr) (n c r : Nat) (hx : qa0 x) (w : World) (h : AuP S w) (hR : ZP S x r w) (hr : r ≠ 0) :
 Calls Tryz.prog 15 ([ptr S.bA, .agg (hdC x), .slice a n c] : List Value).toArray w fun e w' => e = .returned (ZF r) ∧ Turns w w' (auR S) (auR S) := by
 have hsz := Qy x hx.1 hx.2
 have ha := qaJ S.p S.o S.lastV (.map (some S.bm))
 refine (enter qd Tryz.func15 rfl Tryz.ntmps15 rfl (au_rw h rfl) (R := fun v w' => v = ZF r ∧ Turns w w' (auR S) (auR S)) ?_).mono (fun e w' ⟨v, he, h1⟩ => ⟨by rw [he, h1.1], h1.2⟩)
 intro b4
 refine cf rfl ?_
 refine dr [cl S.bA (auC S.p S.o S.lastV (.map (some S.bm))) TAu, me S.bm keI S.fs S.clk, cl b4 (hdC x) THd] 99 (.t 0 (.t 1 (.t 2 (.t 3 (.t 4 (.t 5 (.t 6 (.t 7 (.t 8 (.n 9 (.t 10 .nil))))))))))) qd qf (by kernel_rfl) (.cons (.cons (.cons .nil))) ?_
 refine ldN 2 rfl hsz ?_
 refine ldP 0 (d := k32 S.p) rfl (qg _) (qam _ _ _ _) ?_
 refine ld1 0 rfl (by exact ha.1) ?_
 refine cvs (fun w' hs => hR w' (zg h rfl hs rfl rfl)) ?_
 refine ⟨.cons (.cons (.cons .nil)), ?_⟩
 rw [errVs r hr]
 refine ct rfl ?_
 exact ⟨fun w1 hs => ⟨rfl, qbZ h rfl hs rfl rfl⟩⟩
theorem take_first (S : AuS) (x : Hd) (a : Option Addr) (n c r : Nat) (hl : S.last = none) (hx : qa0 x) (w : World) (h : AuP S w) (hR : ZP S x r w) (hr : r = 0) (hn : 0 < n) :
 Calls Tryz.prog 15 ([ptr S.bA, .agg (hdC x), .slice a n c] : List Value).toArray w fun e w' => e = .returned (ZF 13) ∧ Turns w w' (auR S) (auR S) := by
 have hsz := Qy x hx.1 hx.2
 have ha := qaJ S.p S.o (.pointer none) (.map (some S.bm))
 refine (enter qd Tryz.func15 rfl Tryz.ntmps15 rfl (au_rw h (qbG hl)) (R := fun v w' => v = ZF 13 ∧ Turns w w' (auR S) (auR S)) ?_).mono (fun e w' ⟨v, he, h1⟩ => ⟨by rw [he, h1.1], h1.2⟩)
 intro b4
 refine cf rfl ?_
 refine dr [cl S.bA (auC S.p S.o (.pointer none) (.map (some S.bm))) TAu, me S.bm keI S.fs S.clk, cl b4 (hdC x) THd] 99 (.t 0 (.t 1 (.t 2 (.t 3 (.t 4 (.t 5 (.t 6 (.t 7 (.t 8 (.n 9 (.t 10 .nil))))))))))) qd qf (by kernel_rfl) (.cons (.cons (.cons .nil))) ?_
 refine ldN 2 rfl hsz ?_
 refine ldP 0 (d := k32 S.p) rfl (qg _) (qam _ _ _ _) ?_
 refine ld1 0 rfl (by exact ha.1) ?_
 refine cvs (fun w' hs => hR w' (zg h (qbG hl) hs rfl rfl)) ?_
 refine ⟨.cons (.cons (.cons .nil)), ?_⟩
 subst hr
 refine cf rfl ?_
 refine ld1 0 rfl (by exact ha.2.1) ?_
 iterate 4 refine ct rfl ?_
 refine ct (decide_eq_true (by omega)) ?_
 exact ⟨fun w1 hs => ⟨rfl, qbZ h (qbG hl) hs rfl rfl⟩⟩
theorem take_one (S : AuS) (x : Hd) (a : Option Addr) (n c r : Nat) (hl : S.last = none) (hx : qa0 x) (w : World) (h : AuP S w) (hR : ZP S x r w) (hr : r = 0) (hn : n = 0) (hz : 0 ≤ x.size ∧ x.size ≤ 1048576) :
 Calls Tryz.prog 15 ([ptr S.bA, .agg (hdC x), .slice a n c] : List Value).toArray w fun e w' => e = .returned .nilIface ∧ ∃ b, Turns w w' (auR S) (auR (S.put x b)) := by
 have hsz := Qy x hx.1 hx.2
 have ha := qaJ S.p S.o (.pointer none) (.map (some S.bm))
 refine (enter qd Tryz.func15 rfl Tryz.ntmps15 rfl (au_rw h (qbG hl)) (R := fun v w' => v = .nilIface ∧ ∃ b, Turns w w' (auR S) (auR (S.put x b))) ?_).mono (fun e w' ⟨v, he, h1⟩ => ⟨by rw [he, h1.1], h1.2⟩)
 intro b4
 refine cf rfl ?_
 refine dr [cl S.bA (auC S.p S.o (.pointer none) (.map (some S.bm))) TAu, me S.bm keI S.fs S.clk, cl b4 (hdC x) THd] 99 (.t 0 (.t 1 (.t 2 (.t 3 (.t 4 (.t 5 (.t 6 (.t 7 (.t 8 (.n 9 (.t 10 .nil))))))))))) qd qf (by kernel_rfl) (.cons (.cons (.cons .nil))) ?_
 refine ldN 2 rfl hsz ?_
 refine ldP 0 (d := k32 S.p) rfl (qg _) (qam _ _ _ _) ?_
 refine ld1 0 rfl (by exact ha.1) ?_
 refine cvs (fun w' hs => hR w' (zg h (qbG hl) hs rfl rfl)) ?_
 refine ⟨.cons (.cons (.cons .nil)), ?_⟩
 have hge : ∀ l, S.last = some l → l.size ≤ x.size := fun l hl' => by rw [hl] at hl'; cases hl'
 subst hn
 subst hr
 refine cf rfl ?_
 refine ld1 0 rfl (by exact ha.2.1) ?_
 iterate 4 refine ct rfl ?_
 refine cf rfl ?_
 refine ct rfl ?_
 refine drs [cl S.bA (auC S.p S.o (.pointer none) (.map (some S.bm))) TAu, me S.bm keI S.fs S.clk, cl b4 (hdC x) THd] [11, 12, 13, 14] (.t 0 (.t 1 (.t 2 (.t 3 (.t 4 (.t 5 (.t 6 (.t 7 (.t 8 (.t 9 (.t 10 (.n 11 (.n 12 (.n 13 (.n 14 .nil))))))))))))))) qd qf (by kernel_rfl) (.cons (.cons (.cons .nil))) ?_
 refine ld1 0 rfl (by exact ha.2.2) ?_
 refine ld1 2 rfl rfl ?_
 refine ldP 2 (d := (Lib.byteCells x.root).toArray) rfl (by simp [Lib.byteCells_length, hx.1]) (qaT x hx.1) ?_
 refine s1e 0 (auC S.p S.o (ptr b4) (.map (some S.bm))) rfl (by rw [auC_size]; decide) (auC_set _ _ _ _ _) ?_
 refine men (ke := keI) 1 rfl undMp keyI zSum ?_
 refine est (ke := keI) 1 rfl rfl h.nb h.lt ?_
 exact ⟨fun w1 hs => ⟨rfl, b4, au_put (j := 2) h hx hz hge hs rfl rfl rfl (by decide)⟩⟩
theorem take_size (S : AuS) (x : Hd) (a : Option Addr) (n c r : Nat) (l : Hd) (hl : S.last = some l) (hx : qa0 x) (w : World) (h : AuP S w) (hR : ZP S x r w) (hr : r = 0) (h1 : x.size < l.size) :
 Calls Tryz.prog 15 ([ptr S.bA, .agg (hdC x), .slice a n c] : List Value).toArray w fun e w' => e = .returned (ZF 2) ∧ Turns w w' (auR S) (auR S) := by
 have hsz := Qy x hx.1 hx.2
 have ha := qaJ S.p S.o (ptr S.bh) (.map (some S.bm))
 have lsz := Qy l (h.hk l hl).1 (h.hk l hl).2
 refine (enter qd Tryz.func15 rfl Tryz.ntmps15 rfl (au_rwH h l hl) (R := fun v w' => v = ZF 2 ∧ Turns w w' (auR S) (auR S)) ?_).mono (fun e w' ⟨v, he, h1⟩ => ⟨by rw [he, h1.1], h1.2⟩)
 intro b4
 refine cf rfl ?_
 refine dr [cl S.bA (auC S.p S.o (ptr S.bh) (.map (some S.bm))) TAu, me S.bm keI S.fs S.clk, cr S.bh (hdC l) THd, cl b4 (hdC x) THd] 99 (.t 0 (.t 1 (.t 2 (.t 3 (.t 4 (.t 5 (.t 6 (.t 7 (.t 8 (.n 9 (.t 10 .nil))))))))))) qd qf (by kernel_rfl) (.cons (.cons (.cons (.cons .nil)))) ?_
 refine ldN 3 rfl hsz ?_
 refine ldP 0 (d := k32 S.p) rfl (qg _) (qam _ _ _ _) ?_
 refine ld1 0 rfl (by exact ha.1) ?_
 refine cvs (fun w' hs => hR w' (zg h (Zd hl) hs rfl rfl)) ?_
 refine ⟨.cons (.cons (.cons (.cons .nil))), ?_⟩
 subst hr
 refine cf rfl ?_
 refine ld1 0 rfl (by exact ha.2.1) ?_
 iterate 6 refine cf rfl ?_
 refine dr [cl S.bA (auC S.p S.o (ptr S.bh) (.map (some S.bm))) TAu, me S.bm keI S.fs S.clk, cr S.bh (hdC l) THd, cl b4 (hdC x) THd] 99 (.t 0 (.t 1 (.t 2 (.t 3 (.t 4 (.t 5 (.t 6 (.t 7 (.t 8 (.t 9 (.t 10 (.t 11 (.t 12 (.t 13 (.t 14 (.t 15 (.t 16 .nil))))))))))))))))) qd qf (by kernel_rfl) (.cons (.cons (.cons (.cons .nil)))) ?_
 refine ld1 3 rfl rfl ?_
 refine ld1 2 rfl rfl ?_
 have g1 := decide_eq_true h1
 have g1' : (decide (x.size < l.size) == false) = false := by rw [g1]; rfl
 iterate 7 refine cf g1' ?_
 refine ct g1 ?_
 refine ct rfl ?_
 exact ⟨fun w1 hs => ⟨rfl, qbZ h (Zd hl) hs rfl rfl⟩⟩
theorem take_time (S : AuS) (x : Hd) (a : Option Addr) (n c r : Nat) (l : Hd) (hl : S.last = some l) (hx : qa0 x) (w : World) (h : AuP S w) (hR : ZP S x r w) (hr : r = 0) (h1 : l.size ≤ x.size) (h2 : x.time < l.time) :
 Calls Tryz.prog 15 ([ptr S.bA, .agg (hdC x), .slice a n c] : List Value).toArray w fun e w' => e = .returned (ZF 2) ∧ Turns w w' (auR S) (auR S) := by
 have hsz := Qy x hx.1 hx.2
 have ha := qaJ S.p S.o (ptr S.bh) (.map (some S.bm))
 have lsz := Qy l (h.hk l hl).1 (h.hk l hl).2
 refine (enter qd Tryz.func15 rfl Tryz.ntmps15 rfl (au_rwH h l hl) (R := fun v w' => v = ZF 2 ∧ Turns w w' (auR S) (auR S)) ?_).mono (fun e w' ⟨v, he, h1⟩ => ⟨by rw [he, h1.1], h1.2⟩)
 intro b4
 refine cf rfl ?_
 refine dr [cl S.bA (auC S.p S.o (ptr S.bh) (.map (some S.bm))) TAu, me S.bm keI S.fs S.clk, cr S.bh (hdC l) THd, cl b4 (hdC x) THd] 99 (.t 0 (.t 1 (.t 2 (.t 3 (.t 4 (.t 5 (.t 6 (.t 7 (.t 8 (.n 9 (.t 10 .nil))))))))))) qd qf (by kernel_rfl) (.cons (.cons (.cons (.cons .nil)))) ?_
 refine ldN 3 rfl hsz ?_
 refine ldP 0 (d := k32 S.p) rfl (qg _) (qam _ _ _ _) ?_
 refine ld1 0 rfl (by exact ha.1) ?_
 refine cvs (fun w' hs => hR w' (zg h (Zd hl) hs rfl rfl)) ?_
 refine ⟨.cons (.cons (.cons (.cons .nil))), ?_⟩
 subst hr
 refine cf rfl ?_
 refine ld1 0 rfl (by exact ha.2.1) ?_
 iterate 6 refine cf rfl ?_
 refine dr [cl S.bA (auC S.p S.o (ptr S.bh) (.map (some S.bm))) TAu, me S.bm keI S.fs S.clk, cr S.bh (hdC l) THd, cl b4 (hdC x) THd] 99 (.t 0 (.t 1 (.t 2 (.t 3 (.t 4 (.t 5 (.t 6 (.t 7 (.t 8 (.t 9 (.t 10 (.t 11 (.t 12 (.t 13 (.t 14 (.t 15 (.t 16 .nil))))))))))))))))) qd qf (by kernel_rfl) (.cons (.cons (.cons (.cons .nil)))) ?_
 refine ld1 3 rfl rfl ?_
 refine ld1 2 rfl rfl ?_
 have g1 : decide (x.size < l.size) = false := decide_eq_false (by omega)
 have g1' : (decide (x.size < l.size) == false) = true := by rw [g1]; rfl
 have g2 := decide_eq_true h2
 iterate 2 refine ct g1' ?_
 refine ld1 3 rfl rfl ?_
 iterate 4 refine ct g1' ?_
 refine ld1 2 rfl rfl ?_
 refine ct g1' ?_
 refine cf g1 ?_
 refine ct g2 ?_
 exact ⟨fun w1 hs => ⟨rfl, qbZ h (Zd hl) hs rfl rfl⟩⟩
theorem qda (S : AuS) (x : Hd) (a : Option Addr) (n c r : Nat) (l : Hd) (hl : S.last = some l) (hx : qa0 x) (w : World) (h : AuP S w) (hR : ZP S x r w) (hr : r = 0) (h1 : l.size ≤ x.size) (h2 : l.time ≤ x.time) (hG : GrowsC l x (.slice a n c) false w) :
 Calls Tryz.prog 15 ([ptr S.bA, .agg (hdC x), .slice a n c] : List Value).toArray w fun e w' => e = .returned (ZF 13) ∧ Turns w w' (auR S) (auR S) := by
 have hsz := Qy x hx.1 hx.2
 have ha := qaJ S.p S.o (ptr S.bh) (.map (some S.bm))
 have lsz := Qy l (h.hk l hl).1 (h.hk l hl).2
 refine (enter qd Tryz.func15 rfl Tryz.ntmps15 rfl (au_rwH h l hl) (R := fun v w' => v = ZF 13 ∧ Turns w w' (auR S) (auR S)) ?_).mono (fun e w' ⟨v, he, h1⟩ => ⟨by rw [he, h1.1], h1.2⟩)
 intro b4
 refine cf rfl ?_
 refine dr [cl S.bA (auC S.p S.o (ptr S.bh) (.map (some S.bm))) TAu, me S.bm keI S.fs S.clk, cr S.bh (hdC l) THd, cl b4 (hdC x) THd] 99 (.t 0 (.t 1 (.t 2 (.t 3 (.t 4 (.t 5 (.t 6 (.t 7 (.t 8 (.n 9 (.t 10 .nil))))))))))) qd qf (by kernel_rfl) (.cons (.cons (.cons (.cons .nil)))) ?_
 refine ldN 3 rfl hsz ?_
 refine ldP 0 (d := k32 S.p) rfl (qg _) (qam _ _ _ _) ?_
 refine ld1 0 rfl (by exact ha.1) ?_
 refine cvs (fun w' hs => hR w' (zg h (Zd hl) hs rfl rfl)) ?_
 refine ⟨.cons (.cons (.cons (.cons .nil))), ?_⟩
 subst hr
 refine cf rfl ?_
 refine ld1 0 rfl (by exact ha.2.1) ?_
 iterate 6 refine cf rfl ?_
 refine dr [cl S.bA (auC S.p S.o (ptr S.bh) (.map (some S.bm))) TAu, me S.bm keI S.fs S.clk, cr S.bh (hdC l) THd, cl b4 (hdC x) THd] 99 (.t 0 (.t 1 (.t 2 (.t 3 (.t 4 (.t 5 (.t 6 (.t 7 (.t 8 (.t 9 (.t 10 (.t 11 (.t 12 (.t 13 (.t 14 (.t 15 (.t 16 .nil))))))))))))))))) qd qf (by kernel_rfl) (.cons (.cons (.cons (.cons .nil)))) ?_
 refine ld1 3 rfl rfl ?_
 refine ld1 2 rfl rfl ?_
 have g1 : decide (x.size < l.size) = false := decide_eq_false (by omega)
 have g1' : (decide (x.size < l.size) == false) = true := by rw [g1]; rfl
 have g2 : decide (x.time < l.time) = false := decide_eq_false (by omega)
 iterate 2 refine ct g1' ?_
 refine ld1 3 rfl rfl ?_
 iterate 4 refine ct g1' ?_
 refine ld1 2 rfl rfl ?_
 refine ct g1' ?_
 refine cf g1 ?_
 refine cf g2 ?_
 refine dr [cl S.bA (auC S.p S.o (ptr S.bh) (.map (some S.bm))) TAu, me S.bm keI S.fs S.clk, cr S.bh (hdC l) THd, cl b4 (hdC x) THd] 99 (.t 0 (.t 1 (.t 2 (.t 3 (.t 4 (.t 5 (.t 6 (.t 7 (.t 8 (.t 9 (.t 10 (.t 11 (.t 12 (.n 13 (.t 14 (.t 15 .nil)))))))))))))))) qd qf (by kernel_rfl) (.cons (.cons (.cons (.cons .nil)))) ?_
 refine ld1 2 rfl rfl ?_
 refine ldP 2 (d := (Lib.byteCells l.root).toArray) rfl (by simp [Lib.byteCells_length, (h.hk l hl).1]) (qaT l (h.hk l hl).1) ?_
 refine ld1 3 rfl rfl ?_
 refine ldP 3 (d := (Lib.byteCells x.root).toArray) rfl (by simp [Lib.byteCells_length, hx.1]) (qaT x hx.1) ?_
 refine cvs (fun w' hs => hG w' (zg h (Zd hl) hs rfl rfl)) ?_
 refine ⟨.cons (.cons (.cons (.cons .nil))), ?_⟩
 refine ct rfl ?_
 exact ⟨fun w1 hs => ⟨rfl, qbZ h (Zd hl) hs rfl rfl⟩⟩
theorem take_next (S : AuS) (x : Hd) (a : Option Addr) (n c r : Nat) (l : Hd) (hl : S.last = some l) (hx : qa0 x) (w : World) (h : AuP S w) (hR : ZP S x r w) (hr : r = 0) (h1 : l.size ≤ x.size) (h2 : l.time ≤ x.time) (hz : 0 ≤ x.size ∧ x.size ≤ 1048576) (hG : GrowsC l x (.slice a n c) true w) :
 Calls Tryz.prog 15 ([ptr S.bA, .agg (hdC x), .slice a n c] : List Value).toArray w fun e w' => e = .returned .nilIface ∧ ∃ b, Turns w w' (auR S) (auR (S.put x b)) := by
 have hsz := Qy x hx.1 hx.2
 have ha := qaJ S.p S.o (ptr S.bh) (.map (some S.bm))
 have lsz := Qy l (h.hk l hl).1 (h.hk l hl).2
 refine (enter qd Tryz.func15 rfl Tryz.ntmps15 rfl (au_rwH h l hl) (R := fun v w' => v = .nilIface ∧ ∃ b, Turns w w' (auR S) (auR (S.put x b))) ?_).mono (fun e w' ⟨v, he, h1⟩ => ⟨by rw [he, h1.1], h1.2⟩)
 intro b4
 refine cf rfl ?_
 refine dr [cl S.bA (auC S.p S.o (ptr S.bh) (.map (some S.bm))) TAu, me S.bm keI S.fs S.clk, cr S.bh (hdC l) THd, cl b4 (hdC x) THd] 99 (.t 0 (.t 1 (.t 2 (.t 3 (.t 4 (.t 5 (.t 6 (.t 7 (.t 8 (.n 9 (.t 10 .nil))))))))))) qd qf (by kernel_rfl) (.cons (.cons (.cons (.cons .nil)))) ?_
 refine ldN 3 rfl hsz ?_
 refine ldP 0 (d := k32 S.p) rfl (qg _) (qam _ _ _ _) ?_
 refine ld1 0 rfl (by exact ha.1) ?_
 refine cvs (fun w' hs => hR w' (zg h (Zd hl) hs rfl rfl)) ?_
 refine ⟨.cons (.cons (.cons (.cons .nil))), ?_⟩
 have hge : ∀ y, S.last = some y → y.size ≤ x.size := fun y hy => by rw [hl] at hy; injection hy with hy; subst hy; exact h1
 subst hr
 refine cf rfl ?_
 refine ld1 0 rfl (by exact ha.2.1) ?_
 iterate 6 refine cf rfl ?_
 refine dr [cl S.bA (auC S.p S.o (ptr S.bh) (.map (some S.bm))) TAu, me S.bm keI S.fs S.clk, cr S.bh (hdC l) THd, cl b4 (hdC x) THd] 99 (.t 0 (.t 1 (.t 2 (.t 3 (.t 4 (.t 5 (.t 6 (.t 7 (.t 8 (.t 9 (.t 10 (.t 11 (.t 12 (.t 13 (.t 14 (.t 15 (.t 16 .nil))))))))))))))))) qd qf (by kernel_rfl) (.cons (.cons (.cons (.cons .nil)))) ?_
 refine ld1 3 rfl rfl ?_
 refine ld1 2 rfl rfl ?_
 have g1 : decide (x.size < l.size) = false := decide_eq_false (by omega)
 have g1' : (decide (x.size < l.size) == false) = true := by rw [g1]; rfl
 have g2 : decide (x.time < l.time) = false := decide_eq_false (by omega)
 iterate 2 refine ct g1' ?_
 refine ld1 3 rfl rfl ?_
 iterate 4 refine ct g1' ?_
 refine ld1 2 rfl rfl ?_
 refine ct g1' ?_
 refine cf g1 ?_
 refine cf g2 ?_
 refine dr [cl S.bA (auC S.p S.o (ptr S.bh) (.map (some S.bm))) TAu, me S.bm keI S.fs S.clk, cr S.bh (hdC l) THd, cl b4 (hdC x) THd] 99 (.t 0 (.t 1 (.t 2 (.t 3 (.t 4 (.t 5 (.t 6 (.t 7 (.t 8 (.t 9 (.t 10 (.t 11 (.t 12 (.n 13 (.t 14 (.t 15 .nil)))))))))))))))) qd qf (by kernel_rfl) (.cons (.cons (.cons (.cons .nil)))) ?_
 refine ld1 2 rfl rfl ?_
 refine ldP 2 (d := (Lib.byteCells l.root).toArray) rfl (by simp [Lib.byteCells_length, (h.hk l hl).1]) (qaT l (h.hk l hl).1) ?_
 refine ld1 3 rfl rfl ?_
 refine ldP 3 (d := (Lib.byteCells x.root).toArray) rfl (by simp [Lib.byteCells_length, hx.1]) (qaT x hx.1) ?_
 refine cvs (fun w' hs => hG w' (zg h (Zd hl) hs rfl rfl)) ?_
 refine ⟨.cons (.cons (.cons (.cons .nil))), ?_⟩
 refine cf rfl ?_
 refine drs [cl S.bA (auC S.p S.o (ptr S.bh) (.map (some S.bm))) TAu, me S.bm keI S.fs S.clk, cr S.bh (hdC l) THd, cl b4 (hdC x) THd] [11, 12, 13, 14] (.t 0 (.t 1 (.t 2 (.t 3 (.t 4 (.t 5 (.t 6 (.t 7 (.t 8 (.t 9 (.t 10 (.n 11 (.n 12 (.n 13 (.n 14 .nil))))))))))))))) qd qf (by kernel_rfl) (.cons (.cons (.cons (.cons .nil)))) ?_
 refine ld1 0 rfl (by exact ha.2.2) ?_
 refine ld1 3 rfl rfl ?_
 refine ldP 3 (d := (Lib.byteCells x.root).toArray) rfl (by simp [Lib.byteCells_length, hx.1]) (qaT x hx.1) ?_
 refine s1e 0 (auC S.p S.o (ptr b4) (.map (some S.bm))) rfl (by rw [auC_size]; decide) (auC_set _ _ _ _ _) ?_
 refine men (ke := keI) 1 rfl undMp keyI zSum ?_
 refine est (ke := keI) 1 rfl rfl h.nb h.lt ?_
 exact ⟨fun w1 hs => ⟨rfl, b4, au_put (j := 3) h hx hz hge hs rfl rfl rfl (by decide)⟩⟩
end
section
open Go.Shelf
def qeR : Go.Shelf.Ren := ⟨fun | 7 => 50 | 10 => 88 | n => n, fun | 23 => 93 | 26 => 3 | 3 => 39 | 28 => 110 | 0 => 0 | 27 => 109 | 33 => 156 | 4 => 4 | n => n, fun | n => n⟩
theorem Lkeys : Go.Proofs.SlLaysZI.n7 Tryz.prog qeR := {
 mixed := by kernel_rfl
 f7 := ⟨Tryz.f50.name, by decide, Tryz.func50.trans (congrArg some (by kernel_rfl))⟩
 f10 := ⟨Tryz.f88.name, by decide, Tryz.func88.trans (congrArg some (by kernel_rfl))⟩
 t0 := Tryz.underlying0
 a0 := Tryz.isAgg0
 z0 := Tryz.sizeOf0
 v0 := Tryz.zeroValue0
 t4 := Tryz.underlying4
 a4 := Tryz.isAgg4
 z4 := Tryz.sizeOf4
 v4 := Tryz.zeroValue4
 t23 := Tryz.underlying93
 a23 := Tryz.isAgg93
 z23 := Tryz.sizeOf93
 v23 := Tryz.zeroValue93
 t26 := Tryz.underlying3
 a26 := Tryz.isAgg3
 z26 := Tryz.sizeOf3
 v26 := Tryz.zeroValue3
 t27 := Tryz.underlying109
 a27 := Tryz.isAgg109
 z27 := Tryz.sizeOf109
 v27 := Tryz.zeroValue109
 t28 := Tryz.underlying110
 a28 := Tryz.isAgg110
 z28 := Tryz.sizeOf110
 v28 := Tryz.zeroValue110
 t33 := Tryz.underlying156
 a33 := Tryz.isAgg156
 z33 := Tryz.sizeOf156
 v33 := Tryz.zeroValue156 }
def qcJ : Go.Shelf.Ren := ⟨fun | 6 => 49 | 8 => 86 | 9 => 87 | 11 => 129 | 13 => 131 | 12 => 130 | 23 => 186 | 24 => 187 | 14 => 177 | 15 => 178 | 16 => 179 | 17 => 180 | 18 => 181 | 19 => 182 | 20 => 183 | 21 => 184 | 22 => 185 | 25 => 225 | 26 => 226 | 27 => 227 | 28 => 228 | 29 => 229 | 30 => 230 | 31 => 256 | n => n, fun | 26 => 3 | 28 => 110 | 24 => 54 | 0 => 0 | 3 => 3 | 37 => 58 | 48 => 127 | 50 => 131 | 4 => 4 | 40 => 256 | 39 => 255 | 45 => 260 | 5 => 5 | 9 => 9 | 51 => 309 | 55 => 313 | 57 => 347 | 58 => 348 | 33 => 156 | n => n, fun | n => n⟩
theorem Lsorted : Go.Proofs.SlLaysZI.n6 Tryz.prog qcJ := {
 mixed := by kernel_rfl
 f6 := ⟨Tryz.f49.name, by decide, Tryz.func49.trans (congrArg some (by kernel_rfl))⟩
 f8 := ⟨Tryz.f86.name, by decide, Tryz.func86.trans (congrArg some (by kernel_rfl))⟩
 f11 := ⟨Tryz.f129.name, by decide, Tryz.func129.trans (congrArg some (by kernel_rfl))⟩
 t0 := Tryz.underlying0
 a0 := Tryz.isAgg0
 z0 := Tryz.sizeOf0
 v0 := Tryz.zeroValue0
 t24 := Tryz.underlying54
 a24 := Tryz.isAgg54
 z24 := Tryz.sizeOf54
 v24 := Tryz.zeroValue54
 t26 := Tryz.underlying3
 a26 := Tryz.isAgg3
 z26 := Tryz.sizeOf3
 v26 := Tryz.zeroValue3
 t28 := Tryz.underlying110
 a28 := Tryz.isAgg110
 z28 := Tryz.sizeOf110
 v28 := Tryz.zeroValue110
 i26 := by kernel_rfl }
def Lsort_ren : Go.Shelf.Ren := ⟨fun | 5 => 87 | 8 => 131 | 7 => 130 | 19 => 186 | 20 => 187 | 10 => 177 | 11 => 178 | 12 => 179 | 13 => 180 | 14 => 181 | 15 => 182 | 16 => 183 | 17 => 184 | 18 => 185 | 30 => 225 | 31 => 226 | 32 => 227 | 33 => 228 | 34 => 229 | 35 => 230 | 40 => 256 | n => n, fun | 23 => 54 | 25 => 3 | 3 => 3 | 32 => 58 | 22 => 54 | 0 => 0 | 44 => 127 | 46 => 131 | 4 => 4 | 36 => 256 | 35 => 255 | 41 => 260 | 5 => 5 | 9 => 9 | 53 => 309 | 57 => 313 | 63 => 347 | 64 => 348 | n => n, fun | n => n⟩
theorem Lsort : Go.Proofs.SlLaysM.n5 Tryz.prog Lsort_ren := {
 mixed := by kernel_rfl
 f5 := ⟨Tryz.f87.name, by decide, Tryz.func87.trans (congrArg some (by kernel_rfl))⟩
 f7 := ⟨Tryz.f130.name, by decide, Tryz.func130.trans (congrArg some (by kernel_rfl))⟩
 f8 := Tryz.func131.trans (congrArg some (by kernel_rfl))
 f10 := ⟨Tryz.f177.name, by decide, Tryz.func177.trans (congrArg some (by kernel_rfl))⟩
 f11 := ⟨Tryz.f178.name, by decide, Tryz.func178.trans (congrArg some (by kernel_rfl))⟩
 f12 := ⟨Tryz.f179.name, by decide, Tryz.func179.trans (congrArg some (by kernel_rfl))⟩
 f13 := ⟨Tryz.f180.name, by decide, Tryz.func180.trans (congrArg some (by kernel_rfl))⟩
 f14 := ⟨Tryz.f181.name, by decide, Tryz.func181.trans (congrArg some (by kernel_rfl))⟩
 f15 := ⟨Tryz.f182.name, by decide, Tryz.func182.trans (congrArg some (by kernel_rfl))⟩
 f16 := ⟨Tryz.f183.name, by decide, Tryz.func183.trans (congrArg some (by kernel_rfl))⟩
 f17 := ⟨Tryz.f184.name, by decide, Tryz.func184.trans (congrArg some (by kernel_rfl))⟩
 f18 := ⟨Tryz.f185.name, by decide, Tryz.func185.trans (congrArg some (by kernel_rfl))⟩
 f19 := Tryz.func186.trans (congrArg some (by kernel_rfl))
 f20 := Tryz.func187.trans (congrArg some (by kernel_rfl))
 f30 := ⟨Tryz.f225.name, by decide, Tryz.func225.trans (congrArg some (by kernel_rfl))⟩
 f31 := Tryz.func226.trans (congrArg some (by kernel_rfl))
 f32 := Tryz.func227.trans (congrArg some (by kernel_rfl))
 f33 := ⟨Tryz.f228.name, by decide, Tryz.func228.trans (congrArg some (by kernel_rfl))⟩
 f34 := ⟨Tryz.f229.name, by decide, Tryz.func229.trans (congrArg some (by kernel_rfl))⟩
 f35 := ⟨Tryz.f230.name, by decide, Tryz.func230.trans (congrArg some (by kernel_rfl))⟩
 f40 := ⟨Tryz.f256.name, by decide, Tryz.func256.trans (congrArg some (by kernel_rfl))⟩
 t0 := Tryz.underlying0
 a0 := Tryz.isAgg0
 z0 := Tryz.sizeOf0
 v0 := Tryz.zeroValue0
 t3 := Tryz.underlying3
 a3 := Tryz.isAgg3
 z3 := Tryz.sizeOf3
 v3 := Tryz.zeroValue3
 t4 := Tryz.underlying4
 a4 := Tryz.isAgg4
 z4 := Tryz.sizeOf4
 v4 := Tryz.zeroValue4
 t5 := Tryz.underlying5
 a5 := Tryz.isAgg5
 z5 := Tryz.sizeOf5
 v5 := Tryz.zeroValue5
 t9 := Tryz.underlying9
 a9 := Tryz.isAgg9
 z9 := Tryz.sizeOf9
 v9 := Tryz.zeroValue9
 t22 := Tryz.underlying54
 a22 := Tryz.isAgg54
 z22 := Tryz.sizeOf54
 v22 := Tryz.zeroValue54
 t23 := Tryz.underlying54
 a23 := Tryz.isAgg54
 z23 := Tryz.sizeOf54
 v23 := Tryz.zeroValue54
 t25 := Tryz.underlying3
 a25 := Tryz.isAgg3
 z25 := Tryz.sizeOf3
 v25 := Tryz.zeroValue3
 t32 := Tryz.underlying58
 a32 := Tryz.isAgg58
 z32 := Tryz.sizeOf58
 v32 := Tryz.zeroValue58
 t35 := Tryz.underlying255
 a35 := Tryz.isAgg255
 z35 := Tryz.sizeOf255
 v35 := Tryz.zeroValue255
 t36 := Tryz.underlying256
 a36 := Tryz.isAgg256
 z36 := Tryz.sizeOf256
 v36 := Tryz.zeroValue256
 t41 := Tryz.underlying260
 a41 := Tryz.isAgg260
 z41 := Tryz.sizeOf260
 v41 := Tryz.zeroValue260
 t44 := Tryz.underlying127
 a44 := Tryz.isAgg127
 z44 := Tryz.sizeOf127
 v44 := Tryz.zeroValue127
 t46 := Tryz.underlying131
 a46 := Tryz.isAgg131
 z46 := Tryz.sizeOf131
 v46 := Tryz.zeroValue131
 t53 := Tryz.underlying309
 a53 := Tryz.isAgg309
 z53 := Tryz.sizeOf309
 v53 := Tryz.zeroValue309
 t57 := Tryz.underlying313
 a57 := Tryz.isAgg313
 z57 := Tryz.sizeOf313
 v57 := Tryz.zeroValue313
 t63 := Tryz.underlying347
 a63 := Tryz.isAgg347
 z63 := Tryz.sizeOf347
 v63 := Tryz.zeroValue347
 t64 := Tryz.underlying348
 a64 := Tryz.isAgg348
 z64 := Tryz.sizeOf348
 v64 := Tryz.zeroValue348 }
end
section
open Go.RowKit Go.Sx Go.Maps Go.Sort Go.Shelf
theorem coV {C : Cx} {L : List Ent} {g : FuncId} {vs : List Value} {n z : Nat} {xs : List Value} {e : TypeId} {next : Value → List Ent → Prop} (F : Value → Value)
 (h : ∀ w, St C.M C.B w L → Calls C.P g vs.toArray w fun en w' => ∃ r, en = .returned (F (sv r n)) ∧ Rw z n r xs ∧ z8 w w' r xs e ∧ Below w.heap.size w w')
 (go : ∀ r, Rw z n r xs → next (F (sv r n)) (L ++ [se r xs e])) : zI C g vs L next := by
 refine ⟨fun w hs => (h w hs).mono fun en w' ⟨r, he, hR, ho, hb⟩ => ⟨_, _, he, ?_, go r hR⟩⟩
 cases r with
 | none => exact (hs.call hb).deads
 | some p =>
  obtain ⟨b, c, j⟩ := p
  obtain ⟨h1, h2⟩ := ho b c j rfl
  exact hs.add hb h1 h2
abbrev TM : Nat := 93
theorem sorts (m : Nat) : AnyZI.SortsIn Tryz.prog qcJ Fence.wide m :=
 ⟨fun blk off cap ss W hH hblk hsz => callsIn_wide.2 (AnyM.slices_Sort_int Lsort blk off cap ss W hH hblk hsz),
  fun p cap W => callsIn_wide.2 (AnyM.slices_Sort_int_none Lsort p cap W)⟩
theorem keys_call (mb : Option Nat) (W : World) : CallsIn Fence.wide 5 Tryz.prog 50 #[.map mb] W fun e w' => e = .returned (.func (.func 88) #[] #[.pointer (some ⟨W.heap.size, 0, none⟩)]) ∧ w' = W.alloc (.cells #[.map mb] TM) :=
 AnyZI.keys_in Lkeys Fence.wide 5 trivial rfl mb W
theorem sorted_call {H : Type} (Bm b nn : Nat) (D0 : DataW H) (R : Value → Option (DataW H × List MemPlace)) (w : World) (hBm : Bm < w.heap.size) (hm : w.cell? ⟨Bm, 0, none⟩ = some (.map (some b))) (hown : w.ownsMap Tryz.prog 3 R b nn D0) (hmax : Maps.size D0 ≤ maxLen) (hbytes : Maps.size D0 * 8 ≤ 140737488355328) :
 Calls Tryz.prog 49 ([.func (.func 88) #[] #[ptr Bm]] : List Value).toArray w fun e w' => ∃ (v : Value) (ss : List Int), e = .returned v ∧ ss.Perm (intKeys D0) ∧
  w'.ownsRow w.heap.size 3 1 v ss.length ((ss.mergeSort leI).map encZ) ∧ (v = .slice none 0 0 ↔ ss = []) ∧ Below w.heap.size w w' := by
 have hseq : SeqGives Fence.wide 2 Tryz.prog 88 #[.pointer (some ⟨Bm, 0, none⟩)] encZ (fun ss => ss.Perm (intKeys D0)) (Maps.size D0) w :=
  AnyZI.keys_gives (ρ := qeR) { Lkeys with } Fence.wide _ trivial rfl (by omega) Bm b nn D0 _ hBm hm hown
 exact (callsIn_wide (n := 5)).1 (AnyZI.sorted_in Lsorted Fence.wide 5 trivial trivial trivial trivial rfl (by omega) (sorts _) (enters_of Tryz.func87 (by kernel_rfl) rfl) 88 #[.pointer (some ⟨Bm, 0, none⟩)] trivial (enters_of Tryz.func88 (by kernel_rfl) rfl) _ _ hmax hbytes _ hseq)
theorem insert_perm {H : Type} (x : Lit × DataW H) (l : List (Lit × DataW H)) : (DataW.insert x l).Perm (x :: l) := by
 induction l with
 | nil => exact .refl _
 | cons y l ih =>
  unfold DataW.insert
  split
  · exact .refl _
  · exact (ih.cons y).trans (.swap x y l)
theorem qdQ {H : Type} (l : List (Lit × DataW H)) : (l.foldr DataW.insert []).Perm l := by
 induction l with
 | nil => exact .refl _
 | cons y l ih => exact (insert_perm y _).trans (ih.cons y)
def RU : Value → Option (DataW Unit × List MemPlace) := fun _ => some (.nil, [])
theorem own_of {w : World} {S : AuS} (h : AuP S w) (hn : S.fs.length ≤ 1000000) :
 ∃ D0 : DataW Unit, w.ownsMap Tryz.prog 3 RU S.bm S.fs.length D0 ∧ Maps.size D0 = S.fs.length ∧ (intKeys D0).Perm (S.fs.map (·.1)) := by
 have hkey : ∀ e ∈ S.fs, WideElems.rd Tryz.prog 3 RU (QZ keI e) = some (.int .i64 e.1, .nil) := fun e he => by
  have hb := h.kb e.1 (List.mem_map_of_mem he)
  unfold WideElems.rd
  have hk : keyOf Tryz.prog 3 (QZ keI e).key = some (.int .i64 e.1) := by
   rw [keyOf_int undInt]
   have hw : (Lit.int .i64 e.1).wf = true := by
    simp [Lit.wf, IntKind.min, IntKind.max, IntKind.bits, IntKind.signed]; omega
   simp [QZ, keI, mapKey, hw]
  rw [hk]; rfl
 have hrg : (S.fs.map (QZ keI)).map (WideElems.rg Tryz.prog 3 RU) = S.fs.map fun e => (Lit.int .i64 e.1, DataW.nil) := by
  rw [List.map_map]
  exact List.map_congr_left fun e he => by simp only [Function.comp_apply, WideElems.rg, hkey e he]; rfl
 refine ⟨.map (((S.fs.map (QZ keI)).map (WideElems.rg Tryz.prog 3 RU)).foldr DataW.insert []), ⟨_, S.clk, h.m, ⟨?_, ⟨?_, ?_, ?_⟩, ?_⟩, by simp, by simp⟩, ?_, ?_⟩
 · simp; unfold maxLen; omega
 · intro x hx
   simp only [List.mem_map] at hx
   obtain ⟨e, he, rfl⟩ := hx
   exact h.lt e he
 · have := h.nb
   simpa [List.map_map, Function.comp_def, QZ] using this
 · have h1 : (S.fs.map (·.1)).Nodup := h.ks.imp fun {a b} h e => by omega
   have : ((S.fs.map (·.1)).map keI).Nodup := by
    rw [List.nodup_iff_pairwise_ne] at *
    rw [List.pairwise_map]
    exact h1.imp fun {a b} h e => h (by simpa [keI] using e)
   simpa [List.map_map, Function.comp_def, QZ] using this
 · intro x hx
   simp only [List.mem_map] at hx
   obtain ⟨e, he, rfl⟩ := hx
   exact ⟨_, hkey e he⟩
 · show List.length _ = _
   rw [(qdQ _).length_eq]; simp
 · show (List.map (fun p : Lit × DataW Unit => _root_.Go.intOf p.1) _).Perm _
   refine ((qdQ _).map _).trans ?_
   rw [hrg, List.map_map]
   exact .refl _
def qbL (l : List Int) : List Value := l.map encZ
theorem sort_same {l : List Int} (h : l.Pairwise (· < ·)) : l.mergeSort leI = l := List.mergeSort_of_pairwise (h.imp fun {a b} h => by simp [leI]; omega)
theorem sizes_any (S : AuS) (w : World) (h : AuP S w) (hn : S.fs.length ≤ 1000000) : Calls Tryz.prog 17 ([ptr S.bA] : List Value).toArray w fun e w' =>
 ∃ r, e = .returned (sv r S.fs.length) ∧ Rw 1 S.fs.length r (qbL (S.fs.map (·.1))) ∧ z8 w w' r (qbL (S.fs.map (·.1))) 3 ∧ Below w.heap.size w w' := by
 have ha := (qaJ S.p S.o S.lastV (.map (some S.bm))).2.2
 refine (enter qd Tryz.func17 rfl Tryz.ntmps17 rfl (au_ro h) (R := fun v w' => ∃ r, v = sv r S.fs.length ∧ Rw 1 S.fs.length r (qbL (S.fs.map (·.1))) ∧ z8 w w' r (qbL (S.fs.map (·.1))) 3 ∧ Below w.heap.size w w') ?_).mono (fun e w' ⟨v, he, r, h1, h2⟩ => ⟨r, by rw [he, h1], h2⟩)
 refine cf rfl ?_
 refine ld1 0 rfl (by exact ha) ?_
 refine cn (v := fun b => .func (.func 88) #[] #[ptr b]) (o := .cells #[.map (some S.bm)] TM (0, 0)) (fun w1 hs => ?_) (fun bk1 => ?_)
 · refine ((callsIn_wide (n := 5)).1 (keys_call (some S.bm) w1)).mono ?_
   rintro e w2 ⟨rfl, rfl⟩
   exact ⟨w1.heap.size, rfl, Nat.le_refl _, heap_alloc_new w1 _, zG w1 _⟩
 refine coV (n := S.fs.length) (z := 1) (xs := qbL (S.fs.map (·.1))) (e := 3) id (fun w1 hs => ?_) (fun r hR => ?_)
 · have hm : w1.cell? ⟨bk1, 0, none⟩ = some (.map (some S.bm)) := hs.cell (k := 2) rfl 0
   have h1 : AuP S w1 := (auR S).st w w1 (fun k hk => hs.below.block k ((auR S).bd w h k hk)) h
   obtain ⟨D0, hown, hsz, hp⟩ := own_of h1 hn
   refine (sorted_call bk1 S.bm _ D0 RU w1 (hs.lt (List.mem_of_getElem? (i := 2) rfl) rfl) hm hown (by rw [hsz]; unfold maxLen; omega) (by rw [hsz]; omega)).mono ?_
   rintro e w2 ⟨v, ss, rfl, hss, hrow, hnil, hb⟩
   have hsl : ss.length = S.fs.length := by rw [(hss.trans hp).length_eq]; simp
   have hst : (ss.mergeSort leI).map encZ = qbL (S.fs.map (·.1)) := by rw [mergeSort_of_perm_i (hss.trans hp), sort_same h.ks]; rfl
   rw [hst, hsl] at hrow
   obtain ⟨h1, h2 | ⟨g, cap, cur, h2, h3, h4, h5, h6, h7, h8⟩⟩ := hrow
   · obtain ⟨rfl, h0⟩ := h2
     exact ⟨none, by rw [h0]; rfl, ⟨h1, h0⟩, fun _ _ _ h => (by cases h), hb⟩
   · rw [Nat.mul_one] at h8
     have hcur : cur = (qbL (S.fs.map (·.1)) ++ cur.toList.drop S.fs.length).toArray := by
      apply Array.ext'
      rw [← h8]; simp
     refine ⟨some (g, cap, cur.toList.drop S.fs.length), by rw [h2]; rfl, ⟨h1, h5, h6, ?_⟩, ?_, hb⟩
     · rw [← h8, List.take_append_drop]; simpa using h7
     · rintro b c j hj
       obtain ⟨rfl, rfl, rfl⟩ : g = b ∧ cap = c ∧ cur.toList.drop S.fs.length = j := by injection hj with hj; injection hj with a1 a2; injection a2 with a2 a3; exact ⟨a1, a2, a3⟩
       exact ⟨h3, by rw [← hcur]; exact h4⟩
 exact ⟨fun w1 hs => ⟨r, rfl, hR, zU hs rfl 3 rfl, hs.below⟩⟩
end
section
open Go.RowKit Go.Sx
def DG10 : Bs := [48, 49, 50, 51, 52, 53, 54, 55, 56, 57]
theorem qbs (u : Nat) (hu : u < 10) (w : World) : Calls Tryz.prog 91 ([.int .i64 u] : List Value).toArray w fun e w' => e = .returned (VS [UInt8.ofNat (48 + u)]) ∧ Below w.heap.size w w' := by
 refine ql qd Tryz.func91 rfl Tryz.ntmps91 rfl (St.start w) ?_
 refine ct (decide_eq_true (by omega)) ?_
 refine .as ((u + 1 : Nat) : Int) (by omega) (by simp only [mn]; omega) (by simp only [mx]; omega) ?_
 refine slB (s := DG10) u (u + 1) (by omega) (by show u + 1 ≤ 10; omega) rfl rfl ?_
 refine rt ?_
 show VS _ = VS _
 congr 2
 have : (List.range 10).all (fun u => decide (((DG10.take (u + 1)).drop u) = [UInt8.ofNat (48 + u)])) = true := by decide +kernel
 exact of_decide_eq_true (List.all_eq_true.1 this u (by simpa using hu))
def rb1 (h : Hd) : Bs := Q9 ++ [10] ++ h.o ++ [10]
def rb2 (h : Hd) (a t : Bs) : Bs := rb1 h ++ a ++ [32] ++ t ++ [10]
def zW (h : Hd) (a t : Bs) : Bs := rb2 h a t ++ zz h.root ++ [10, 10]
theorem cat2 (a b c : Bs) (h : a ++ b = c) : (⟨a.toArray⟩ : ByteArray) ++ ⟨b.toArray⟩ = ⟨c.toArray⟩ := by rw [qbm, h]
theorem szB (a : Bs) : (⟨a.toArray⟩ : ByteArray).size = a.length := by simp [ByteArray.size]
theorem rbody_any (h : Hd) (A T : Bs) (hA : A.length ≤ 100) (hT : T.length ≤ 100) (hr : h.root.length = 32) (hg : h.sig.length = 64) (hl : h.o.length ≤ 1000) (w : World)
 (hAc : ∀ w', Below w.heap.size w w' → Calls Tryz.prog 91 ([.int .i64 h.size] : List Value).toArray w' fun e w'' => e = .returned (VS A) ∧ Below w'.heap.size w' w'')
 (hTc : ∀ w', Below w.heap.size w w' → Calls Tryz.prog 91 ([.int .i64 h.time] : List Value).toArray w' fun e w'' => e = .returned (VS T) ∧ Below w'.heap.size w' w'') :
 Calls Tryz.prog 53 ([.agg (hdC h)] : List Value).toArray w fun e w' => ∃ x : Nat × Nat, True ∧ e = .returned (.slice (some ⟨x.1, 0, none⟩) (zW h A T).length x.2) ∧ St [] w w' [qdm x.1 x.2 (zW h A T)] := by
 refine (enter qd Tryz.func53 rfl Tryz.ntmps53 rfl (St.start w) (R := fun v w' => ∃ x : Nat × Nat, v = .slice (some ⟨x.1, 0, none⟩) (zW h A T).length x.2 ∧ St [] w w' [qdm x.1 x.2 (zW h A T)]) ?_).mono (fun e w' ⟨v, he, x, h1, h2⟩ => ⟨x, trivial, by rw [he, h1], h2⟩)
 intro b1
 refine dr [cl b1 (hdC h) THd] 99 (.t 0 (.t 1 (.t 2 (.t 3 (.t 4 (.t 5 (.t 9 (.t 10 (.t 14 (.t 15 (.n 6 (.t 7 (.t 8 (.n 11 (.t 12 (.t 13 (.n 16 (.t 17 (.t 18 (.n 19 (.t 20 .nil))))))))))))))))))))) qd qf (by kernel_rfl) (.cons .nil) ?_
 refine ld1 0 rfl rfl ?_
 refine ⟨by rw [szB [99, 97, 99, 104, 101, 116, 32, 118, 49, 10], szB h.o]; simp only [List.length_append, List.length_cons, List.length_nil, rb1, Q9, Q6]; omega, ?_⟩
 rw [cat2 [99, 97, 99, 104, 101, 116, 32, 118, 49, 10] h.o _ rfl]
 refine ⟨by rw [szB ([99, 97, 99, 104, 101, 116, 32, 118, 49, 10] ++ h.o), szB [10]]; simp only [List.length_append, List.length_cons, List.length_nil, rb1, Q9, Q6]; omega, ?_⟩
 rw [cat2 ([99, 97, 99, 104, 101, 116, 32, 118, 49, 10] ++ h.o) [10] _ rfl]
 rw [show ([99, 97, 99, 104, 101, 116, 32, 118, 49, 10] : Bs) ++ h.o ++ [10] = rb1 h from rfl]
 refine ld1 0 rfl rfl ?_
 refine ld1 0 rfl rfl ?_
 refine ⟨.mk 0 32 32 rfl rfl rfl (by decide) (by decide) (by decide) (by simp) (.on (by decide) ?_)⟩
 refine cvs (fun w' hs => hAc w' hs.below) ?_
 refine ⟨.cons .nil, ?_⟩
 refine ⟨by rw [szB (rb1 h), szB A]; simp only [List.length_append, List.length_cons, List.length_nil, rb1, Q9, Q6]; omega, ?_⟩
 rw [cat2 (rb1 h) A _ rfl]
 refine ⟨by rw [szB (rb1 h ++ A), szB [32]]; simp only [List.length_append, List.length_cons, List.length_nil, rb1, Q9, Q6]; omega, ?_⟩
 rw [cat2 (rb1 h ++ A) [32] _ rfl]
 refine cvs (fun w' hs => hTc w' hs.below) ?_
 refine ⟨.cons .nil, ?_⟩
 refine ⟨by rw [szB (rb1 h ++ A ++ [32]), szB T]; simp only [List.length_append, List.length_cons, List.length_nil, rb1, Q9, Q6]; omega, ?_⟩
 rw [cat2 (rb1 h ++ A ++ [32]) T _ rfl]
 refine ⟨by rw [szB (rb1 h ++ A ++ [32] ++ T), szB [10]]; simp only [List.length_append, List.length_cons, List.length_nil, rb1, Q9, Q6]; omega, ?_⟩
 rw [cat2 (rb1 h ++ A ++ [32] ++ T) [10] _ rfl]
 rw [show rb1 h ++ A ++ [32] ++ T ++ [10] = rb2 h A T from rfl]
 have hrd : ∀ w', St [] w w' [cl b1 (hdC h) THd] → Rd w' (.slice (some ⟨b1, 3, none⟩) 32 32) (Lib.byteCells h.root) := fun w' hs => Rd.ent hs 0 (n := 32) (o := 3) rfl (by rw [Lib.byteCells_length, hr]) (by
  show (List.drop 3 (hdC h).toList).take 32 = _
  unfold hdC
  show (Lib.byteCells h.root ++ Lib.byteCells h.sig).take 32 = _
  rw [List.take_left' (by rw [Lib.byteCells_length, hr])])
 refine cvs (fun w' hs => rhex_any _ h.root (by omega) w' (hrd w' hs)) ?_
 refine ⟨.cons .nil, ?_⟩
 have h2 : (rb2 h A T).length ≤ 2000 := by simp only [rb2, rb1, Q9, List.length_append, List.length_cons, List.length_nil]; omega
 refine ⟨by rw [szB (rb2 h A T), szB (zz h.root), Q6]; omega, ?_⟩
 rw [cat2 (rb2 h A T) (zz h.root) _ rfl]
 refine ⟨by rw [szB (rb2 h A T ++ zz h.root), szB [10, 10], List.length_append, Q6]; simp only [List.length_cons, List.length_nil]; omega, ?_⟩
 rw [cat2 (rb2 h A T ++ zz h.root) [10, 10] _ rfl]
 refine cvSt qc6 ZH qcz (fun b cap => ?_)
 refine ⟨.cons .nil, ?_⟩
 have hzz : (⟨(zW h A T).toArray⟩ : ByteArray).size = (zW h A T).length := szB _
 refine ⟨fun w1 hs => ⟨(b, cap), ?_, hs.sub (.drop (.cons .nil))⟩⟩
 rw [← hzz]; rfl
theorem csAll_have (sg : ByteArray) (k : Nat) (hk : 3 ≤ k) (bs : List UInt8) : (Qf sg k bs).2.2 = 8 * bs.length % k := by
 obtain ⟨h1, h2⟩ := qaE sg k hk bs
 have := h1.sum
 rw [← this, Nat.mul_comm, Nat.mul_add_mod, Nat.mod_eq_of_lt h2]
theorem cs1_pre (sg : ByteArray) (k : Nat) (p : List UInt8) (s : Cs) : cs1 sg k (p ++ s.1, s.2) = (p ++ (cs1 sg k s).1, (cs1 sg k s).2) := by
 unfold cs1
 split <;> simp
theorem csB_pre (sg : ByteArray) (k : Nat) (p : List UInt8) (s : Cs) (c : Nat) : csB sg k (p ++ s.1, s.2) c = (p ++ (csB sg k s c).1, (csB sg k s c).2) := by
 have h1 := cs1_pre sg k p (s.1, s.2.1 * 256 + c, s.2.2 + 8)
 unfold csB csF
 simp only at h1 ⊢
 rw [h1, cs1_pre, cs1_pre]
theorem csFold_pre (sg : ByteArray) (k : Nat) (p : List UInt8) (bs : List UInt8) : ∀ s : Cs, bs.foldl (fun s c => csB sg k s c.toNat) (p ++ s.1, s.2) = (p ++ (bs.foldl (fun s c => csB sg k s c.toNat) s).1, (bs.foldl (fun s c => csB sg k s c.toNat) s).2) := by
 induction bs with
 | nil => intro s; rfl
 | cons c bs ih => intro s; simp only [List.foldl_cons]; rw [csB_pre]; exact ih _
theorem codeL_app (sg : ByteArray) (k : Nat) (hk : 3 ≤ k) (a b : List UInt8) (h : 8 * a.length % k = 0) : QG sg k (a ++ b) = QG sg k a ++ QG sg k b := by
 have h1 := csAll_have sg k hk a
 rw [h] at h1
 have h2 := (qaE sg k hk a).1.bits
 rw [h1] at h2
 have h3 : (Qf sg k a).2 = (0, 0) := Prod.ext (by simpa using h2) h1
 have e : Qf sg k (a ++ b) = ((Qf sg k a).1 ++ (Qf sg k b).1, (Qf sg k b).2) := by
  have h4 := csFold_pre sg k (Qf sg k a).1 b ([], 0, 0)
  simp only [List.append_nil] at h4
  show (a ++ b).foldl _ _ = _
  rw [List.foldl_append]
  show b.foldl _ (Qf sg k a) = _
  rw [show Qf sg k a = ((Qf sg k a).1, (0, 0)) from Prod.ext rfl h3]
  exact h4
 have e1 : QG sg k a = (Qf sg k a).1 := by unfold QG; rw [h1, if_neg (by omega)]
 rw [e1]
 unfold QG
 rw [e]
 simp only
 split
 · rw [List.append_assoc]
 · rfl
theorem hex_app (a b : List UInt8) : QG zR 4 (a ++ b) = QG zR 4 a ++ QG zR 4 b := codeL_app zR 4 (by decide) a b (by omega)
theorem u8_cases {P : UInt8 → Prop} (h : ∀ n, n < 256 → P (UInt8.ofNat n)) (c : UInt8) : P c := by
 have := h c.toNat (UInt8.toNat_lt c)
 rwa [UInt8.ofNat_toNat] at this
theorem hex1 (c : UInt8) : QG zR 4 [c] = zz [c] := u8_cases (P := fun c => QG zR 4 [c] = zz [c]) (by decide +kernel) c
theorem hex_A (b : List UInt8) : QG zR 4 b = zz b := by
 induction b with
 | nil => rfl
 | cons c b ih =>
  have := hex_app [c] b
  rw [List.singleton_append] at this
  rw [this, hex1, ih]; rfl
theorem qeL (h : Hd) (A T : Bs) : qN h (A ++ [32] ++ T) = zW h A T := by
 have e : qN h (A ++ [32] ++ T) = Q9 ++ ([10] ++ (h.o ++ ([10] ++ ((A ++ [32] ++ T) ++ ([10] ++ (QG zR 4 h.root ++ ([10] ++ ([] ++ ([10] ++ []))))))))) := rfl
 rw [e, hex_A]
 simp only [zW, rb2, rb1, List.append_assoc, List.nil_append, List.append_nil, List.cons_append]
end
section
open Go.RowKit Go.Sx
theorem eqS {C : Cx} {L : List Ent} {x y : Bs} {a b : Operand} {next : Value → List Ent → Prop} (hP : C.P = Tryz.prog) (hx : x.length = 32) (hy : y.length = 32) (go : next (.bool (decide (x = y))) L) :
 ZG C (do eqGuard .eql 39 a b (Qe x) (Qe y); binOp .eql 39 (Qe x) (Qe y)) L next :=
 eqB (e := 5) (n := 32) (by rw [hP]; kernel_rfl) (by rw [hP]; kernel_rfl) (by rw [hP]; kernel_rfl) (by rw [hP]; kernel_rfl) hx hy go
theorem Zt (r : Bs) (h : r.length = 32) : (Lib.byteCells r).toArray.size = 32 := by simp [Lib.byteCells_length, h]
theorem qbJ (n : Nat) : (((n : Nat) : Int) == 0) = decide (n = 0) := by rw [Bool.eq_iff_iff]; simp
theorem grows_eq (m : Int) (hm : m ≠ 0) (o r : Bs) (ho : o.length = 32) (hr : r.length = 32) (a : Option Addr) (n c : Nat) (w : World) :
 Calls Tryz.prog 48 ([.int .i64 m, Qe o, .int .i64 m, Qe r, .slice a n c] : List Value).toArray w fun e w' => e = .returned (.bool (decide (n = 0) && decide (o = r))) ∧ Below w.heap.size w w' := by
 refine ql qd Tryz.func48 rfl Tryz.ntmps48 rfl (St.start w) ?_
 intro b6 b8
 refine cf (by simpa using hm) ?_
 refine ct (by simp) ?_
 by_cases hn : n = 0
 · subst hn
   refine ct rfl ?_
   refine ldN 0 rfl (Zt o ho) ?_
   refine ct rfl ?_
   refine ldN 1 rfl (Zt r hr) ?_
   refine ct rfl ?_
   refine eqS rfl ho hr ?_
   refine ct rfl ?_
   exact rt rfl
 · have e1 : (((n : Nat) : Int) == 0) = false := by rw [qbJ]; exact decide_eq_false hn
   have e2 : ((((n : Nat) : Int) == 0) == true) = false := by rw [e1]; rfl
   iterate 3 refine cf e2 ?_
   refine cf e1 ?_
   refine rt ?_
   rw [decide_eq_false hn]; rfl
theorem grows_zero (m : Int) (o r : Bs) (ho : o.length = 32) (hr : r.length = 32) (a : Option Addr) (n c : Nat) (w : World) :
 Calls Tryz.prog 48 ([.int .i64 0, Qe o, .int .i64 m, Qe r, .slice a n c] : List Value).toArray w fun e w' => e = .returned (.bool (decide (n = 0) && (decide (0 < m) || decide (o = r)))) ∧ Below w.heap.size w w' := by
 refine ql qd Tryz.func48 rfl Tryz.ntmps48 rfl (St.start w) ?_
 intro b6 b8
 refine ct rfl ?_
 by_cases hn : n = 0
 · subst hn
   by_cases hm : 0 < m
   · have g1 : decide (m > 0) = true := decide_eq_true hm
     have g2 : (decide (m > 0) == false) = false := by rw [g1]; rfl
     iterate 3 refine ct rfl ?_
     iterate 3 refine cf g2 ?_
     refine ct rfl ?_
     refine ct g1 ?_
     refine ct rfl ?_
     refine rt ?_
     rw [decide_eq_true hm]; rfl
   · have g1 : decide (m > 0) = false := decide_eq_false hm
     have g2 : (decide (m > 0) == false) = true := by rw [g1]; rfl
     iterate 3 refine ct rfl ?_
     refine ct g2 ?_
     refine ldN 0 rfl (Zt o ho) ?_
     refine ct g2 ?_
     refine ldN 1 rfl (Zt r hr) ?_
     refine ct g2 ?_
     refine eqS rfl ho hr ?_
     refine ct rfl ?_
     refine cf g1 ?_
     refine ct rfl ?_
     refine rt ?_
     rw [decide_eq_false hm]; rfl
 · have e1 : (((n : Nat) : Int) == 0) = false := by rw [qbJ]; exact decide_eq_false hn
   have e2 : ((((n : Nat) : Int) == 0) == true) = false := by rw [e1]; rfl
   iterate 4 refine cf e2 ?_
   refine cf e1 ?_
   refine rt ?_
   rw [decide_eq_false hn]; rfl
theorem rroot1_any (b c : Nat) (r : Bs) (hr : r.length = 32) (t : TypeId) (w : World) (hw : w.heap[b]? = some (.cells (Lib.byteCells r).toArray t (0, 0))) :
 Calls Tryz.prog 35 ([.slice (some ⟨b, 0, none⟩) 1 c] : List Value).toArray w fun e w' => e = .returned (Qe r) ∧ Below w.heap.size w w' := by
 have hz := Zt r hr
 refine ql qd Tryz.func35 rfl Tryz.ntmps35 rfl (St.reads1 hw) ?_
 intro b2
 refine cf rfl ?_
 refine ct rfl ?_
 refine ⟨by decide, by decide, ?_⟩
 refine ldN 0 rfl hz ?_
 refine sN 1 rfl (hz.trans (by kernel_rfl)) (qv r) ?_ (by rw [hz]; kernel_rfl)
 refine ldN 1 rfl hz ?_
 exact rt rfl
def Qo : Nat := 2304
theorem qdf (w : World) : Calls Tryz.prog 13 ([] : List Value).toArray w fun e w' => e = .returned (.agg (k32 Qo)) ∧ Below w.heap.size w w' := by
 refine ql qd Tryz.func13 rfl Tryz.ntmps13 rfl (St.start w) ?_
 intro b0
 refine bu (c := k32 Qo) (by kernel_rfl) ?_
 refine sN 0 rfl (by kernel_rfl) (qz _) ?_ (by kernel_rfl)
 refine ldN 0 rfl (qg _) ?_
 exact rt rfl
def logB : Bs := [108, 111, 103]
def qd8 (n : Nat) (h : Hd) (A T : Bs) : Hd := { h with sig := qd7 n (zW h A T) }
def hd0 (r : Bs) (n t : Int) : Hd := ⟨logB, n, t, r, List.replicate 64 0⟩
theorem ZR (n : Nat) (bs : Bs) : (qd7 n bs).length = 64 := by unfold qd7; rw [List.length_append, qt, qt]
theorem hd_put (h : Hd) (s : Bs) (hr : h.root.length = 32) (hs : h.sig.length = 64) (hs' : s.length = 64) : ((hdC h).toList.take 35 ++ (Lib.byteCells s).toArray.toList ++ (hdC h).toList.drop (35 + (Lib.byteCells s).toArray.size)).toArray = hdC { h with sig := s } := by
 have e : (hdC h).toList = ([VS h.o, .int .i64 h.size, .int .i64 h.time] ++ Lib.byteCells h.root) ++ Lib.byteCells h.sig := rfl
 have hz : (Lib.byteCells s).toArray.size = 64 := by simp [Lib.byteCells_length, hs']
 rw [hz, e, List.take_left' (by simp [Lib.byteCells_length, hr]), List.drop_of_length_le (by simp [Lib.byteCells_length, hr, hs]), List.append_nil]
 rfl
theorem list32 {P : Bs → Prop} (h : ∀ x0 x1 x2 x3 x4 x5 x6 x7 x8 x9 x10 x11 x12 x13 x14 x15 x16 x17 x18 x19 x20 x21 x22 x23 x24 x25 x26 x27 x28 x29 x30 x31, P [x0, x1, x2, x3, x4, x5, x6, x7, x8, x9, x10, x11, x12, x13, x14, x15, x16, x17, x18, x19, x20, x21, x22, x23, x24, x25, x26, x27, x28, x29, x30, x31]) : ∀ r : Bs, r.length = 32 → P r
 | [x0, x1, x2, x3, x4, x5, x6, x7, x8, x9, x10, x11, x12, x13, x14, x15, x16, x17, x18, x19, x20, x21, x22, x23, x24, x25, x26, x27, x28, x29, x30, x31], _ => h x0 x1 x2 x3 x4 x5 x6 x7 x8 x9 x10 x11 x12 x13 x14 x15 x16 x17 x18 x19 x20 x21 x22 x23 x24 x25 x26 x27 x28 x29 x30 x31
theorem hd_built (r : Bs) (n t : Int) (hr : r.length = 32) : Tryz.prog.built THd [(0, VS logB), (1, .int .i64 n), (2, .int .i64 t), (3, Qe r)] = some (hdC (hd0 r n t)) :=
 list32 (P := fun r => Tryz.prog.built THd [(0, VS logB), (1, .int .i64 n), (2, .int .i64 t), (3, Qe r)] = some (hdC (hd0 r n t))) (fun x0 x1 x2 x3 x4 x5 x6 x7 x8 x9 x10 x11 x12 x13 x14 x15 x16 x17 x18 x19 x20 x21 x22 x23 x24 x25 x26 x27 x28 x29 x30 x31 => by kernel_rfl) r hr
theorem qdp (v : Value) (r : Bs) (n : Nat) (t : Int) (A T : Bs) (hr : r.length = 32) (w : World) (hA : A.length ≤ 100) (hT : T.length ≤ 100)
 (hRoot : ∀ w', Below w.heap.size w w' → Calls Tryz.prog 35 ([v] : List Value).toArray w' fun e w'' => e = .returned (Qe r) ∧ Below w'.heap.size w' w'')
 (hv : ∃ a c, v = .slice a n c)
 (hAc : ∀ w', Below w.heap.size w w' → Calls Tryz.prog 91 ([.int .i64 n] : List Value).toArray w' fun e w'' => e = .returned (VS A) ∧ Below w'.heap.size w' w'')
 (hTc : ∀ w', Below w.heap.size w w' → Calls Tryz.prog 91 ([.int .i64 t] : List Value).toArray w' fun e w'' => e = .returned (VS T) ∧ Below w'.heap.size w' w'') :
 Calls Tryz.prog 20 ([v, .int .i64 t] : List Value).toArray w fun e w' => e = .returned (.agg (hdC (qd8 Qo (hd0 r n t) A T))) ∧ Below w.heap.size w w' := by
 obtain ⟨a, c, rfl⟩ := hv
 have hz : (hdC (hd0 r n t)).size = 99 := Qy _ hr rfl
 have hz' : (hdC (qd8 Qo (hd0 r n t) A T)).size = 99 := Qy _ hr (ZR _ _)
 have hsz : (Lib.byteCells (qd7 Qo (zW (hd0 r n t) A T))).toArray.size = 64 := by simp [Lib.byteCells_length, ZR]
 refine ql qd Tryz.func20 rfl Tryz.ntmps20 rfl (St.start w) ?_
 intro b4
 refine cvs (fun w' hs => hRoot w' hs.below) ?_
 refine bu (c := hdC (hd0 r n t)) (hd_built r n t hr) ?_
 intro b5
 refine sN 1 rfl (hz.trans (by kernel_rfl)) (hd_one _) ?_ (by rw [hz]; kernel_rfl)
 refine dr [cl b4 _ THd, cl b5 (hdC (hd0 r n t)) THd] 5 (.t 0 (.t 1 (.n 2 (.n 3 (.t 4 (.n 5 .nil)))))) qd qf (by kernel_rfl) (.cons (.cons .nil)) ?_
 refine cz qdf ?_
 refine ldN 1 rfl hz ?_
 refine cMs (v := fun x : Nat × Nat => .slice (some ⟨x.1, 0, none⟩) (zW (hd0 r n t) A T).length x.2) (es := fun x => [qdm x.1 x.2 (zW (hd0 r n t) A T)]) (fun w' hs => rbody_any (hd0 r n t) A T hA hT hr rfl (by show logB.length ≤ 1000; decide) w' (fun w'' hb => hAc w'' (hs.below.trans (hb.mono hs.below.size))) (fun w'' hb => hTc w'' (hs.below.trans (hb.mono hs.below.size)))) (fun x _ e he k hk => by
  obtain rfl : e = qdm x.1 x.2 (zW (hd0 r n t) A T) := by simpa using he
  simpa using hk) (fun x _ => ?_)
 refine ⟨.cons (.cons .nil), ?_⟩
 have hbl : (zW (hd0 r n t) A T).length ≤ 10000 := by
  rw [← qeL]
  exact Nat.le_trans (qcf _ _ hr (by show logB.length ≤ 1000; decide) (by simp; omega)) (by decide)
 refine cvs (fun w' hs => rsign_any Qo _ (zW (hd0 r n t) A T) w' (Rd.ent hs 2 rfl (by rw [Lib.byteCells_length]) (by have := qct (zW (hd0 r n t) A T) x.2; rw [szB] at this; exact this)) hbl) ?_
 refine ⟨.cons (.cons .nil), ?_⟩
 refine sP 1 rfl (by rw [hsz, hz]; decide) (qv _) (hd_put (hd0 r n t) _ hr rfl (ZR _ _)) ?_ (by rw [hsz]; kernel_rfl)
 refine ldN 1 rfl hz' ?_
 refine sN 0 (d := hdC (qd8 Qo (hd0 r n t) A T)) rfl (hz'.trans (by kernel_rfl)) (hd_one _) ?_ (by rw [hz']; kernel_rfl)
 refine ldN 0 rfl hz' ?_
 exact rt rfl
end
section
open Go.RowKit Go.Sx
theorem coW {C : Cx} {L : List Ent} {g : FuncId} {vs : List Value} {n z : Nat} {xs : List Value} {e : TypeId} {next : Value → List Ent → Prop} (F : Value → Value)
 (h : ∀ w, St C.M C.B w L → Calls C.P g vs.toArray w fun en w' => ∃ r, en = .returned (F (sv r n)) ∧ Rw z n r xs ∧ z8 w w' r xs e ∧ Below w.heap.size w w')
 (go : ∀ r, Rw z n r xs → next (F (sv r n)) (L ++ [se r xs e])) : zI C g vs L next := by
 refine ⟨fun w hs => (h w hs).mono fun en w' ⟨r, he, hR, ho, hb⟩ => ⟨_, _, he, ?_, go r hR⟩⟩
 cases r with
 | none => exact (hs.call hb).deads
 | some p =>
  obtain ⟨b, c, j⟩ := p
  obtain ⟨h1, h2⟩ := ho b c j rfl
  exact hs.add hb h1 h2
theorem RdS.at {w : World} {b o n c : Nat} {ps : List Bs} (h : RdS w (.slice (some ⟨b, o, none⟩) n c) ps) (i : Nat) (p : Bs) (hp : ps[i]? = some p) : w.rangeAt b (o + 32 * i) (Lib.byteCells p) := by
 obtain ⟨_, a3, c3, g2, _, g3⟩ := h
 obtain ⟨b', o', g4, _, g5⟩ := g3 (fun e => by subst e; simp at hp)
 injection g2 with g2 _ _
 rw [g4] at g2
 injection g2 with g2
 injection g2 with g2 g6
 subst g2 g6
 exact g5 i p hp
theorem bo_at (l : List Bool) (j : List Value) (k : Nat) (h : k < l.length) (q : Int) (hq : q = k) : (boC l ++ j).toArray[nad 0 (nmu q.toNat 1)]? = some (.bool (l.getD k false)) := by
 subst hq
 rw [qk, qj, Nat.zero_add, Nat.mul_one, Int.toNat_natCast, List.getElem?_toArray, List.getElem?_append_left (by rw [qaX]; exact h)]
 unfold boC
 rw [List.getElem?_map, List.getD_eq_getElem?_getD, List.getElem?_eq_getElem h]; rfl
theorem slTail {e z b o n c : Nat} (hn : 1 ≤ n) (hnc : n ≤ c) {next : Value → Prop} {fb : Prop} (go : ∀ a', (1 < c → a' = some ⟨b, o + z, none⟩) → next (.slice a' (n - 1) (c - 1))) :
 SliP (.sl e z) (.slice (some ⟨b, o, none⟩) n c) (some 1) none none next fb := by
 refine ⟨?_⟩
 refine .mk 1 n c rfl rfl rfl hn hnc (Nat.le_refl _) (by simp) ?_
 by_cases h1 : c = 1
 · exact .all h1 (go _ (fun h => by omega))
 · refine .on (by omega) ?_
   rw [qk, qj, Nat.one_mul]
   exact go _ (fun _ => rfl)
structure ExS where
 b7 : Nat
 b8 : Nat
 b13 : Nat
 r : Sx.Own
 a2 : Option Addr
 c2 : Nat
 rs : List Bs
 f : Bs
structure ExOk (a : Option Addr) (c : Nat) (ps : List Bs) (T : List Bool) (old new : Bs) (B : Bool) (x : ExS) : Prop where
 R : Rw 1 T.length x.r (boC T.reverse)
 f : x.f.length = 32
 ln : ∀ p ∈ x.rs, p.length = 32
 ad : x.rs ≠ [] → ∃ b o, x.a2 = some ⟨b, o, none⟩
 rd : ∀ w, RdS w (.slice a ps.length c) ps → RdS w (.slice x.a2 x.rs.length x.c2) x.rs
 B : B = extE T old new x.f x.rs
abbrev exF (a : Option Addr) (c : Nat) (ps : List Bs) (T : List Bool) (old new : Bs) (x : ExS) : Sy := ⟨[(4, .slice x.a2 x.rs.length x.c2), (7, ptr x.b7), (8, ptr x.b8), (11, sv x.r T.length), (13, ptr x.b13)], [rs (rdS a c ps), cl x.b7 (Lib.byteCells old).toArray 39, cl x.b8 (Lib.byteCells new).toArray 39, se x.r (boC T.reverse) TTn, cl x.b13 (Lib.byteCells x.f).toArray 39], []⟩
theorem ext_rest {a : Option Addr} {c : Nat} {ps : List Bs} {T : List Bool} {old new : Bs} {B : Bool} (ho : old.length = 32) (hn : new.length = 32) (hT : T.length ≤ 1048576) (w : World) (x : ExS) (hx : ExOk a c ps T old new B x) :
 CodeP ⟨Tryz.prog, tab, 87, [], w, none⟩ (dropS 5 ((Tryz.f85.body).getD .skip)) (retK ⟨Tryz.prog, tab, 87, [], w, none⟩ Tryz.f85 fun v w' => v = .bool B ∧ Below w.heap.size w w') (exF a c ps T old new x) := by
 obtain ⟨b7, b8, b13, r, a2, c2, rs', f⟩ := x
 obtain ⟨hR, hf, hln, had, hrd, hB⟩ := hx
 simp only at hR hf hln had hrd hB
 obtain ⟨sa, sc, hv⟩ := zN hR
 refine ZJ qd _ _ _ ?_
 unfold exF
 simp only
 rw [hv]
 unfold extE at hB
 by_cases hl : rs'.length = T.length
 case neg =>
  rw [if_neg hl] at hB
  refine cne (fun _ => ?_) (fun e => absurd e (by omega))
  refine rt ?_
  rw [hB]; rfl
 rw [if_pos hl] at hB
 refine cne (fun e => absurd e (by omega)) (fun _ => ?_)
 have hz := qF f hf
 have hz2 : (Lib.byteCells f).toArray.size = 32 := hz
 refine cutp (α := Nat × Nat) (fun _ => True) (fun x => ⟨[(4, .slice a2 rs'.length c2), (7, ptr b7), (8, ptr b8), (11, .slice sa T.length sc), (14, ptr x.1), (15, ptr x.2)], [rs (rdS a c ps), cl b7 (Lib.byteCells old).toArray 39, cl b8 (Lib.byteCells new).toArray 39, se r (boC T.reverse) TTn, cl x.1 (Lib.byteCells f).toArray 39, cl x.2 (Lib.byteCells f).toArray 39], []⟩) ?_ ?_
 · refine drs [dead, dead, dead, dead, cl b13 (Lib.byteCells f).toArray 39] [] (.t 0 (.t 1 (.b 2 3 (.n 3 (.n 4 (.n 5 .nil))) (.n 2 (.n 4 (.n 5 .nil)))))) qd qf (by kernel_rfl) (.dead (.dead (.dead (.dead (.cons .nil))))) ?_
   refine ldN 4 rfl hz ?_
   refine ldN 4 rfl hz ?_
   refine ⟨?_, ?_⟩
   · intro b14
     refine ⟨.dead (.dead (.dead (.dead (.cons .nil)))), ?_⟩
     intro b15
     refine ⟨.dead (.dead (.dead (.dead (.cons .nil)))), ?_⟩
     refine sN 5 (d := (Lib.byteCells f).toArray) rfl (hz.trans (by kernel_rfl)) (qv _) ?_ (by rw [hz]; kernel_rfl)
     refine ⟨.dead (.dead (.dead (.dead (.cons .nil)))), ?_⟩
     refine sN 6 (d := (Lib.byteCells f).toArray) rfl (hz.trans (by kernel_rfl)) (qv _) ?_ (by rw [hz]; kernel_rfl)
     refine ⟨.dead (.dead (.dead (.dead (.cons .nil)))), ?_⟩
     exact ⟨(b14, b15), trivial, ⟨rfl, rfl, rfl, rfl, rfl, rfl, trivial⟩, ⟨_, .refl _, .cons (.cons (.cons (.cons (.drop (.cons (.cons .nil))))))⟩, rfl⟩
   · intro b15
     refine ⟨.dead (.dead (.dead (.dead (.cons .nil)))), ?_⟩
     intro b14
     refine ⟨.dead (.dead (.dead (.dead (.cons .nil)))), ?_⟩
     refine sN 6 (d := (Lib.byteCells f).toArray) rfl (hz.trans (by kernel_rfl)) (qv _) ?_ (by rw [hz]; kernel_rfl)
     refine ⟨.dead (.dead (.dead (.dead (.cons .nil)))), ?_⟩
     refine sN 5 (d := (Lib.byteCells f).toArray) rfl (hz.trans (by kernel_rfl)) (qv _) ?_ (by rw [hz]; kernel_rfl)
     refine ⟨.dead (.dead (.dead (.dead (.cons .nil)))), ?_⟩
     exact ⟨(b14, b15), trivial, ⟨rfl, rfl, rfl, rfl, rfl, rfl, trivial⟩, ⟨[rs (rdS a c ps), cl b7 (Lib.byteCells old).toArray 39, cl b8 (Lib.byteCells new).toArray 39, se r (boC T.reverse) TTn, cl b15 (Lib.byteCells f).toArray 39, cl b14 (Lib.byteCells f).toArray 39], .cons _ (.cons _ (.cons _ (.cons _ (.swap _ _ _)))), .cons (.cons (.cons (.cons (.drop (.cons (.cons .nil))))))⟩, rfl⟩
 rintro ⟨b14, b15⟩ _
 refine lp qd (fun x : Nat × Bs × Bs => x.1 ≤ T.length ∧ x.2.1.length = 32 ∧ x.2.2.length = 32 ∧ qap (T.reverse.drop x.1) (rs'.drop x.1) x.2 = qap T.reverse rs' (f, f)) (fun x => ⟨[(7, ptr b7), (8, ptr b8), (11, .slice sa T.length sc), (14, ptr b14), (15, ptr b15), (57, .slice a2 rs'.length c2), (58, .int .i64 rs'.length), (59, .int .i64 x.1)], [rs (rdS a c ps), cl b7 (Lib.byteCells old).toArray 39, cl b8 (Lib.byteCells new).toArray 39, se r (boC T.reverse) TTn, cl b14 (Lib.byteCells x.2.1).toArray 39, cl b15 (Lib.byteCells x.2.2).toArray 39], []⟩) (fun x => T.length - x.1) (0, f, f) ⟨Nat.zero_le _, hf, hf, rfl⟩ ⟨⟨rfl, rfl, rfl, rfl, rfl, rfl, rfl, rfl, trivial⟩, .cons (.cons (.cons (.cons (.cons (.cons .nil))))), rfl⟩ ?_
 rintro ⟨i, x, y⟩ ⟨hi, hx, hy, hI⟩
 simp only at hi hx hy hI
 refine cd (fun hlt => ?_) (fun hge => ?_)
 · have hlt' : i < T.length := by (try simp only at hlt); omega
   obtain ⟨b, o, rfl⟩ := had (fun e => by subst e; simp at hl; omega)
   have hri : i < rs'.length := by omega
   obtain ⟨p, hp⟩ : ∃ p, rs'[i]? = some p := ⟨_, List.getElem?_eq_getElem hri⟩
   have hdr : rs'.drop i = p :: rs'.drop (i + 1) := by
    rw [List.drop_eq_getElem_cons hri]; congr 1; rw [List.getElem?_eq_getElem hri] at hp; exact Option.some.inj hp
   have hti : i < T.reverse.length := by simpa using hlt'
   obtain ⟨u, hu⟩ : ∃ u, T.reverse.getD i false = u := ⟨_, rfl⟩
   have hdt : T.reverse.drop i = u :: T.reverse.drop (i + 1) := by
    rw [List.drop_eq_getElem_cons hti]; congr 1; rw [← hu, List.getD_eq_getElem?_getD, List.getElem?_eq_getElem hti]; rfl
   rw [hdr, hdt] at hI
   refine ⟨by omega, by omega, ?_⟩
   have hpl : p.length = 32 := hln p (List.mem_of_getElem? hp)
   have hzp := qF p hpl
   have hzx := qF x hx
   have hzy := qF y hy
   refine .mk (Lib.byteCells p).toArray hzp (fun w1 hs => by rw [qk, qj, Int.toNat_natCast, Nat.mul_comm]; exact RdS.at (hrd w1 (hs.res (k := 0) rfl)) i p hp) ?_
   intro b17
   refine sN 6 (d := (Lib.byteCells p).toArray) rfl (hzp.trans (by kernel_rfl)) (qv _) ?_ (by rw [hzp]; kernel_rfl)
   rcases r with _ | ⟨br, cr', jk⟩
   · have := hR.2; omega
   injection hv with hv1 hv2 hv3
   subst hv1
   refine ⟨by omega, by omega, ?_⟩
   refine ld1 3 rfl (v := .bool u) (by rw [← hu]; exact bo_at T.reverse jk i hti _ rfl) ?_
   cases u with
   | true =>
    refine ct rfl ?_
    refine ldN 5 rfl hzy ?_
    refine ldN 6 rfl hzp ?_
    refine cv (qdE y p hy hpl) ?_
    have hzn := qF (Qh y p) (qS _)
    refine sN 5 (d := (Lib.byteCells (Qh y p)).toArray) rfl (hzn.trans hzy.symm) (qv _) ?_ (by rw [hzn]; kernel_rfl)
    refine .as ((i + 1 : Nat) : Int) (by simp) (by simp only [mn]; omega) (by simp only [mx]; omega) ?_
    exact ⟨(i + 1, x, Qh y p), ⟨hlt', hx, qS _, hI⟩, by (try simp only); omega, ⟨⟨rfl, rfl, rfl, rfl, rfl, rfl, rfl, rfl, trivial⟩, .cons (.cons (.cons (.cons (.cons (.cons .nil))))), rfl⟩⟩
   | false =>
    refine cf rfl ?_
    refine drs [dead, dead, dead, dead, cl b14 (Lib.byteCells x).toArray 39, cl b15 (Lib.byteCells y).toArray 39, cl b17 (Lib.byteCells p).toArray 39] [6, 7] (.t 0 (.t 1 (.t 2 (.t 3 (.t 4 (.t 5 (.n 6 (.n 7 .nil)))))))) qd qf (by kernel_rfl) (.dead (.dead (.dead (.dead (.cons (.cons (.cons .nil))))))) ?_
    refine ldN 6 rfl hzp ?_
    refine ldN 4 rfl hzx ?_
    refine cz (qdE p x hpl hx) ?_
    refine ldN 6 rfl hzp ?_
    refine ldN 5 rfl hzy ?_
    refine cz (qdE p y hpl hy) ?_
    have hzn := qF (Qh p x) (qS _)
    have hzm := qF (Qh p y) (qS _)
    refine sN 4 (d := (Lib.byteCells (Qh p x)).toArray) rfl (hzn.trans hzx.symm) (qv _) ?_ (by rw [hzn]; kernel_rfl)
    refine sN 5 (d := (Lib.byteCells (Qh p y)).toArray) rfl (hzm.trans hzy.symm) (qv _) ?_ (by rw [hzm]; kernel_rfl)
    refine .as ((i + 1 : Nat) : Int) (by simp) (by simp only [mn]; omega) (by simp only [mx]; omega) ?_
    exact ⟨(i + 1, Qh p x, Qh p y), ⟨hlt', qS _, qS _, hI⟩, by (try simp only); omega, ⟨⟨rfl, rfl, rfl, rfl, rfl, rfl, rfl, rfl, trivial⟩, .cons (.cons (.cons (.cons (.cons (.cons .nil))))), rfl⟩⟩
 · have hge' : T.length ≤ i := by (try simp only at hge); omega
   rw [List.drop_of_length_le (by simpa using hge')] at hI
   change (x, y) = _ at hI
   rw [← hI] at hB
   simp only at hB
   have g1 : ∀ (b : Bool), decide (x = old) = b → (decide (x = old) == true) = b := fun b h => by rw [h]; cases b <;> rfl
   refine ldN 4 rfl (qF x hx) ?_
   refine ldN 1 rfl (qF old ho) ?_
   refine eqS rfl hx ho ?_
   by_cases hxo : x = old
   · have p1 := g1 _ (decide_eq_true hxo)
     have p2 : decide (x = old) = true := decide_eq_true hxo
     refine ct p1 ?_
     refine ldN 5 rfl (qF y hy) ?_
     refine ct p1 ?_
     refine ldN 2 rfl (qF new hn) ?_
     refine ct p1 ?_
     refine eqS rfl hy hn ?_
     refine ct p2 ?_
     refine rt ?_
     rw [hB, p2]; rfl
   · have p1 := g1 _ (decide_eq_false hxo)
     have p2 : decide (x = old) = false := decide_eq_false hxo
     iterate 3 refine cf p1 ?_
     refine cf p2 ?_
     refine rt ?_
     rw [hB, p2]; rfl
theorem extends_any (m n : Int) (old new : Bs) (ho : old.length = 32) (hn : new.length = 32) (ps : List Bs) (a : Option Addr) (c : Nat) (w : World) (h : RdS w (.slice a ps.length c) ps) :
 Calls Tryz.prog 85 ([.int .i64 m, .int .i64 n, Qe old, Qe new, .slice a ps.length c] : List Value).toArray w fun e w' => e = .returned (.bool (extB m n old new ps)) ∧ Below w.heap.size w w' := by
 obtain ⟨B, hB⟩ : ∃ B, B = extB m n old new ps := ⟨_, rfl⟩
 rw [← hB]
 unfold extB at hB
 refine (enterP (c := ((Tryz.f85.body).getD .skip)) qd Tryz.func85 rfl Tryz.ntmps85 rfl (St.rdS h) (R := fun v w' => v = .bool B ∧ Below w.heap.size w w') ?_).mono (fun e w' ⟨u, he, h1, h2⟩ => ⟨by rw [he, h1], h2⟩)
 by_cases hc : n < 1 ∨ 1048576 < n ∨ m < 1 ∨ n < m
 · rw [if_pos hc] at hB
   subst hB
   refine cutS qd (fun _ : Unit => False) (fun _ => ⟨[], [], []⟩) 5 ?_ (fun _ hx => hx.elim)
   intro b7 b8
   by_cases h1 : n < 1
   · have p : decide (n < 1) = true := decide_eq_true h1
     have q : (decide (n < 1) == false) = false := by rw [p]; rfl
     repeat (first | refine cf q ?_ | refine ct q ?_ | refine cf p ?_ | refine ct p ?_ | refine cf rfl ?_ | refine ct rfl ?_)
     exact rt rfl
   have p : decide (n < 1) = false := decide_eq_false h1
   have q : (decide (n < 1) == false) = true := by rw [p]; rfl
   by_cases h2 : n > 1048576
   · have p' : decide (n > 1048576) = true := decide_eq_true h2
     have q' : (decide (n > 1048576) == false) = false := by rw [p']; rfl
     repeat (first | refine cf q' ?_ | refine ct p' ?_ | refine ct q ?_ | refine cf p ?_ | refine cf rfl ?_ | refine ct rfl ?_)
     exact rt rfl
   have p' : decide (n > 1048576) = false := decide_eq_false h2
   have q' : (decide (n > 1048576) == false) = true := by rw [p']; rfl
   by_cases h3 : m < 1
   · have p3 : decide (m < 1) = true := decide_eq_true h3
     have q3 : (decide (m < 1) == false) = false := by rw [p3]; rfl
     repeat (first | refine cf q3 ?_ | refine ct p3 ?_ | refine ct q' ?_ | refine cf p' ?_ | refine ct q ?_ | refine cf p ?_ | refine cf rfl ?_ | refine ct rfl ?_)
     exact rt rfl
   have p3 : decide (m < 1) = false := decide_eq_false h3
   have q3 : (decide (m < 1) == false) = true := by rw [p3]; rfl
   have p4 : decide (m > n) = true := decide_eq_true (by omega)
   repeat (first | refine ct p4 ?_ | refine ct q3 ?_ | refine cf p3 ?_ | refine ct q' ?_ | refine cf p' ?_ | refine ct q ?_ | refine cf p ?_ | refine cf rfl ?_ | refine ct rfl ?_)
   exact rt rfl
 rw [if_neg hc] at hB
 have p : decide (n < 1) = false := decide_eq_false (by omega)
 have q : (decide (n < 1) == false) = true := by rw [p]; rfl
 have p' : decide (n > 1048576) = false := decide_eq_false (by omega)
 have q' : (decide (n > 1048576) == false) = true := by rw [p']; rfl
 have p3 : decide (m < 1) = false := decide_eq_false (by omega)
 have q3 : (decide (m < 1) == false) = true := by rw [p3]; rfl
 have p4 : decide (m > n) = false := decide_eq_false (by omega)
 obtain ⟨m, rfl⟩ : ∃ k : Nat, m = k := ⟨m.toNat, by omega⟩
 obtain ⟨n, rfl⟩ : ∃ k : Nat, n = k := ⟨n.toNat, by omega⟩
 simp only [Int.toNat_natCast] at hB
 have hTl : (qU m n).1.length ≤ 1048576 := Nat.le_trans (qbn n m n) (by omega)
 have hst := fun w => steps_any m n (by omega) (by omega) (by omega) w
 obtain ⟨T, hT⟩ : ∃ T, T = (qU m n).1 := ⟨_, rfl⟩
 obtain ⟨A, hA⟩ : ∃ A, A = (qU m n).2 := ⟨_, rfl⟩
 rw [← hT] at hB hTl hst
 rw [← hA] at hB hst
 clear hT hA
 have had : ps ≠ [] → ∃ b o, a = some ⟨b, o, none⟩ := fun hne => by
  obtain ⟨_, a', c', e2, _, l3⟩ := h
  injection e2 with e2 _ _
  obtain ⟨b, o, e5, _, _⟩ := l3 hne
  exact ⟨b, o, e2.trans e5⟩
 refine cutS qd (ExOk a c ps T old new B) (exF a c ps T old new) 5 ?_ (fun x hx => ext_rest ho hn hTl w x hx)
 intro b7 b8
 repeat (first | refine cf p4 ?_ | refine ct q3 ?_ | refine cf p3 ?_ | refine ct q' ?_ | refine cf p' ?_ | refine ct q ?_ | refine cf p ?_ | refine cf rfl ?_ | refine ct rfl ?_)
 refine coW (n := T.length) (z := 1) (xs := boC T.reverse) (e := TTn) (fun v => .tuple #[v, .bool A]) (fun w1 hs => hst w1) (fun r hR => ?_)
 refine ldN 1 rfl (qF old ho) ?_
 intro b13
 refine sN 4 (d := (Lib.byteCells old).toArray) rfl ((qF old ho).trans (by kernel_rfl)) (qv _) ?_ (by rw [qF old ho]; kernel_rfl)
 cases A with
 | true =>
  refine cf rfl ?_
  refine ⟨⟨b7, b8, b13, r, a, c, ps, old⟩, ⟨hR, ho, h.1, fun hne => had hne, fun _ h => h, by rw [hB]; rfl⟩, ⟨⟨rfl, rfl, rfl, rfl, rfl, trivial⟩, .cons (.cons (.cons (.cons (.cons .nil)))), rfl⟩⟩
 | false =>
  refine ct rfl ?_
  cases ps with
  | nil =>
   refine ct rfl ?_
   subst hB
   exact rt rfl
  | cons p0 pr =>
   have e0 : (((p0 :: pr).length : Nat) : Int) ≠ 0 := by simp only [List.length_cons]; omega
   have e1 : ((((p0 :: pr).length : Nat) : Int) == 0) = false := by simpa using e0
   refine cf e1 ?_
   obtain ⟨l1, a', c', e2, l2, l3⟩ := h
   injection e2 with e2 e3 e4
   subst e2 e4
   obtain ⟨b, o, e5, l4, l5⟩ := l3 (by simp)
   subst e5
   have hc1 : pr ≠ [] → 1 < c := fun hne => by
    cases pr with
    | nil => exact absurd rfl hne
    | cons x y => simp only [List.length_cons] at l2; omega
   refine drm [3, 4] [rs (rdS (some ⟨b, o, none⟩) c (p0 :: pr)), cl b7 (Lib.byteCells old).toArray 39, cl b8 (Lib.byteCells new).toArray 39, se r (boC T.reverse) TTn, cl b13 (Lib.byteCells old).toArray 39] [5, 6] (.t 0 (.t 1 (.t 2 (.n 5 (.n 6 .nil))))) qd qf (by kernel_rfl) (.cons (.cons (.cons (.cons (.cons .nil))))) ?_
   refine slTail (by simp) l2 (fun a2 ha2 => ?_)
   refine ⟨by decide, by simp only [List.length_cons]; omega, ?_⟩
   refine .mk (Lib.byteCells p0).toArray (qF _ (l1 _ (by simp))) (fun w1 hs => ?_) ?_
   · have h1 := RdS.at (hs.res (k := 0) rfl) 0 p0 rfl
     rw [qk, qj]; simpa using h1
   refine sN 4 (d := (Lib.byteCells p0).toArray) rfl ((qF _ (l1 _ (by simp))).trans (qF old ho).symm) (qv _) ?_ (by rw [qF _ (l1 _ (by simp))]; kernel_rfl)
   refine ⟨⟨b7, b8, b13, r, a2, c - 1, pr, p0⟩, ⟨hR, l1 _ (by simp), fun q hq => l1 q (by simp [show q ∈ pr from hq]), fun hne => ⟨_, _, ha2 (hc1 hne)⟩, fun w1 h1 => h1.tail a2 _ (fun hne => ha2 (hc1 hne)) ?_, by rw [hB]; rfl⟩, ⟨⟨rfl, rfl, rfl, rfl, rfl, trivial⟩, .cons (.cons (.cons (.cons (.cons .nil)))), rfl⟩⟩
   · show pr.length ≤ c - 1
     simp only [List.length_cons] at l2; omega
end
section
open Go.RowKit Go.Sx
theorem rshort_any (v : Value) (bs : Bs) (w : World) (hrd : Rd w v (Lib.byteCells bs)) (hn : bs.length ≤ 1000000) :
 Calls Tryz.prog 39 ([v] : List Value).toArray w fun e w' => e = .returned (Qe (qcL bs)) ∧ Below w.heap.size w w' := S.rshort_any v bs w hrd hn
def qB (l r : Bs) : Bs := 1 :: (l ++ r)
def rtF : Nat → List Bs → Bs
 | 0, _ => qcL []
 | f + 1, l => if l.length < 2 then l.headD (qcL []) else Qh (rtF f (l.take (qx l.length))) (rtF f (l.drop (qx l.length)))
theorem rtF_stab (f : Nat) : ∀ (l : List Bs) (g : Nat), l.length ≤ 1048576 → l.length ≤ f → l.length ≤ g → rtF f l = rtF g l := by
 induction f with
 | zero =>
  intro l g hn h1 h2
  obtain rfl : l = [] := List.length_eq_zero_iff.1 (by omega)
  cases g <;> rfl
 | succ f ih =>
  intro l g hn h1 h2
  cases g with
  | zero => obtain rfl : l = [] := List.length_eq_zero_iff.1 (by omega); rfl
  | succ g =>
   rw [rtF, rtF]
   by_cases h : l.length < 2
   · rw [if_pos h, if_pos h]
   · obtain ⟨c1, c2, c3⟩ := zF l.length (by omega) hn
     rw [if_neg h, if_neg h, ih (l.take _) g (by rw [List.length_take]; omega) (by rw [List.length_take]; omega) (by rw [List.length_take]; omega), ih (l.drop _) g (by rw [List.length_drop]; omega) (by rw [List.length_drop]; omega) (by rw [List.length_drop]; omega)]
def qR (l : List Bs) : Bs := rtF l.length l
theorem qdo (l : List Bs) (h : 2 ≤ l.length) (hn : l.length ≤ 1048576) : qR l = Qh (qR (l.take (qx l.length))) (qR (l.drop (qx l.length))) := by
 obtain ⟨c1, c2, c3⟩ := zF l.length h hn
 obtain ⟨q, hq⟩ : ∃ q, l.length = q + 1 := ⟨l.length - 1, by omega⟩
 unfold qR
 rw [rtF_stab (l.take _).length (l.take _) q (by rw [List.length_take]; omega) (Nat.le_refl _) (by rw [List.length_take]; omega), rtF_stab (l.drop _).length (l.drop _) q (by rw [List.length_drop]; omega) (Nat.le_refl _) (by rw [List.length_drop]; omega)]
 rw [hq, rtF, if_neg (by omega), hq]
theorem rtF_len (f : Nat) : ∀ l : List Bs, (∀ p ∈ l, p.length = 32) → (rtF f l).length = 32 := by
 induction f with
 | zero => intro l _; exact qS _
 | succ f ih =>
  intro l h
  rw [rtF]
  split
  · cases l with
    | nil => exact qS _
    | cons x xs => exact h x (by simp)
  · exact qS _
theorem Qw (l : List Bs) (h : ∀ p ∈ l, p.length = 32) : (qR l).length = 32 := rtF_len _ l h
theorem RdS.take {w : World} {a : Option Addr} {n c : Nat} {ps : List Bs} (h : RdS w (.slice a n c) ps) (k : Nat) (hk : k ≤ ps.length) : RdS w (.slice a k c) (ps.take k) := by
 obtain ⟨h1, a2, c2, h2, h3, h4⟩ := h
 injection h2 with e1 e2 e3
 have hl : (ps.take k).length = k := by rw [List.length_take]; omega
 refine ⟨fun p hp => h1 p (List.mem_of_mem_take hp), a, c, by rw [hl], by omega, fun hne => ?_⟩
 obtain ⟨b, o, e, hb, hr⟩ := h4 (fun e => hne (by rw [e, List.take_nil]))
 refine ⟨b, o, by rw [e1, e], hb, fun i p hp => hr i p ?_⟩
 have hi : i < k := by
  rcases Nat.lt_or_ge i k with h | h
  · exact h
  · rw [List.getElem?_eq_none (by omega)] at hp; cases hp
 rwa [List.getElem?_take_of_lt hi] at hp
theorem RdS.drop {w : World} {b o n c : Nat} {ps : List Bs} (h : RdS w (.slice (some ⟨b, o, none⟩) n c) ps) (k : Nat) (hk : k ≤ ps.length) (a' : Option Addr) (ha : k < c → a' = some ⟨b, o + 32 * k, none⟩) : RdS w (.slice a' (n - k) (c - k)) (ps.drop k) := by
 obtain ⟨h1, a2, c2, h2, h3, h4⟩ := h
 injection h2 with e1 e2 e3
 have hl : (ps.drop k).length = n - k := by rw [List.length_drop]; omega
 refine ⟨fun p hp => h1 p (List.mem_of_mem_drop hp), a', c - k, by rw [hl], by omega, fun hne => ?_⟩
 obtain ⟨b2, o2, e, hb, hr⟩ := h4 (fun e => hne (by rw [e, List.drop_nil]))
 rw [e] at e1
 injection e1 with e1
 injection e1 with e1 e4
 subst e1 e4
 have hlt : k < c := by
  have : (ps.drop k).length ≠ 0 := fun e => hne (List.length_eq_zero_iff.1 e)
  omega
 refine ⟨b, o + 32 * k, ha hlt, hb, fun i p hp => ?_⟩
 have := hr (k + i) p (by rw [List.getElem?_drop] at hp; exact hp)
 rwa [show o + 32 * (k + i) = o + 32 * k + 32 * i by omega] at this
theorem slFrom {e z b o n c k : Nat} (hk : k ≤ n) (hnc : n ≤ c) {next : Value → Prop} {fb : Prop} (go : ∀ a', (k < c → a' = some ⟨b, o + z * k, none⟩) → next (.slice a' (n - k) (c - k))) :
 SliP (.sl e z) (.slice (some ⟨b, o, none⟩) n c) (some (k : Int)) none none next fb := by
 refine ⟨?_⟩
 refine .mk k n c rfl rfl rfl hk hnc (Nat.le_refl _) (by simp) ?_
 by_cases h1 : k = c
 · exact .all h1.symm (go _ (fun h => by omega))
 · refine .on (by omega) ?_
   rw [qk, qj, Nat.mul_comm]
   exact go _ (fun _ => rfl)
theorem cut_uniq (n j : Nat) (hn : n ≤ 1048576) (h1 : 2 ^ j ≤ n - 1) (h2 : n - 1 < 2 ^ (j + 1)) (h0 : 2 ≤ n) : qx n = 2 ^ j := by
 obtain ⟨b1, b2, b3, b4⟩ := bl_bd 64 (n - 1) (by omega) (Nat.lt_of_le_of_lt (show n - 1 ≤ 1048576 by omega) (by decide))
 unfold qx bl2
 rw [if_neg (by omega)]
 congr 1
 generalize blF 64 (n - 1) = q at *
 rcases Nat.lt_trichotomy (q - 1) j with h | h | h
 · exact absurd (Nat.lt_of_lt_of_le b3 (Nat.le_trans (Nat.pow_le_pow_right (by decide) (show q ≤ j by omega)) h1)) (Nat.lt_irrefl _)
 · exact h
 · exact absurd (Nat.lt_of_lt_of_le h2 (Nat.le_trans (Nat.pow_le_pow_right (by decide) (show j + 1 ≤ q - 1 by omega)) b2)) (Nat.lt_irrefl _)
theorem qbu (n : Nat) (hn : n ≤ 1048576) (w : World) : Calls Tryz.prog 56 ([.int .i64 n] : List Value).toArray w fun e w' => e = .returned (.int .i64 (qx n)) ∧ Below w.heap.size w w' := by
 refine ql qd Tryz.func56 rfl Tryz.ntmps56 rfl (St.start w) ?_
 refine cd (fun h => ?_) (fun h => ?_)
 · have h2 : n < 2 := by omega
   have e : qx n = 0 := by unfold qx; rw [if_pos h2]
   rw [e]
   exact rt rfl
 have h2 : 2 ≤ n := by omega
 refine lp qd (fun j : Nat => 2 ^ j ≤ n - 1) (fun j => ⟨[(0, .int .i64 n), (3, .int .i64 ((2 ^ j : Nat) : Int))], [], []⟩) (fun j => n - 2 ^ j) 0 (by omega) ⟨⟨rfl, rfl, trivial⟩, .nil, rfl⟩ ?_
 intro j hj
 have e2 : 2 ^ (j + 1) = 2 * 2 ^ j := by rw [Nat.pow_succ, Nat.mul_comm]
 have hp : 0 < 2 ^ j := Nat.pow_pos (by decide)
 refine .as ((n - 1 : Nat) : Int) (by omega) (by simp only [mn]; omega) (by simp only [mx]; omega) ?_
 refine ⟨by omega, by simp only [mx]; omega, by decide, ?_⟩
 refine cd (fun h => ?_) (fun h => ?_)
 · refine .as ((2 ^ (j + 1) : Nat) : Int) (by rw [e2]; omega) (by simp only [mn]; omega) (by simp only [mx]; omega) ?_
   exact ⟨j + 1, by omega, by omega, ⟨⟨rfl, rfl, trivial⟩, .nil, rfl⟩⟩
 · have e : qx n = 2 ^ j := cut_uniq n j hn hj (by omega) h2
   rw [e]
   exact rt rfl
theorem sumSrc {M : Bks} {B w : World} {L : List Ent} (hs : St M B w L) (k : Nat) {b t : Nat} {fz : Nat × Nat} {ro : Bool} {l : Bs} (hl : l.length = 32) (hk : L[k]? = some ⟨b, some (.cells (Lib.byteCells l).toArray t fz), ro, none⟩) :
 Src Tryz.prog 1 48 (.slice (some ⟨b, 0, none⟩) 32 32) 32 (Lib.byteCells l) w := by
 have e : (Lib.byteCells l).length = 32 := by rw [Lib.byteCells_length, hl]
 have h : Rd w (.slice (some ⟨b, 0, none⟩) 32 32) (Lib.byteCells l) := Rd.ent hs k (n := 32) hk e.symm (by rw [List.drop_zero, List.take_of_length_le (by show (Lib.byteCells l).length ≤ 32; omega)])
 have := h.src ZH (fun u hu => by obtain ⟨_, _, rfl⟩ := List.mem_map.1 hu; rfl)
 rwa [e] at this
theorem ZS (l r : Bs) (hl : l.length = 32) (hr : r.length = 32) (w : World) : Calls Tryz.prog 66 ([Qe l, Qe r] : List Value).toArray w fun e w' => ∃ q, e = .returned (sv q 65) ∧ Rw 1 65 q (Lib.byteCells (qB l r)) ∧ z8 w w' q (Lib.byteCells (qB l r)) 5 ∧ Below w.heap.size w w' := by
 refine (enter qd Tryz.func66 rfl Tryz.ntmps66 rfl (St.start w) (R := fun v w' => ∃ q, v = sv q 65 ∧ Rw 1 65 q (Lib.byteCells (qB l r)) ∧ z8 w w' q (Lib.byteCells (qB l r)) 5 ∧ Below w.heap.size w w') ?_).mono (fun e w' ⟨v, he, r, hv, h⟩ => ⟨r, by rw [he, hv], h⟩)
 intro b2 b3
 refine dr _ 99 (.t 1 (.t 3 (.n 0 (.n 2 (.n 4 (.n 5 .nil)))))) qd qf (by kernel_rfl) (.refl _) ?_
 refine ⟨.mk 0 32 32 rfl rfl rfl (by decide) (by decide) (by decide) (by simp) (.on (by decide) ?_)⟩
 refine ⟨.mk 0 32 32 rfl rfl rfl (by decide) (by decide) (by decide) (by simp) (.on (by decide) ?_)⟩
 refine .mk #[.int .u8 1] 5 (fun w => bs5 _ w) (fun bn => ?_)
 refine ⟨.cons (.cons .nil), ?_⟩
 refine ap (r := some (bn, 1, [])) (n := 1) (xs := [.int .u8 1]) (m := 32) (news := Lib.byteCells l) 2 qd rfl Ql rfl rfl ⟨rfl, by decide, by decide, rfl⟩ (fun w' hs => sumSrc hs 0 hl rfl) (by omega) (by unfold maxLen; omega) (fun r1 hr1 => ?_)
 refine ⟨.cons (.cons .nil), ?_⟩
 refine ap (r := r1) (n := 33) (xs := .int .u8 1 :: Lib.byteCells l) (m := 32) (news := Lib.byteCells r) 2 qd rfl Ql rfl rfl hr1 (fun w' hs => sumSrc hs 1 hr rfl) (by omega) (by unfold maxLen; omega) (fun r2 hr2 => ?_)
 refine ⟨.cons (.cons .nil), ?_⟩
 have e : (.int .u8 1 :: Lib.byteCells l) ++ Lib.byteCells r = Lib.byteCells (qB l r) := by unfold qB; simp [Lib.byteCells]
 rw [e] at hr2 ⊢
 refine ⟨.cons (.cons .nil), ?_⟩
 exact ⟨fun w1 hs1 => ⟨r2, rfl, hr2, zU hs1 rfl 2 rfl, hs1.below⟩⟩
theorem qaO (l r : Bs) (hl : l.length = 32) (hr : r.length = 32) (w : World) : Calls Tryz.prog 65 ([Qe l, Qe r] : List Value).toArray w fun e w' => e = .returned (Qe (Qh l r)) ∧ Below w.heap.size w w' := by
 refine ql qd Tryz.func65 rfl Tryz.ntmps65 rfl (St.start w) ?_
 intro b2 b3 b4
 refine ldN 0 rfl (Zt l hl) ?_
 refine ldN 1 rfl (Zt r hr) ?_
 refine co (fun w' _ => ZS l r hl hr w') (fun q hq => ?_)
 refine cvs (v := Qe (Qh l r)) (fun w' hs => rshort_any _ (qB l r) w' (Rd.own hs 3 rfl hq) (by simp [qB, hl, hr])) ?_
 have hz := qF (Qh l r) (qS _)
 refine sN 2 rfl (hz.trans (by kernel_rfl)) (qv _) ?_ (by rw [hz]; kernel_rfl)
 refine ldN 2 rfl hz ?_
 exact rt rfl
theorem rd_nilB (w : World) : Rd w (.slice none 0 0) (Lib.byteCells []) := ⟨none, 0, rfl, fun h => absurd rfl h⟩
theorem rroot_f (f : Nat) : ∀ (ps : List Bs) (v : Value) (w : World), ps.length < f → ps.length ≤ 1048576 → RdS w v ps →
 Calls Tryz.prog 35 ([v] : List Value).toArray w fun e w' => e = .returned (Qe (qR ps)) ∧ Below w.heap.size w w' := by
 induction f with
 | zero => intro ps v w h0; exact absurd h0 (Nat.not_lt_zero _)
 | succ f ih =>
  intro ps v w h0 hn hrd
  have hrd0 := hrd
  obtain ⟨h32, a, c, hv, hc, had⟩ := hrd0
  subst hv
  refine ql qd Tryz.func35 rfl Tryz.ntmps35 rfl (St.rdS hrd) ?_
  intro b2
  refine cq (fun h => ?_) (fun h => ?_)
  · obtain rfl : ps = [] := List.length_eq_zero_iff.1 (by omega)
    refine cv (v := Qe (qcL [])) (fun w' => rshort_any _ [] w' (rd_nilB w') (by decide)) ?_
    have hz := qF (qcL []) (qS _)
    refine sN 1 rfl (hz.trans (by kernel_rfl)) (qv _) ?_ (by rw [hz]; kernel_rfl)
    refine ldN 1 rfl hz ?_
    exact rt rfl
  obtain ⟨b, o, rfl, hb, hat⟩ := had (fun e => by subst e; simp at h)
  refine cq (fun h1 => ?_) (fun h1 => ?_)
  · obtain ⟨p, rfl⟩ : ∃ p, ps = [p] := List.length_eq_one_iff.1 (by omega)
    have hz := qF p (h32 p (by simp))
    refine ⟨by decide, by simp, ?_⟩
    refine .mk (Lib.byteCells p).toArray hz (fun w1 hs => by rw [qk, qj]; exact RdS.at (hs.res (k := 0) rfl) 0 p rfl) ?_
    refine sN 1 rfl (hz.trans (by kernel_rfl)) (qv _) ?_ (by rw [hz]; kernel_rfl)
    refine ldN 1 rfl hz ?_
    exact rt rfl
  have h2 : 2 ≤ ps.length := by omega
  obtain ⟨c1, c2, c3⟩ := zF ps.length h2 hn
  refine cv (fun w' => qbu ps.length hn w') ?_
  have he := qdo ps h2 hn
  generalize hk : qx ps.length = k at *
  refine drs _ [9] (.t 0 (.t 1 (.t 2 (.t 3 (.t 4 (.t 5 (.t 6 (.t 7 (.t 8 (.n 9 .nil)))))))))) qd qf (by kernel_rfl) (.refl _) ?_
  refine slTo (fun a ha => by injection ha with ha; subst ha; rfl) (by omega) hc ?_
  refine czs (v := Qe (qR (ps.take k))) (fun w' hs => ih (ps.take k) _ w' (by rw [List.length_take]; omega) (by rw [List.length_take]; omega) (RdS.take (hs.res (k := 0) rfl) k (by omega))) ?_
  refine slFrom (by omega) hc (fun a' ha => ?_)
  refine czs (v := Qe (qR (ps.drop k))) (fun w' hs => ih (ps.drop k) _ w' (by rw [List.length_drop]; omega) (by rw [List.length_drop]; omega) (RdS.drop (hs.res (k := 0) rfl) k (by omega) a' ha)) ?_
  refine cz (fun w' => qaO (qR (ps.take k)) (qR (ps.drop k)) (Qw _ (fun p hp => h32 p (List.mem_of_mem_take hp))) (Qw _ (fun p hp => h32 p (List.mem_of_mem_drop hp))) w') ?_
  have hz := qF (Qh (qR (ps.take k)) (qR (ps.drop k))) (qS _)
  refine sN 1 rfl (hz.trans (by kernel_rfl)) (qv _) ?_ (by rw [hz]; kernel_rfl)
  refine ldN 1 rfl hz ?_
  rw [he]
  exact rt rfl
theorem Zl (ps : List Bs) (v : Value) (w : World) (hn : ps.length ≤ 1048576) (h : RdS w v ps) :
 Calls Tryz.prog 35 ([v] : List Value).toArray w fun e w' => e = .returned (Qe (qR ps)) ∧ Below w.heap.size w w' := rroot_f _ ps v w (Nat.lt_succ_self _) hn h
end
section
open Go.RowKit Go.Sx
theorem St.merge {M : Bks} {B w : World} {L : List Ent} (h : St M B w L) {k j : Nat} {x y e' : Ent} (hk : L[k]? = some x) (hj : L[j]? = some y) (hkj : k ≠ j) (ok : e'.Ok w) (W : ∀ i, e'.W i → x.W i ∨ y.W i) (A : ∀ i, e'.A i → x.A i ∨ y.A i) : St M B w ((L.set j dead).set k e') := by
 have hjd := h.kill j
 refine ⟨h.os, h.tape, h.output, h.size, h.old, fun f hf => ?_, fun f hf i hi => ?_, ?_⟩
 · rcases Qk hf with rfl | ⟨i, _, hi⟩
   · exact ok
   · exact hjd.ok f (List.mem_of_getElem? hi)
 · rcases Qk hf with rfl | ⟨q, _, hq⟩
   · rcases W i hi with h1 | h1
     · exact h.ownW x (List.mem_of_getElem? hk) i h1
     · exact h.ownW y (List.mem_of_getElem? hj) i h1
   · exact hjd.ownW f (List.mem_of_getElem? hq) i hi
 · refine pw_set hjd.apart fun i f hik hi => ?_
   by_cases hij : i = j
   · subst hij
     rw [List.getElem?_set_self (List.getElem?_eq_some_iff.1 hj).1] at hi
     obtain rfl := Option.some.inj hi
     exact (zo _).symm
   · rw [List.getElem?_set_ne (fun e => hij e.symm)] at hi
     have a1 := Qx h.apart hk hi (fun e => hik e.symm)
     have a2 := Qx h.apart hj hi (fun e => hij e.symm)
     exact fun q => ⟨fun h1 h2 => (W q h1).elim (fun h3 => (a1 q).1 h3 h2) (fun h3 => (a2 q).1 h3 h2), fun h1 h2 => (A q h2).elim (fun h3 => (a1 q).2 h1 h3) (fun h3 => (a2 q).2 h1 h3)⟩
theorem qcv {C : Cx} {ts : Array TypeId} {t : TypeId} {cs : Array Bool} {vs : List Value} {L : List Ent} {next next' : Value → List Ent → Prop} (h : BiP C .append ts t cs vs L next') (hn : ∀ w' v L', St C.M C.B w' L' → next' v L' → ∃ L'', St C.M C.B w' L'' ∧ next v L'') : BiP C .append ts t cs vs L next := by
 refine apRun fun w hs => ?_
 have h1 := h.go w hs
 cases hr : (Builtin.append_ ts t vs.toArray).run C.P w with
 | ok r w' =>
  have : (builtin .append ts t cs vs.toArray).run C.P w = .ok (.value r) w' := by simp [builtin, hr]
  rw [this] at h1
  obtain ⟨L', h2, h3⟩ := h1
  obtain ⟨L'', h4, h5⟩ := hn w' r L' h2 h3
  exact ⟨r, w', L'', rfl, h4, h5⟩
 | _ =>
  exfalso
  simp [builtin, hr, Sx.Fin] at h1
abbrev Rws := List (Sx.Own × Bs)
def Qq (l : Rws) : List Ent := l.map fun x => se x.1 (Lib.byteCells x.2) 5
def qK (l : Rws) : List Value := l.map fun x => sv x.1 x.2.length
theorem se_A {r : Sx.Own} {xs : List Value} {e : TypeId} {p : Nat → Prop} : ∀ k, (se r xs e).A k → ¬ (se r xs e).W k → p k := fun k h1 h2 => by
 cases r with
 | none => simp [se] at h1
 | some q => exact absurd (by simpa [se] using h1) (by simpa [se] using h2)
theorem rows_A {l : Rws} : ∀ b, (rs (qw (Qq l))).A b → (rs (qw (Qq l))).W b := fun b hb => by
 obtain ⟨e, he, hb2⟩ := (zD _ _).1 hb
 obtain ⟨x, hx, rfl⟩ := List.mem_map.1 he
 refine (zs _ _).2 ⟨_, he, ?_⟩
 exact Classical.byContradiction fun h => se_A (p := fun _ => False) b hb2 h
theorem qcZ {M : Bks} {B w : World} {L : List Ent} (h : St M B w L) {k j : Nat} {es : List Ent} {e : Ent} (hk : L[k]? = some (rs (qw es))) (hj : L[j]? = some e) (hkj : k ≠ j) : St M B w ((L.set j dead).set k (rs (qw (es ++ [e])))) := by
 have hp := h.res hk
 have ha := (zm e es).1 (Qx h.apart hj hk (fun q => hkj q.symm))
 refine St.merge h hk hj hkj ((qbq _ _).2 ⟨fun f hf => ?_, ?_⟩) (fun b hb => ?_) (fun b hb => ?_)
 · rcases List.mem_append.1 hf with hf | hf
   · exact hp.1 f hf
   · obtain rfl := List.mem_singleton.1 hf; exact h.ok _ (List.mem_of_getElem? hj)
 · refine List.pairwise_append.2 ⟨hp.2, by simp, fun f hf g hg => ?_⟩
   obtain rfl := List.mem_singleton.1 hg
   exact (ha f hf).symm
 · obtain ⟨f, hf, hb2⟩ := (zs _ _).1 hb
   rcases List.mem_append.1 hf with hf | hf
   · exact .inl ((zs _ _).2 ⟨f, hf, hb2⟩)
   · obtain rfl := List.mem_singleton.1 hf; exact .inr hb2
 · obtain ⟨f, hf, hb2⟩ := (zD _ _).1 hb
   rcases List.mem_append.1 hf with hf | hf
   · exact .inl ((zD _ _).2 ⟨f, hf, hb2⟩)
   · obtain rfl := List.mem_singleton.1 hf; exact .inr hb2
theorem undBys : Tryz.prog.underlying 56 = some (.slice 48) := by kernel_rfl
abbrev TBy : Nat := 48
theorem qd3 {M : Bks} {B w : World} {L : List Ent} (h : St M B w L) {k j : Nat} {es fs : List Ent} (hk : L[k]? = some (rs (qw es))) (hj : L[j]? = some (rs (qw fs))) (hkj : k ≠ j) : St M B w ((L.set j dead).set k (rs (qw (es ++ fs)))) := by
 have hp := h.res hk
 have hq := h.res hj
 have ha := Qx h.apart hj hk (fun q => hkj q.symm)
 refine St.merge h hk hj hkj ((qbq _ _).2 ⟨fun f hf => ?_, ?_⟩) (fun b hb => ?_) (fun b hb => ?_)
 · rcases List.mem_append.1 hf with hf | hf
   · exact hp.1 f hf
   · exact hq.1 f hf
 · refine List.pairwise_append.2 ⟨hp.2, hq.2, fun f hf g hg => ?_⟩
   exact (((zm f fs).1 ((zm _ es).1 ha f hf).symm) g hg)
 · obtain ⟨f, hf, hb2⟩ := (zs _ _).1 hb
   rcases List.mem_append.1 hf with hf | hf
   · exact .inl ((zs _ _).2 ⟨f, hf, hb2⟩)
   · exact .inr ((zs _ _).2 ⟨f, hf, hb2⟩)
 · obtain ⟨f, hf, hb2⟩ := (zD _ _).1 hb
   rcases List.mem_append.1 hf with hf | hf
   · exact .inl ((zD _ _).2 ⟨f, hf, hb2⟩)
   · exact .inr ((zD _ _).2 ⟨f, hf, hb2⟩)
structure Cp where
 r : Sx.Own
 l : Rws
structure CpT (ts : List Bs) (y : Cp) : Prop where
 m : y.l.map (·.2) = ts
 ok : ∀ x ∈ y.l, Rw 1 x.2.length x.1 (Lib.byteCells x.2)
 row : Rw 1 y.l.length y.r (qK y.l)
def Cp.es (y : Cp) : List Ent := [se y.r (qK y.l) TBy, rs (qw (Qq y.l))]
theorem CpT.len {ts : List Bs} {y : Cp} (h : CpT ts y) : y.l.length = ts.length := by rw [← h.m, List.length_map]
theorem Cp.A {y : Cp} : ∀ e ∈ y.es, ∀ k, e.A k → e.W k := fun e he k hk => by
 simp only [Cp.es, List.mem_cons, List.not_mem_nil, or_false] at he
 rcases he with rfl | rfl
 · exact Classical.byContradiction fun h => se_A (p := fun _ => False) k hk h
 · exact rows_A k hk
theorem cpT_nil : CpT [] ⟨none, []⟩ := ⟨rfl, fun x hx => (by cases hx), Rw.nil 1⟩
theorem cp_st0 {w w1 : World} {L : List Ent} (h : St [] w w1 L) : St [] w w1 (Cp.es ⟨none, []⟩) := by
 have e0 : Cp.es ⟨none, []⟩ = [dead, rs (qw [])] := rfl
 rw [e0]
 refine ⟨h.os, h.tape, h.output, h.size, h.old, fun e he => ?_, fun e he k hk => ?_, .cons (fun y hy => zo _) (.cons (fun y hy => by simp at hy) .nil)⟩
 · simp only [List.mem_cons, List.not_mem_nil, or_false] at he
   rcases he with rfl | rfl
   · exact (deadOk w1).2 trivial
   · exact (qbq _ _).2 ⟨fun f hf => (by cases hf), .nil⟩
 · simp only [List.mem_cons, List.not_mem_nil, or_false] at he
   rcases he with rfl | rfl
   · exact ((deadW k).1 hk).elim
   · obtain ⟨f, hf, _⟩ := (zs _ _).1 hk; cases hf
theorem Q5 (a b : Rws) : qK (a ++ b) = qK a ++ qK b := by unfold qK; rw [List.map_append]
theorem Zm (a b : Rws) : Qq (a ++ b) = Qq a ++ Qq b := by unfold Qq; rw [List.map_append]
theorem qaN (a : Rws) : (qK a).length = a.length := by simp [qK]
theorem qb9 (a : Rws) : ∀ u ∈ qK a, u.oneCell' = true := fun u hu => by
 obtain ⟨x, _, rfl⟩ := List.mem_map.1 hu
 rcases x.1 with _ | ⟨_, _, _⟩ <;> rfl
theorem CpT.app {ts us : List Bs} {x y : Cp} (h : CpT ts x) (g : CpT us y) (r : Sx.Own) (hr : Rw 1 (x.l.length + y.l.length) r (qK x.l ++ qK y.l)) : CpT (ts ++ us) ⟨r, x.l ++ y.l⟩ :=
 ⟨by rw [List.map_append, h.m, g.m], fun z hz => (List.mem_append.1 hz).elim (h.ok z) (g.ok z), by rw [List.length_append, Q5]; exact hr⟩
theorem CpT.snoc {ts : List Bs} {x : Cp} {q : Sx.Own} {t : Bs} (h : CpT ts x) (hq : Rw 1 t.length q (Lib.byteCells t)) (r : Sx.Own) (hr : Rw 1 (x.l.length + 1) r (qK x.l ++ [sv q t.length])) : CpT (ts ++ [t]) ⟨r, x.l ++ [(q, t)]⟩ :=
 ⟨by rw [List.map_append, h.m]; rfl, fun z hz => (List.mem_append.1 hz).elim (h.ok z) (fun hz => by obtain rfl := List.mem_singleton.1 hz; exact hq), by rw [List.length_append, Q5]; exact hr⟩
def zj : Nat → List Bs → List Bs
 | 0, _ => []
 | f + 1, l => if l.length < 2 then [] else zj f (l.take (qx l.length)) ++ zj f (l.drop (qx l.length)) ++ [qB (qR (l.take (qx l.length))) (qR (l.drop (qx l.length)))]
theorem textsF_lt (f : Nat) : ∀ l : List Bs, 1 ≤ l.length → l.length ≤ 1048576 → (zj f l).length + 1 ≤ l.length := by
 induction f with
 | zero => intro l h _; exact h
 | succ f ih =>
  intro l h1 hn
  rw [zj]
  split
  · exact h1
  · obtain ⟨c1, c2, c3⟩ := zF l.length (by omega) hn
    have a := ih (l.take (qx l.length)) (by rw [List.length_take]; omega) (by rw [List.length_take]; omega)
    have b := ih (l.drop (qx l.length)) (by rw [List.length_drop]; omega) (by rw [List.length_drop]; omega)
    rw [List.length_take] at a
    rw [List.length_drop] at b
    simp only [List.length_append, List.length_cons, List.length_nil]
    omega
theorem qac (f : Nat) (l : List Bs) (hn : l.length ≤ 1048576) : (zj f l).length ≤ l.length := by
 by_cases h : 1 ≤ l.length
 · have := textsF_lt f l h hn; omega
 · obtain rfl : l = [] := List.length_eq_zero_iff.1 (by omega)
   cases f with
   | zero => exact Nat.le_refl _
   | succ f => exact Nat.le_refl _
theorem zr (a b : Bs) (ha : a.length = 32) (hb : b.length = 32) : (qB a b).length = 65 := by simp [qB, ha, hb]
theorem rtexts_f (f : Nat) : ∀ (ps : List Bs) (v : Value) (w : World), ps.length < f → ps.length ≤ 1048576 → RdS w v ps →
 Calls Tryz.prog 38 ([v] : List Value).toArray w fun e w' => ∃ y : Cp, CpT (zj f ps) y ∧ e = .returned (sv y.r y.l.length) ∧ St [] w w' y.es := by
 induction f with
 | zero => intro ps v w h0; exact absurd h0 (Nat.not_lt_zero _)
 | succ f ih =>
  intro ps v w h0 hn hrd
  have hrd0 := hrd
  obtain ⟨h32, a, c, hv, hc, had⟩ := hrd0
  subst hv
  refine (enter qd Tryz.func38 rfl Tryz.ntmps38 rfl (St.rdS hrd) (R := fun v w' => ∃ y : Cp, CpT (zj (f + 1) ps) y ∧ v = sv y.r y.l.length ∧ St [] w w' y.es) ?_).mono (fun e w' ⟨v, he, y, h1, h2, h3⟩ => ⟨y, h1, by rw [he, h2], h3⟩)
  rw [zj]
  refine cd (fun h => ?_) (fun h => ?_)
  · rw [if_pos (by omega)]
    exact ⟨fun w1 hs => ⟨⟨none, []⟩, cpT_nil, rfl, cp_st0 hs⟩⟩
  rw [if_neg (by omega)]
  have h2 : 2 ≤ ps.length := by omega
  obtain ⟨b, o, rfl, hb, hat⟩ := had (fun e => by subst e; simp at h2)
  obtain ⟨c1, c2, c3⟩ := zF ps.length h2 hn
  refine cv (fun w' => qbu ps.length hn w') ?_
  generalize hk : qx ps.length = k at *
  refine dr [rs (rdS (some ⟨b, o, none⟩) c ps)] 99 (.t 0 (.t 1 (.t 2 (.t 4 (.t 5 (.t 6 (.n 3 (.n 7 (.n 8 (.n 9 .nil)))))))))) qd qf (by kernel_rfl) (.cons .nil) ?_
  refine slTo (fun a ha => by injection ha with ha; subst ha; rfl) (by omega) hc ?_
  refine slFrom (by omega) hc (fun a' ha => ?_)
  refine cMs (fun w' hs => ih (ps.take k) _ w' (by rw [List.length_take]; omega) (by rw [List.length_take]; omega) (RdS.take (hs.res (k := 0) rfl) k (by omega))) (fun x _ => Cp.A) (fun x hx => ?_)
  refine ⟨.cons .nil, ?_⟩
  refine cMs (fun w' hs => ih (ps.drop k) _ w' (by rw [List.length_drop]; omega) (by rw [List.length_drop]; omega) (RdS.drop (hs.res (k := 0) rfl) k (by omega) a' ha)) (fun x _ => Cp.A) (fun y hy => ?_)
  refine ⟨.cons .nil, ?_⟩
  have lx := hx.len
  have ly := hy.len
  have hlx := qac f (ps.take k) (by rw [List.length_take]; omega)
  have hly := qac f (ps.drop k) (by rw [List.length_drop]; omega)
  rw [List.length_take] at hlx
  rw [List.length_drop] at hly
  have hsrc : ∀ w' : World, St [] w w' [rs (rdS (some ⟨b, o, none⟩) c ps), se x.r (qK x.l) TBy, rs (qw (Qq x.l)), se y.r (qK y.l) TBy, rs (qw (Qq y.l))] → Src Tryz.prog 1 56 (sv y.r y.l.length) y.l.length (qK y.l) w' := fun w' hs => by
   have := (Rd.own hs 3 rfl hy.row).src undBys (qb9 _)
   rwa [qaN] at this
  refine qcv (next' := fun v L' => ∃ r', Rw 1 (x.l.length + y.l.length) r' (qK x.l ++ qK y.l) ∧ v = sv r' (x.l.length + y.l.length) ∧ L' = [rs (rdS (some ⟨b, o, none⟩) c ps), se r' (qK x.l ++ qK y.l) TBy, rs (qw (Qq x.l)), se y.r (qK y.l) TBy, rs (qw (Qq y.l))])
   (ap 1 qd rfl Ze rfl rfl hx.row hsrc (by omega) (by unfold maxLen; omega) (fun r' hr' => ⟨r', hr', rfl, rfl⟩)) ?_
  rintro w2 v L' hs2 ⟨r', hr', rfl, rfl⟩
  refine ⟨_, qd3 hs2 (k := 2) (j := 4) rfl rfl (by decide), ?_⟩
  refine ⟨.cons .nil, ?_⟩
  refine ⟨.cons .nil, ?_⟩
  have hxy := hx.app hy r' hr'
  have hT : (x.l.length + y.l.length : Nat) = (x.l ++ y.l).length := by rw [List.length_append]
  rw [hT]
  rw [← Q5, ← Zm]
  generalize hz : x.l ++ y.l = z at *
  have h1 := Qw (ps.take k) (fun p hp => h32 p (List.mem_of_mem_take hp))
  have h2' := Qw (ps.drop k) (fun p hp => h32 p (List.mem_of_mem_drop hp))
  refine dr [rs (rdS (some ⟨b, o, none⟩) c ps)] 99 (.t 0 (.t 1 (.t 2 (.t 3 (.t 4 (.t 5 (.t 6 (.t 7 (.t 8 (.n 9 (.n 10 (.n 11 (.n 12 .nil))))))))))))) qd qf (by kernel_rfl) (.cons .nil) ?_
  refine slTo (fun a ha => by injection ha with ha; subst ha; rfl) (by omega) hc ?_
  refine czs (v := Qe (qR (ps.take k))) (fun w' hs => Zl (ps.take k) _ w' (by rw [List.length_take]; omega) (RdS.take (hs.res (k := 0) rfl) k (by omega))) ?_
  refine slFrom (by omega) hc (fun a2 ha2 => ?_)
  refine czs (v := Qe (qR (ps.drop k))) (fun w' hs => Zl (ps.drop k) _ w' (by rw [List.length_drop]; omega) (RdS.drop (hs.res (k := 0) rfl) k (by omega) a2 ha2)) ?_
  refine co (fun w' _ => ZS (qR (ps.take k)) (qR (ps.drop k)) h1 h2' w') (fun q hq => ?_)
  refine ⟨.cons .nil, ?_⟩
  obtain ⟨qa, qc, hqv⟩ := zN hq
  rw [hqv]
  refine .mk _ _ (bss1 _ _ _) (fun bz => ?_)
  refine ⟨.cons .nil, ?_⟩
  have hT1 : (qB (qR (ps.take k)) (qR (ps.drop k))).length = 65 := zr _ _ h1 h2'
  generalize qB (qR (ps.take k)) (qR (ps.drop k)) = T at *
  have hzl : z.length ≤ 1048576 := by rw [← hz, List.length_append]; omega
  refine qcv (next' := fun v L' => ∃ r2, Rw 1 (z.length + 1) r2 (qK z ++ [.slice qa 65 qc]) ∧ v = sv r2 (z.length + 1) ∧ L' = [rs (rdS (some ⟨b, o, none⟩) c ps), se r2 (qK z ++ [.slice qa 65 qc]) TBy, rs (qw (Qq z)), se y.r (qK y.l) TBy, dead, se q (Lib.byteCells T) 5, cl bz #[.slice qa 65 qc] TBy])
   (ap1 1 6 qd rfl Ze rfl rfl hxy.row rfl rfl (by omega) (by unfold maxLen; omega) (fun r' hr' => ⟨r', hr', rfl, rfl⟩)) ?_
  rintro w3 v3 L3 hs3 ⟨r2, hr2, rfl, rfl⟩
  refine ⟨_, qcZ hs3 (k := 2) (j := 5) rfl rfl (by decide), ?_⟩
  refine ⟨.cons .nil, ?_⟩
  refine ⟨.cons .nil, ?_⟩
  have hq' : Rw 1 T.length q (Lib.byteCells T) := by rw [hT1]; exact hq
  have hE : Qq (z ++ [(q, T)]) = Qq z ++ [se q (Lib.byteCells T) 5] := Zm _ _
  have hV : qK (z ++ [(q, T)]) = qK z ++ [.slice qa 65 qc] := by rw [Q5, ← hqv, ← hT1]; rfl
  refine ⟨fun w1 hs1 => ⟨⟨r2, z ++ [(q, T)]⟩, hxy.snoc hq' r2 (by rw [hT1, hqv]; exact hr2), by rw [List.length_append]; rfl, ?_⟩⟩
  unfold Cp.es
  simp only [hE, hV]
  exact hs1.sub (.drop (.cons (.cons .nil)))
end
section
open Go.RowKit Go.Sx
theorem rneeds_f (f : Nat) : ∀ (m n : Nat) (b : Bool) (w : World), n < f → 1 ≤ m → m ≤ n → n ≤ 1048576 →
 Calls Tryz.prog 36 ([.int .i64 m, .int .i64 n, .bool b] : List Value).toArray w fun e w' => e = .returned (.int .i64 (((qU m n).1.length + (if b && (qU m n).2 then 0 else 1) : Nat) : Int)) ∧ Below w.heap.size w w' := by
 induction f with
 | zero => intro m n b w h0; exact absurd h0 (Nat.not_lt_zero _)
 | succ f ih =>
  intro m n b w h0 hm hmn hn
  refine ql qd Tryz.func36 rfl Tryz.ntmps36 rfl (St.start w) ?_
  refine cq (fun h => ?_) (fun h => ?_)
  · rw [qcR m n hm (by omega)]
    cases b with
    | true => refine ct rfl ?_; exact rt rfl
    | false => refine cf rfl ?_; exact rt rfl
  have hlt : m < n := by omega
  obtain ⟨c1, c2, c3⟩ := zF n (by omega) hn
  refine cv (fun w' => qbu n hn w') ?_
  have hTl := qbn n m n
  change (qU m n).1.length ≤ n at hTl
  refine cd (fun h1 => ?_) (fun h1 => ?_)
  · have e := ZQ m n hm hn hlt (by omega)
    refine cv (fun w' => ih m (qx n) b w' (by omega) hm (by omega) (by omega)) ?_
    rw [e] at hTl ⊢
    simp only [List.length_cons] at hTl ⊢
    refine .as (((qU m (qx n)).1.length + 1 + (if b && (qU m (qx n)).2 then 0 else 1) : Nat) : Int) (by omega) (by simp only [mn]; omega) (by simp only [mx]; split <;> omega) ?_
    exact rt rfl
  · have e := Zk m n hm hn hlt (by omega)
    generalize hk : qx n = k at *
    refine .as ((m - k : Nat) : Int) (by omega) (by simp only [mn]; omega) (by simp only [mx]; omega) ?_
    refine .as ((n - k : Nat) : Int) (by omega) (by simp only [mn]; omega) (by simp only [mx]; omega) ?_
    refine cv (fun w' => ih (m - k) (n - k) false w' (by omega) (by omega) (by omega) (by omega)) ?_
    rw [e] at hTl ⊢
    simp only [List.length_cons] at hTl ⊢
    refine .as (((qU (m - k) (n - k)).1.length + 1 + 1 : Nat) : Int) (by simp; omega) (by simp only [mn]; omega) (by simp only [mx]; omega) ?_
    refine rt ?_
    simp
    rfl
theorem rneeds_any (m n : Nat) (b : Bool) (w : World) (hm : 1 ≤ m) (hmn : m ≤ n) (hn : n ≤ 1048576) :
 Calls Tryz.prog 36 ([.int .i64 m, .int .i64 n, .bool b] : List Value).toArray w fun e w' => e = .returned (.int .i64 (((qU m n).1.length + (if b && (qU m n).2 then 0 else 1) : Nat) : Int)) ∧ Below w.heap.size w w' := rneeds_f _ m n b w (Nat.lt_succ_self _) hm hmn hn
def qW (x : Bs) : List Bool → List Bs → Bs × Bs × List Bs
 | [], _ => (x, x, [])
 | true :: T, ps => let r := qW x T ps.dropLast; (r.1, Qh r.2.1 (ps.getLastD []), r.2.2 ++ [qB r.2.1 (ps.getLastD [])])
 | false :: T, ps => let r := qW x T ps.dropLast; (Qh (ps.getLastD []) r.1, Qh (ps.getLastD []) r.2.1, r.2.2 ++ [qB (ps.getLastD []) r.1, qB (ps.getLastD []) r.2.1])
theorem Z9 (x : Bs) (hx : x.length = 32) : ∀ (T : List Bool) (ps : List Bs), T.length ≤ ps.length → (∀ p ∈ ps, p.length = 32) → (qW x T ps).1.length = 32 ∧ (qW x T ps).2.1.length = 32 ∧ (qW x T ps).2.2.length ≤ 2 * T.length ∧ ∀ t ∈ (qW x T ps).2.2, t.length = 65
 | [], ps, _, _ => ⟨hx, hx, Nat.zero_le _, fun t ht => by cases ht⟩
 | t :: T, ps, hT, h32 => by
  have hne : ps ≠ [] := fun e => by subst e; simp at hT
  obtain ⟨a, b, c, d⟩ := Z9 x hx T ps.dropLast (by rw [List.length_dropLast]; simp at hT; omega) (fun p hp => h32 p ((List.dropLast_sublist ps).subset hp))
  have hl : (ps.getLastD []).length = 32 := by rw [List.getLastD_eq_getLast?, List.getLast?_eq_some_getLast hne]; exact h32 _ (List.getLast_mem hne)
  cases t with
  | true =>
   refine ⟨a, qS _, ?_, fun t ht => ?_⟩
   · show (_ ++ [_]).length ≤ _
     simp only [List.length_append, List.length_cons, List.length_nil]; omega
   · rcases List.mem_append.1 ht with ht | ht
     · exact d t ht
     · obtain rfl := List.mem_singleton.1 ht; exact zr _ _ b hl
  | false =>
   refine ⟨qS _, qS _, ?_, fun t ht => ?_⟩
   · show (_ ++ [_, _]).length ≤ _
     simp only [List.length_append, List.length_cons, List.length_nil]; omega
   · rcases List.mem_append.1 ht with ht | ht
     · exact d t ht
     · rcases List.mem_cons.1 ht with rfl | ht
       · exact zr _ _ hl a
       · obtain rfl := List.mem_singleton.1 ht; exact zr _ _ hl b
def bothV (x : Bs × Bs × List Bs) (y : Cp) : Value := .tuple #[Qe x.1, Qe x.2.1, sv y.r y.l.length]
theorem ap2 {C : Cx} {L : List Ent} (k kn : Nat) (hT : TabOk C.P C.T) {t ty e by' bn : Nat} {zv v v2 : Value} {cs : Array Bool} {r : Sx.Own} {xs : List Value} {n : Nat} {next : Value → List Ent → Prop}
 (ht : Sx.look C.T.rows t fun y _ => y = .sl e 1) (hi : (C.P.info? e).map (fun i => (i.zero, i.size, i.bytes)) = some (some zv, 1, by')) (hz : zv.cells.size = 1)
 (hk : L[k]? = some (se r xs e)) (hR : Rw 1 n r xs) (hkn : L[kn]? = some (cl bn #[v, v2] e)) (h1 : ∀ u ∈ [v, v2], u.oneCell' = true) (hby : (n + 2 + (n + 2) / 4 + 192) * by' ≤ 281474976710656) (h63 : n + 2 ≤ maxLen)
 (go : ∀ r', Rw 1 (n + 2) r' (xs ++ [v, v2]) → next (sv r' (n + 2)) (L.set k (se r' (xs ++ [v, v2]) e))) : BiP C .append #[t, t] ty cs [sv r n, .slice (some ⟨bn, 0, none⟩) 2 2] L next :=
 ap (news := [v, v2]) (m := 2) k hT ht hi hz hk hR (srcE ht hT (src kn hkn rfl) rfl h1) hby h63 go
theorem CpT.snoc2 {ts : List Bs} {x : Cp} {q q2 : Sx.Own} {t t2 : Bs} (h : CpT ts x) (hq : Rw 1 t.length q (Lib.byteCells t)) (hq2 : Rw 1 t2.length q2 (Lib.byteCells t2)) (r : Sx.Own) (hr : Rw 1 (x.l.length + 2) r (qK x.l ++ [sv q t.length, sv q2 t2.length])) : CpT (ts ++ [t, t2]) ⟨r, x.l ++ [(q, t), (q2, t2)]⟩ :=
 ⟨by rw [List.map_append, h.m]; rfl, fun z hz => (List.mem_append.1 hz).elim (h.ok z) (fun hz => by
  rcases List.mem_cons.1 hz with rfl | hz
  · exact hq
  · obtain rfl := List.mem_singleton.1 hz; exact hq2), by rw [List.length_append, Q5]; exact hr⟩
theorem head_dl {ps : List Bs} (h : 2 ≤ ps.length) : ps.dropLast.head? = ps.head? := by
 match ps, h with
 | a :: b :: l, _ => rfl
theorem rboth_f (f : Nat) : ∀ (m n : Nat) (b : Bool) (old x : Bs) (ps : List Bs) (v : Value) (w : World), n < f → 1 ≤ m → m ≤ n → n ≤ 1048576 → old.length = 32 →
 ps.length = (qU m n).1.length + (if b && (qU m n).2 then 0 else 1) → (if b && (qU m n).2 then x = old else ps.head? = some x) → RdS w v ps →
 Calls Tryz.prog 37 ([.int .i64 m, .int .i64 n, .bool b, Qe old, v] : List Value).toArray w fun e w' => ∃ y : Cp, CpT (qW x (qU m n).1 ps).2.2 y ∧ e = .returned (bothV (qW x (qU m n).1 ps) y) ∧ St [] w w' y.es := by
 induction f with
 | zero => intro m n b old x ps v w h0; exact absurd h0 (Nat.not_lt_zero _)
 | succ f ih =>
  intro m n b old x ps v w h0 hm hmn hn ho hpl hx hrd
  have hrd0 := hrd
  obtain ⟨h32, a, c, hv, hc, had⟩ := hrd0
  subst hv
  have hzo := qF old ho
  refine (enter qd Tryz.func37 rfl Tryz.ntmps37 rfl (St.rdS hrd) (R := fun v w' => ∃ y : Cp, CpT (qW x (qU m n).1 ps).2.2 y ∧ v = bothV (qW x (qU m n).1 ps) y ∧ St [] w w' y.es) ?_).mono (fun e w' ⟨v, he, y, h1, h2, h3⟩ => ⟨y, h1, by rw [he, h2], h3⟩)
  intro b8 b10 b11
  refine cq (fun h => ?_) (fun h => ?_)
  · have e := qcR m n hm (by omega)
    rw [e] at hpl hx ⊢
    cases b with
    | true =>
     refine ct rfl ?_
     obtain rfl : x = old := hx
     refine dr [rs (rdS a c ps), cl b8 (Lib.byteCells x).toArray 39] 99 (.t 0 (.t 1 (.n 2 (.n 3 (.n 4 .nil))))) qd qf (by kernel_rfl) (.cons (.cons .nil)) ?_
     refine ldN 1 rfl hzo ?_
     refine ldN 1 rfl hzo ?_
     refine sN 2 rfl (hzo.trans (by kernel_rfl)) (qv _) ?_ (by rw [hzo]; kernel_rfl)
     refine ⟨.cons (.cons .nil), ?_⟩
     refine sN 3 rfl (hzo.trans (by kernel_rfl)) (qv _) ?_ (by rw [hzo]; kernel_rfl)
     refine ⟨.cons (.cons .nil), ?_⟩
     refine ⟨.cons (.cons .nil), ?_⟩
     refine ldN 2 rfl hzo ?_
     refine ldN 3 rfl hzo ?_
     exact ⟨fun w1 hs => ⟨⟨none, []⟩, cpT_nil, rfl, cp_st0 hs⟩⟩
    | false =>
     refine cf rfl ?_
     obtain ⟨p, hp⟩ : ∃ p, ps = [p] := List.length_eq_one_iff.1 hpl
     obtain rfl : p = x := by rw [hp] at hx; exact Option.some.inj hx
     obtain ⟨b, o, rfl, hb, hat⟩ := had (by rw [hp]; simp)
     have hz := qF p (h32 p (by rw [hp]; simp))
     have hgo : ∀ w1 : World, RdS w1 (.slice (some ⟨b, o, none⟩) ps.length c) ps → w1.rangeAt b (nad o (nmu (Int.toNat 0) 32)) (Lib.byteCells p) := fun w1 h1 => by rw [qk, qj]; exact RdS.at h1 0 p (by rw [hp]; rfl)
     refine dr [rs (rdS (some ⟨b, o, none⟩) c ps)] 99 (.t 0 (.t 1 (.t 2 (.t 3 (.t 4 (.t 5 (.n 6 (.n 7 (.n 8 .nil))))))))) qd qf (by kernel_rfl) (.cons .nil) ?_
     refine ⟨by decide, by rw [hp]; simp, ?_⟩
     refine .mk (Lib.byteCells p).toArray hz (fun w1 hs => hgo w1 (hs.res (k := 0) rfl)) ?_
     refine ⟨by decide, by rw [hp]; simp, ?_⟩
     refine .mk (Lib.byteCells p).toArray hz (fun w1 hs => hgo w1 (hs.res (k := 0) rfl)) ?_
     refine sN 2 rfl (hz.trans (by kernel_rfl)) (qv _) ?_ (by rw [hz]; kernel_rfl)
     refine ⟨.cons .nil, ?_⟩
     refine sN 3 rfl (hz.trans (by kernel_rfl)) (qv _) ?_ (by rw [hz]; kernel_rfl)
     refine ⟨.cons .nil, ?_⟩
     refine ⟨.cons .nil, ?_⟩
     refine ldN 2 rfl hz ?_
     refine ldN 3 rfl hz ?_
     exact ⟨fun w1 hs => ⟨⟨none, []⟩, cpT_nil, rfl, cp_st0 hs⟩⟩
  have hlt : m < n := by omega
  obtain ⟨c1, c2, c3⟩ := zF n (by omega) hn
  refine cv (fun w' => qbu n hn w') ?_
  have hT1 : 1 ≤ (qU m n).1.length := by
   by_cases h1 : m ≤ qx n
   · rw [ZQ m n hm hn hlt h1]; simp
   · rw [Zk m n hm hn hlt h1]; simp
  have hne : ps ≠ [] := fun e => by subst e; simp at hpl; omega
  obtain ⟨ba, o, rfl, hb, hat⟩ := had hne
  have hq : ps[ps.length - 1]? = some (ps.getLastD []) := by rw [List.getLastD_eq_getLast?, List.getLast?_eq_some_getLast hne, List.getLast_eq_getElem]; simp
  have hdl : ps.dropLast = ps.take (ps.length - 1) := List.dropLast_eq_take
  generalize hL : ps.getLastD [] = q at *
  have hql : q.length = 32 := h32 q (List.mem_of_getElem? hq)
  have hzq := qF q hql
  have hTl := qbn n m n
  change (qU m n).1.length ≤ n at hTl
  refine .as ((ps.length - 1 : Nat) : Int) (by omega) (by simp only [mn]; omega) (by simp only [mx]; split at hpl <;> omega) ?_
  refine ⟨by omega, by omega, ?_⟩
  refine .mk (Lib.byteCells q).toArray hzq (fun w1 hs => by rw [qk, qj, Int.toNat_natCast, Nat.mul_comm]; exact RdS.at (hs.res (k := 0) rfl) _ q hq) ?_
  intro b14
  refine sN 4 rfl (hzq.trans (by kernel_rfl)) (qv _) ?_ (by rw [hzq]; kernel_rfl)
  refine .as ((ps.length - 1 : Nat) : Int) (by omega) (by simp only [mn]; omega) (by simp only [mx]; split at hpl <;> omega) ?_
  refine slTo (fun a ha => by injection ha with ha; subst ha; rfl) (by omega) hc ?_
  have hrd1 : ∀ w1 : World, RdS w1 (.slice (some ⟨ba, o, none⟩) ps.length c) ps → RdS w1 (.slice (some ⟨ba, o, none⟩) (ps.length - 1) c) ps.dropLast := fun w1 h1 => by rw [hdl]; exact RdS.take h1 _ (by omega)
  refine cd (fun h1 => ?_) (fun h1 => ?_)
  · have e := ZQ m n hm hn hlt (by omega)
    rw [e] at hpl hx hTl ⊢
    generalize hk : qx n = k at *
    simp only [List.length_cons] at hpl hTl
    generalize hTT : qU m k = TT at *
    have eB : qW x (true :: TT.1) ps = ((qW x TT.1 ps.dropLast).1, Qh (qW x TT.1 ps.dropLast).2.1 q, (qW x TT.1 ps.dropLast).2.2 ++ [qB (qW x TT.1 ps.dropLast).2.1 q]) := by rw [qW, hL]
    rw [eB]
    have hxl : x.length = 32 := by
     split at hx
     · rw [hx]; exact ho
     · exact h32 x (List.mem_of_mem_head? hx)
    obtain ⟨l1, l2, l3, l4⟩ := Z9 x hxl TT.1 ps.dropLast (by rw [List.length_dropLast]; omega) (fun p hp => h32 p ((List.dropLast_sublist ps).subset hp))
    have hx1 : if b && TT.2 then x = old else ps.dropLast.head? = some x := by
     split at hx
     · rename_i h2; rw [if_pos h2]; exact hx
     · rename_i h2; rw [if_neg h2, head_dl (by rw [hpl, if_neg h2]; omega)]; exact hx
    refine ldN 1 rfl hzo ?_
    refine cMs (fun w' hs => ih m k b old x ps.dropLast _ w' (by omega) hm (by omega) (by omega) ho (by rw [hTT, List.length_dropLast]; omega) (by rw [hTT]; exact hx1) (hrd1 w' (hs.res (k := 0) rfl))) (fun x _ => Cp.A) (fun y hy => ?_)
    rw [hTT] at hy ⊢
    generalize qW x TT.1 ps.dropLast = R at *
    obtain ⟨was, now, tx⟩ := R
    simp only at l1 l2 l3 l4 hy ⊢
    have z1 := qF was l1
    have z2 := qF now l2
    intro b16 b17
    refine sN 7 rfl (z1.trans (by kernel_rfl)) (qv _) ?_ (by rw [z1]; kernel_rfl)
    refine sN 8 rfl (z2.trans (by kernel_rfl)) (qv _) ?_ (by rw [z2]; kernel_rfl)
    refine dr [dead, dead, dead, dead, cl b14 (Lib.byteCells q).toArray 39, dead, dead, cl b16 (Lib.byteCells was).toArray 39, cl b17 (Lib.byteCells now).toArray 39] 99 (.t 0 (.t 1 (.t 2 (.t 3 (.t 4 (.t 5 (.t 6 (.n 7 (.n 8 (.n 9 (.n 10 (.n 11 (.n 12 .nil))))))))))))) qd qf (by kernel_rfl) (.dead (.dead (.dead (.dead (.cons (.dead (.dead (.cons (.cons .nil))))))))) ?_
    refine ldN 7 rfl z1 ?_
    refine ldN 8 rfl z2 ?_
    refine ldN 4 rfl hzq ?_
    refine cz (fun w' => qaO now q l2 hql w') ?_
    refine ldN 8 rfl z2 ?_
    refine ldN 4 rfl hzq ?_
    refine co (fun w' _ => ZS now q l2 hql w') (fun u hu => ?_)
    refine ⟨.dead (.dead (.dead (.dead (.cons (.dead (.dead (.cons (.cons .nil)))))))), ?_⟩
    obtain ⟨qa, qc, hqv⟩ := zN hu
    rw [hqv]
    refine .mk _ _ (bss1 _ _ _) (fun bz => ?_)
    refine ⟨.dead (.dead (.dead (.dead (.cons (.dead (.dead (.cons (.cons .nil)))))))), ?_⟩
    have hyl := hy.len
    have hT1 : (qB now q).length = 65 := zr _ _ l2 hql
    refine qcv (next' := fun v L' => ∃ r2, Rw 1 (y.l.length + 1) r2 (qK y.l ++ [.slice qa 65 qc]) ∧ v = sv r2 (y.l.length + 1) ∧ L' = [rs (rdS (some ⟨ba, o, none⟩) c ps), cl b8 (Lib.byteCells old).toArray 39, cl b10 _ 39, cl b11 _ 39, cl b14 (Lib.byteCells q).toArray 39, se r2 (qK y.l ++ [.slice qa 65 qc]) TBy, rs (qw (Qq y.l)), cl b16 (Lib.byteCells was).toArray 39, cl b17 (Lib.byteCells now).toArray 39, se u (Lib.byteCells (qB now q)) 5, cl bz #[.slice qa 65 qc] TBy])
     (ap1 5 10 qd rfl Ze rfl rfl hy.row rfl rfl (by omega) (by unfold maxLen; omega) (fun r' hr' => ⟨r', hr', rfl, rfl⟩)) ?_
    rintro w3 v3 L3 hs3 ⟨r2, hr2, rfl, rfl⟩
    refine ⟨_, qcZ hs3 (k := 6) (j := 9) rfl rfl (by decide), ?_⟩
    refine ⟨.dead (.dead (.dead (.dead (.cons (.dead (.dead (.cons (.cons .nil)))))))), ?_⟩
    refine sN 2 rfl (z1.trans (by kernel_rfl)) (qv _) ?_ (by rw [z1]; kernel_rfl)
    refine ⟨.dead (.dead (.dead (.dead (.cons (.dead (.dead (.cons (.cons .nil)))))))), ?_⟩
    have z3 := qF (Qh now q) (qS _)
    refine sN 3 rfl (z3.trans (by kernel_rfl)) (qv _) ?_ (by rw [z3]; kernel_rfl)
    refine ⟨.dead (.dead (.dead (.dead (.cons (.dead (.dead (.cons (.cons .nil)))))))), ?_⟩
    refine ⟨.dead (.dead (.dead (.dead (.cons (.dead (.dead (.cons (.cons .nil)))))))), ?_⟩
    refine ldN 2 rfl z1 ?_
    refine ldN 3 rfl z3 ?_
    have hu' : Rw 1 (qB now q).length u (Lib.byteCells (qB now q)) := by rw [hT1]; exact hu
    have hE : Qq (y.l ++ [(u, qB now q)]) = Qq y.l ++ [se u (Lib.byteCells (qB now q)) 5] := Zm _ _
    have hV : qK (y.l ++ [(u, qB now q)]) = qK y.l ++ [.slice qa 65 qc] := by rw [Q5, ← hqv, ← hT1]; rfl
    refine ⟨fun w1 hs1 => ⟨⟨r2, y.l ++ [(u, qB now q)]⟩, hy.snoc hu' r2 (by rw [hT1, hqv]; exact hr2), by unfold bothV; rw [List.length_append]; rfl, ?_⟩⟩
    unfold Cp.es
    simp only [hE, hV]
    exact hs1.sub (.drop (.drop (.drop (.drop (.drop (.cons (.cons .nil)))))))
  · have e := Zk m n hm hn hlt (by omega)
    rw [e] at hpl hx hTl ⊢
    rw [if_neg (by simp)] at hpl hx
    generalize hk : qx n = k at *
    simp only [List.length_cons] at hpl hTl
    generalize hTT : qU (m - k) (n - k) = TT at *
    have eB : qW x (false :: TT.1) ps = (Qh q (qW x TT.1 ps.dropLast).1, Qh q (qW x TT.1 ps.dropLast).2.1, (qW x TT.1 ps.dropLast).2.2 ++ [qB q (qW x TT.1 ps.dropLast).1, qB q (qW x TT.1 ps.dropLast).2.1]) := by rw [qW, hL]
    rw [eB]
    have hxl : x.length = 32 := h32 x (List.mem_of_mem_head? hx)
    obtain ⟨l1, l2, l3, l4⟩ := Z9 x hxl TT.1 ps.dropLast (by rw [List.length_dropLast]; omega) (fun p hp => h32 p ((List.dropLast_sublist ps).subset hp))
    have hx1 : if false && TT.2 then x = old else ps.dropLast.head? = some x := by
     rw [if_neg (by simp), head_dl (by omega)]; exact hx
    refine .as ((m - k : Nat) : Int) (by omega) (by simp only [mn]; omega) (by simp only [mx]; omega) ?_
    refine .as ((n - k : Nat) : Int) (by omega) (by simp only [mn]; omega) (by simp only [mx]; omega) ?_
    refine ldN 1 rfl hzo ?_
    refine cMs (fun w' hs => ih (m - k) (n - k) false old x ps.dropLast _ w' (by omega) (by omega) (by omega) (by omega) ho (by rw [hTT, List.length_dropLast, if_neg (by simp)]; omega) (by rw [hTT]; exact hx1) (hrd1 w' (hs.res (k := 0) rfl))) (fun x _ => Cp.A) (fun y hy => ?_)
    rw [hTT] at hy ⊢
    generalize qW x TT.1 ps.dropLast = R at *
    obtain ⟨was, now, tx⟩ := R
    simp only at l1 l2 l3 l4 hy ⊢
    have z1 := qF was l1
    have z2 := qF now l2
    intro b19 b20
    refine sN 7 rfl (z1.trans (by kernel_rfl)) (qv _) ?_ (by rw [z1]; kernel_rfl)
    refine sN 8 rfl (z2.trans (by kernel_rfl)) (qv _) ?_ (by rw [z2]; kernel_rfl)
    refine dr [dead, dead, dead, dead, cl b14 (Lib.byteCells q).toArray 39, dead, dead, cl b19 (Lib.byteCells was).toArray 39, cl b20 (Lib.byteCells now).toArray 39] 99 (.t 0 (.t 1 (.t 2 (.t 4 (.t 5 (.n 3 (.n 6 (.n 7 (.n 8 (.n 9 .nil)))))))))) qd qf (by kernel_rfl) (.dead (.dead (.dead (.dead (.cons (.dead (.dead (.cons (.cons .nil))))))))) ?_
    refine ldN 4 rfl hzq ?_
    refine ldN 7 rfl z1 ?_
    refine ldN 4 rfl hzq ?_
    refine ldN 8 rfl z2 ?_
    refine co (fun w' _ => ZS q was hql l1 w') (fun u hu => ?_)
    refine ⟨.dead (.dead (.dead (.dead (.cons (.dead (.dead (.cons (.cons .nil)))))))), ?_⟩
    refine co (fun w' _ => ZS q now hql l2 w') (fun u2 hu2 => ?_)
    refine ⟨.dead (.dead (.dead (.dead (.cons (.dead (.dead (.cons (.cons .nil)))))))), ?_⟩
    obtain ⟨qa, qc, hqv⟩ := zN hu
    obtain ⟨qa2, qc2, hqv2⟩ := zN hu2
    rw [hqv, hqv2]
    refine .mk _ _ (bss2 _ _ _ _ _ _) (fun bz => ?_)
    refine ⟨.dead (.dead (.dead (.dead (.cons (.dead (.dead (.cons (.cons .nil)))))))), ?_⟩
    have hyl := hy.len
    have hT1 : (qB q was).length = 65 := zr _ _ hql l1
    have hT2 : (qB q now).length = 65 := zr _ _ hql l2
    refine qcv (next' := fun v L' => ∃ r2, Rw 1 (y.l.length + 2) r2 (qK y.l ++ [.slice qa 65 qc, .slice qa2 65 qc2]) ∧ v = sv r2 (y.l.length + 2) ∧ L' = [rs (rdS (some ⟨ba, o, none⟩) c ps), cl b8 (Lib.byteCells old).toArray 39, cl b10 _ 39, cl b11 _ 39, cl b14 (Lib.byteCells q).toArray 39, se r2 (qK y.l ++ [.slice qa 65 qc, .slice qa2 65 qc2]) TBy, rs (qw (Qq y.l)), cl b19 (Lib.byteCells was).toArray 39, cl b20 (Lib.byteCells now).toArray 39, se u (Lib.byteCells (qB q was)) 5, se u2 (Lib.byteCells (qB q now)) 5, cl bz #[.slice qa 65 qc, .slice qa2 65 qc2] TBy])
     (ap2 5 11 qd rfl Ze rfl rfl hy.row rfl (by simp [Value.oneCell']) (by omega) (by unfold maxLen; omega) (fun r' hr' => ⟨r', hr', rfl, rfl⟩)) ?_
    rintro w3 v3 L3 hs3 ⟨r2, hr2, rfl, rfl⟩
    refine ⟨_, qcZ (qcZ hs3 (k := 6) (j := 9) rfl rfl (by decide)) (k := 6) (j := 10) rfl rfl (by decide), ?_⟩
    refine ⟨.dead (.dead (.dead (.dead (.cons (.dead (.dead (.cons (.cons .nil)))))))), ?_⟩
    refine ⟨.dead (.dead (.dead (.dead (.cons (.dead (.dead (.cons (.cons .nil)))))))), ?_⟩
    refine dr [dead, dead, dead, dead, cl b14 (Lib.byteCells q).toArray 39, dead, dead, cl b19 (Lib.byteCells was).toArray 39, cl b20 (Lib.byteCells now).toArray 39] 99 (.t 0 (.t 1 (.t 2 (.t 3 (.t 4 (.t 5 (.t 6 (.n 7 (.n 8 (.n 9 .nil)))))))))) qd qf (by kernel_rfl) (.dead (.dead (.dead (.dead (.cons (.dead (.dead (.cons (.cons .nil))))))))) ?_
    refine ldN 4 rfl hzq ?_
    refine ldN 7 rfl z1 ?_
    refine cz (fun w' => qaO q was hql l1 w') ?_
    refine ldN 4 rfl hzq ?_
    refine ldN 8 rfl z2 ?_
    refine cz (fun w' => qaO q now hql l2 w') ?_
    have z3 := qF (Qh q was) (qS _)
    have z4 := qF (Qh q now) (qS _)
    refine sN 2 rfl (z3.trans (by kernel_rfl)) (qv _) ?_ (by rw [z3]; kernel_rfl)
    refine ⟨.dead (.dead (.dead (.dead (.cons (.dead (.dead (.cons (.cons .nil)))))))), ?_⟩
    refine sN 3 rfl (z4.trans (by kernel_rfl)) (qv _) ?_ (by rw [z4]; kernel_rfl)
    refine ⟨.dead (.dead (.dead (.dead (.cons (.dead (.dead (.cons (.cons .nil)))))))), ?_⟩
    refine ⟨.dead (.dead (.dead (.dead (.cons (.dead (.dead (.cons (.cons .nil)))))))), ?_⟩
    refine ldN 2 rfl z3 ?_
    refine ldN 3 rfl z4 ?_
    have hu' : Rw 1 (qB q was).length u (Lib.byteCells (qB q was)) := by rw [hT1]; exact hu
    have hu2' : Rw 1 (qB q now).length u2 (Lib.byteCells (qB q now)) := by rw [hT2]; exact hu2
    have hE : Qq (y.l ++ [(u, qB q was), (u2, qB q now)]) = Qq y.l ++ [se u (Lib.byteCells (qB q was)) 5] ++ [se u2 (Lib.byteCells (qB q now)) 5] := by rw [Zm, List.append_assoc]; rfl
    have hV : qK (y.l ++ [(u, qB q was), (u2, qB q now)]) = qK y.l ++ [.slice qa 65 qc, .slice qa2 65 qc2] := by rw [Q5, ← hqv, ← hqv2]; show _ ++ [sv u (qB q was).length, sv u2 (qB q now).length] = _; rw [hT1, hT2]
    refine ⟨fun w1 hs1 => ⟨⟨r2, y.l ++ [(u, qB q was), (u2, qB q now)]⟩, hy.snoc2 hu' hu2' r2 (by rw [hT1, hT2, hqv, hqv2]; exact hr2), by unfold bothV; rw [List.length_append]; rfl, ?_⟩⟩
    unfold Cp.es
    simp only [hE, hV]
    exact hs1.sub (.drop (.drop (.drop (.drop (.drop (.cons (.cons .nil)))))))
end
section
open Go.RowKit Go.Sx
theorem qeF (t : Bool) (q : Bs) : ∀ (T : List Bool) (rs : List Bs) (x : Bs × Bs), rs.length = T.length → qap (T ++ [t]) (rs ++ [q]) x = (if t then ((qap T rs x).1, Qh (qap T rs x).2 q) else (Qh q (qap T rs x).1, Qh q (qap T rs x).2))
 | [], [], x, _ => by cases t <;> rfl
 | s :: T, r :: rs, x, h => by
  show qap (T ++ [t]) (rs ++ [q]) _ = _
  rw [qeF t q T rs _ (by simpa using h)]; rfl
 | [], _ :: _, _, h => by simp at h
 | _ :: _, [], _, h => by simp at h
theorem qeG (x : Bs) : ∀ (T : List Bool) (pre rs : List Bs), rs.length = T.length → qap T.reverse rs (x, x) = ((qW x T (pre ++ rs)).1, (qW x T (pre ++ rs)).2.1)
 | [], pre, rs, h => by
  obtain rfl : rs = [] := List.length_eq_zero_iff.1 h
  rfl
 | t :: T, pre, rs, h => by
  have hne : rs ≠ [] := fun e => by subst e; simp at h
  obtain ⟨rs', q, rfl⟩ : ∃ a b, rs = a ++ [b] := ⟨rs.dropLast, rs.getLast hne, (List.dropLast_concat_getLast hne).symm⟩
  have hl : rs'.length = T.length := by simpa using h
  have e1 : (pre ++ (rs' ++ [q])).dropLast = pre ++ rs' := by rw [← List.append_assoc, List.dropLast_concat]
  have e2 : (pre ++ (rs' ++ [q])).getLastD [] = q := by rw [← List.append_assoc, List.getLastD_concat]
  rw [List.reverse_cons, qeF t q T.reverse rs' (x, x) (by simpa using hl), qeG x T pre rs' hl]
  cases t <;> rw [qW, e1, e2] <;> rfl
theorem ext_both (m n : Nat) (hm : 1 ≤ m) (hmn : m ≤ n) (hn : n ≤ 1048576) (old new : Bs) (ps : List Bs) (h : extB m n old new ps = true) :
 ps.length = (qU m n).1.length + (if (qU m n).2 then 0 else 1) ∧ ∃ x, (if (qU m n).2 then x = old else ps.head? = some x) ∧ (qW x (qU m n).1 ps).1 = old ∧ (qW x (qU m n).1 ps).2.1 = new := by
 unfold extB at h
 rw [if_neg (by omega), Int.toNat_natCast, Int.toNat_natCast] at h
 have key : ∀ (x : Bs) (pre rs : List Bs), ps = pre ++ rs → extE (qU m n).1 old new x rs = true → rs.length = (qU m n).1.length ∧ (qW x (qU m n).1 ps).1 = old ∧ (qW x (qU m n).1 ps).2.1 = new := by
  intro x pre rs he hx
  unfold extE at hx
  split at hx
  · rename_i hl
    rw [qeG x _ pre rs hl, ← he] at hx
    simp only [Bool.and_eq_true, decide_eq_true_eq] at hx
    exact ⟨hl, hx.1, hx.2⟩
  · cases hx
 cases hA : (qU m n).2 with
 | true =>
  rw [hA, if_pos rfl] at h
  obtain ⟨a, b, c⟩ := key old [] ps rfl h
  exact ⟨by rw [a]; simp, old, by simp, b, c⟩
 | false =>
  rw [hA, if_neg (by decide)] at h
  match ps, h, key with
  | [], h, _ => cases h
  | p :: r, h, key =>
   obtain ⟨a, b, c⟩ := key p [p] r rfl h
   exact ⟨by simp [a], p, by simp, b, c⟩
def NoC (S : List Bs) : Prop := ∀ x ∈ S, ∀ y ∈ S, qcL x = qcL y → x = y
theorem NoC.sub {S T : List Bs} (h : NoC S) (hs : ∀ x ∈ T, x ∈ S) : NoC T := fun x hx y hy => h x (hs x hx) y (hs y hy)
theorem qey {a b c d : Bs} (h : qB a b = qB c d) (hl : a.length = c.length) : a = c ∧ b = d := by
 unfold qB at h
 injection h with _ h
 exact List.append_inj h hl
theorem cut_same (m n : Nat) (hn : n ≤ 1048576) (h1 : qx n < m) (h2 : m ≤ n) (h3 : 2 ≤ n) : qx m = qx n := by
 obtain ⟨c1, c2, c3⟩ := zF n h3 hn
 obtain ⟨j, hj⟩ : ∃ j, qx n = 2 ^ j := ⟨bl2 (n - 1) - 1, by unfold qx; rw [if_neg (by omega)]⟩
 rw [hj] at h1 c1 c2 c3 ⊢
 exact cut_uniq m j (by omega) (by omega) (by rw [Nat.pow_succ]; omega) (by omega)
theorem both_root (f : Nat) : ∀ (m n : Nat) (x : Bs) (ps ls : List Bs), n < f → 1 ≤ m → m ≤ n → n ≤ 1048576 → ls.length = n → (∀ p ∈ ls, p.length = 32) → x.length = 32 → (∀ p ∈ ps, p.length = 32) → (qU m n).1.length ≤ ps.length →
 NoC ((qW x (qU m n).1 ps).2.2 ++ zj f ls) → (qW x (qU m n).1 ps).2.1 = qR ls → (qW x (qU m n).1 ps).1 = qR (ls.take m) := by
 induction f with
 | zero => intro m n x ps ls h0; exact absurd h0 (Nat.not_lt_zero _)
 | succ f ih =>
  intro m n x ps ls h0 hm hmn hn hl h32 hx hp32 hT hC hR
  by_cases hlt : m < n
  case neg =>
   obtain rfl : m = n := by omega
   rw [qcR m m hm (Nat.le_refl _)] at hR ⊢
   rw [List.take_of_length_le (by omega)]
   exact hR
  obtain ⟨c1, c2, c3⟩ := zF n (by omega) hn
  have hne : ps ≠ [] := fun e => by
   subst e
   by_cases h1 : m ≤ qx n
   · rw [ZQ m n hm hn hlt h1] at hT; simp at hT
   · rw [Zk m n hm hn hlt h1] at hT; simp at hT
  have hql : (ps.getLastD []).length = 32 := by rw [List.getLastD_eq_getLast?, List.getLast?_eq_some_getLast hne]; exact hp32 _ (List.getLast_mem hne)
  generalize hL : ps.getLastD [] = q at *
  have hdl : ps.dropLast.length = ps.length - 1 := List.length_dropLast
  have hd32 : ∀ p ∈ ps.dropLast, p.length = 32 := fun p hp => hp32 p ((List.dropLast_sublist ps).subset hp)
  have hrc := qdo ls (by omega) (by omega)
  have htx : zj (f + 1) ls = zj f (ls.take (qx ls.length)) ++ zj f (ls.drop (qx ls.length)) ++ [qB (qR (ls.take (qx ls.length))) (qR (ls.drop (qx ls.length)))] := by rw [zj, if_neg (by omega)]
  rw [hl] at hrc htx
  rw [hrc] at hR
  rw [htx] at hC
  have t32 : ∀ p ∈ ls.take (qx n), p.length = 32 := fun p hp => h32 p (List.mem_of_mem_take hp)
  have d32 : ∀ p ∈ ls.drop (qx n), p.length = 32 := fun p hp => h32 p (List.mem_of_mem_drop hp)
  have r1 := Qw _ t32
  have r2 := Qw _ d32
  by_cases h1 : m ≤ qx n
  · rw [ZQ m n hm hn hlt h1] at hT hC hR ⊢
    have hT' : (qU m (qx n)).1.length ≤ ps.dropLast.length := by simp only [List.length_cons] at hT; omega
    obtain ⟨l1, l2, _, _⟩ := Z9 x hx _ ps.dropLast hT' hd32
    rw [qW, hL] at hC hR ⊢
    simp only at hC hR ⊢
    have e := hC (qB (qW x (qU m (qx n)).1 ps.dropLast).2.1 q) (by simp) (qB (qR (ls.take (qx n))) (qR (ls.drop (qx n)))) (by simp) hR
    obtain ⟨e1, _⟩ := qey e (by rw [l2, r1])
    have := ih m (qx n) x ps.dropLast (ls.take (qx n)) (by omega) hm h1 (by omega) (by rw [List.length_take]; omega) t32 hx hd32 hT' (hC.sub fun z hz => by
     rcases List.mem_append.1 hz with hz | hz
     · simp [hz]
     · simp [hz]) e1
    rw [this, List.take_take, Nat.min_eq_left h1]
  · rw [Zk m n hm hn hlt h1] at hT hC hR ⊢
    have hT' : (qU (m - qx n) (n - qx n)).1.length ≤ ps.dropLast.length := by simp only [List.length_cons] at hT; omega
    obtain ⟨l1, l2, _, _⟩ := Z9 x hx _ ps.dropLast hT' hd32
    rw [qW, hL] at hC hR ⊢
    simp only at hC hR ⊢
    have e := hC (qB q (qW x (qU (m - qx n) (n - qx n)).1 ps.dropLast).2.1) (by simp) (qB (qR (ls.take (qx n))) (qR (ls.drop (qx n)))) (by simp) hR
    obtain ⟨e1, e2⟩ := qey e (by rw [hql, r1])
    have := ih (m - qx n) (n - qx n) x ps.dropLast (ls.drop (qx n)) (by omega) (by omega) (by omega) (by omega) (by rw [List.length_drop]; omega) d32 hx hd32 hT' (hC.sub fun z hz => by
     rcases List.mem_append.1 hz with hz | hz
     · simp [hz]
     · simp [hz]) e2
    have hcm := cut_same m n hn (by omega) hmn (by omega)
    have hml : (ls.take m).length = m := by rw [List.length_take]; omega
    rw [this, e1, qdo (ls.take m) (by rw [hml]; omega) (by omega), hml, hcm, List.take_take, Nat.min_eq_left (by omega), List.drop_take]
end
section
open Go.RowKit Go.Sx
def qa5 (m : Int) (o : Bs) (n : Int) (r : Bs) (ps : List Bs) : Bool :=
 if m = 0 then decide (ps.length = 0) && (decide (0 < n) || decide (o = r)) else if m = n then decide (ps.length = 0) && decide (o = r) else extB m n o r ps
theorem grows_any (m : Int) (o : Bs) (n : Int) (r : Bs) (ho : o.length = 32) (hr : r.length = 32) (ps : List Bs) (a : Option Addr) (c : Nat) (w : World) (h : RdS w (.slice a ps.length c) ps) :
 Calls Tryz.prog 48 ([.int .i64 m, Qe o, .int .i64 n, Qe r, .slice a ps.length c] : List Value).toArray w fun e w' => e = .returned (.bool (qa5 m o n r ps)) ∧ Below w.heap.size w w' := by
 unfold qa5
 by_cases h0 : m = 0
 · subst h0
   rw [if_pos rfl]
   exact grows_zero n o r ho hr a ps.length c w
 rw [if_neg h0]
 by_cases h1 : m = n
 · subst h1
   rw [if_pos rfl]
   exact grows_eq m h0 o r ho hr a ps.length c w
 rw [if_neg h1]
 refine ql qd Tryz.func48 rfl Tryz.ntmps48 rfl (St.rdS h) ?_
 intro b6 b8
 refine cf (by simpa using h0) ?_
 refine cf (by simpa using h1) ?_
 refine ldN 1 rfl (qF o ho) ?_
 refine ldN 2 rfl (qF r hr) ?_
 refine cvs (fun w1 hs => extends_any m n o r ho hr ps a c w1 (hs.res (k := 0) rfl)) ?_
 exact rt rfl
end
end Go.Proofs.YtbgefoamhdgnaaaGreatDoor
section
namespace Go.Sx
open Go Go.RowKit
def noJ (K : Exit → Sy → Prop) : Exit → Sy → Prop := fun e s => match e with
 | .goto _ => False
 | e => K e s
theorem scp {C : Cx} (hT : TabOk C.P C.T) (hF : C.F = none) {c : Code} {K : Exit → Sy → Prop} {s : Sy} (h : cx C c (noJ K) s) : CodeP C (.scope c) K s := by
 refine ⟨fun n a w hf hs => ?_⟩
 have h1 := (ZJ hT c _ s h).go n a w hf hs
 have hw : C.fence = Fence.wide := by unfold Cx.fence; rw [hF]
 rw [hw] at h1 ⊢
 refine wpIn_wide.2 (wp_scope_straight ?_)
 refine Code.wp_mono ?_ (wpIn_wide.1 h1)
 intro e a' w' hq
 cases e <;> first | exact hq | (obtain ⟨_, _, _, hk⟩ := hq; exact hk.elim)
end Go.Sx
namespace Go.Proofs.YtbgefoamhdgnaaaGreatDoor
open Go.RowKit Go.Sx
theorem ibs_call (s : ByteArray) (c : Nat) (w : World) : (callFunc 266 #[.string s, .int .u8 (c : Int)]).run Tryz.prog w = .ok (.value (.int .i64 (firstIdx s c.toUInt8))) w := by
 rw [run_callFunc_extern Tryz.func266 (by kernel_rfl) (by kernel_rfl) (by kernel_rfl) (e := Extern.BytealgIndexByte.indexByte) (by kernel_rfl), run_indexByte_string]
 rfl
theorem ib_any (s : ByteArray) (c : UInt8) (w : World) : Calls Tryz.prog 204 ([.string s, .int .u8 c.toNat] : List Value).toArray w fun e w' => e = .returned (.int .i64 (firstIdx s c)) ∧ Below w.heap.size w w' := by
 refine ql qd Tryz.func204 rfl Tryz.ntmps204 rfl (St.start w) ?_
 refine inl (C := ⟨Tryz.prog, tab, 8, [], w, none⟩) qd Tryz.func240 rfl Tryz.ntmps240 rfl ?_
 refine qdU rfl rfl rfl (fun w hs => ibs_call s c.toNat w) ?_
 exact bk (rt (by show Value.int .i64 (firstIdx s c.toNat.toUInt8) = _; simp))
def sg4 : Bs := [46, 45, 95, 64]
theorem dec_top (s : Bs) (i : Nat) (h : i < s.length) : (Utf8.decode ⟨s.toArray⟩ i).1 < 1114112 := by
 have hb : ∀ x : UInt8, x.toNat < 256 := fun x => UInt8.toNat_lt x
 unfold Utf8.decode Utf8.runeError Utf8.valid
 simp only [Nat.add_zero, get_str s i h]
 have := hb s[i]
 generalize s[i].toNat = n at *
 repeat' split
 all_goals simp only
 all_goals first | omega | (simp only [Bool.and_eq_true, Bool.or_eq_true, decide_eq_true_eq] at *; omega)
theorem enc_hi (r : Nat) (h : 128 ≤ r) : ∃ (pre : Bs) (c : Nat), 1 ≤ pre.length ∧ pre.length ≤ 3 ∧ Utf8.encode (r : Int) = ⟨(pre ++ [UInt8.ofNat (128 + c % 64)]).toArray⟩ := by
 unfold Utf8.encode
 generalize hc : (if Utf8.valid (r : Int) then ((r : Nat) : Int).toNat else Utf8.runeError) = c
 have h2 : ¬ c < 128 := by
  rw [← hc]; split
  · simp; omega
  · decide
 simp only [if_neg h2]
 split
 · exact ⟨[UInt8.ofNat (192 + c / 64)], c, by simp, by simp, rfl⟩
 · split
   · exact ⟨[UInt8.ofNat (224 + c / 4096), UInt8.ofNat (128 + c / 64 % 64)], c, by simp, by simp, rfl⟩
   · exact ⟨[UInt8.ofNat (240 + c / 262144), UInt8.ofNat (128 + c / 4096 % 64), UInt8.ofNat (128 + c / 64 % 64)], c, by simp, by simp, rfl⟩
theorem cvRune (r : Int) (w : World) : (convert 21 9 (.int .i32 r)).run Tryz.prog w = .ok (.string (Utf8.encode r)) w := by kernel_rfl
theorem fi_hi (l : Bs) (hl : ∀ b ∈ l, b.toNat < 128) (c : UInt8) (hc : 128 ≤ c.toNat) : firstIdx ⟨l.toArray⟩ c = -1 := firstIdx_none _ _ fun b hb e => by
 have := hl b (by simpa using hb)
 rw [e] at this; omega
theorem sg4_lo : ∀ b ∈ sg4, b.toNat < 128 := by decide
theorem valid_any (r : Nat) (w : World) : Calls Tryz.prog 263 ([.int .i32 r] : List Value).toArray w fun e w' => e = .returned (.bool (decide (r < 55296) || decide (57343 < r) && decide (r ≤ 1114111))) ∧ Below w.heap.size w w' := by
 have h0 : decide ((0 : Int) ≤ (r : Int)) = true := decide_eq_true (by omega)
 have h0' : (decide ((0 : Int) ≤ (r : Int)) == true) = true := by rw [h0]; rfl
 refine ql qd Tryz.func263 rfl Tryz.ntmps263 rfl (St.start w) ?_
 iterate 2 refine ct h0' ?_
 refine ct h0 ?_
 refine cd (fun h1 => ?_) (fun h1 => ?_)
 · refine rt ?_
   rw [decide_eq_true (show r < 55296 by omega)]; rfl
 · have e1 : decide (r < 55296) = false := decide_eq_false (by omega)
   by_cases h2 : 57343 < r
   · have g2 : decide ((57343 : Int) < (r : Int)) = true := decide_eq_true (by omega)
     have g2' : (decide ((57343 : Int) < (r : Int)) == true) = true := by rw [g2]; rfl
     iterate 2 refine ct g2' ?_
     refine ct g2 ?_
     refine cd (fun h3 => ?_) (fun h3 => ?_)
     · refine rt ?_
       rw [e1, decide_eq_true h2, decide_eq_true (show r ≤ 1114111 by omega)]; rfl
     · refine rt ?_
       rw [e1, decide_eq_false (show ¬ r ≤ 1114111 by omega), Bool.and_false]; rfl
   · have g2 : decide ((57343 : Int) < (r : Int)) = false := decide_eq_false (by omega)
     have g2' : (decide ((57343 : Int) < (r : Int)) == true) = false := by rw [g2]; rfl
     iterate 2 refine cf g2' ?_
     refine cf g2 ?_
     refine cf rfl ?_
     refine rt ?_
     rw [e1, decide_eq_false h2]; rfl
theorem szC (a : Bs) : (⟨a.toArray⟩ : ByteArray).size = a.length := by simp [ByteArray.size]
theorem sg4_at (i : Nat) (h : i < (⟨sg4.toArray⟩ : ByteArray).size) : (⟨sg4.toArray⟩ : ByteArray)[i].toNat < 128 := sg4_lo _ (List.getElem_mem (l := sg4) (n := i) (by rw [szC] at h; exact h))
theorem last_at (pre : Bs) (x : UInt8) (h : pre.length < (⟨(pre ++ [x]).toArray⟩ : ByteArray).size) : (⟨(pre ++ [x]).toArray⟩ : ByteArray)[pre.length] = x := by
 show (pre ++ [x]).toArray[pre.length] = x
 simp
theorem idxr_hi (r : Nat) (hr : 128 ≤ r) (hr2 : r < 1114112) (w : World) : Calls Tryz.prog 239 ([VS sg4, .int .i32 r] : List Value).toArray w fun e w' => e = .returned (.int .i64 (-1)) ∧ Below w.heap.size w w' := by
 have h0 : decide ((0 : Int) ≤ (r : Int)) = true := decide_eq_true (by omega)
 have h0' : (decide ((0 : Int) ≤ (r : Int)) == true) = true := by rw [h0]; rfl
 have h1 : decide ((r : Int) < 128) = false := decide_eq_false (by omega)
 refine ql qd Tryz.func239 rfl Tryz.ntmps239 rfl (St.start w) ?_
 iterate 2 refine ct h0' ?_
 refine ct h0 ?_
 refine cf h1 ?_
 refine cq (fun he => ?_) (fun he => ?_)
 · refine rngS qc6 (fun b => ?_)
   refine lp qd (fun i : Nat => i ≤ 4) (fun i => ⟨[(175, ptr b)], [siE b ⟨sg4.toArray⟩ i], []⟩) (fun i => 4 - i) 0 (by decide) ⟨⟨rfl, trivial⟩, .cons .nil, rfl⟩ ?_
   intro i hi
   refine nxtS 0 rfl (fun h => ?_) (fun h => ?_)
   · refine cf rfl ?_
     exact rt rfl
   · have hi4 : i < sg4.length := h
     have hi5 : i < 4 := h
     have hlo := sg4_lo _ (List.getElem_mem hi4)
     rw [dec_lo sg4 i hi4 hlo]
     refine ct rfl ?_
     refine cf (by simp only [beq_eq_false_iff_ne]; omega) ?_
     exact ⟨i + 1, by omega, by omega, ⟨⟨rfl, trivial⟩, .cons .nil, rfl⟩⟩
 · refine cv (valid_any r) ?_
   generalize (decide (r < 55296) || decide (57343 < r) && decide (r ≤ 1114111)) = v
   cases v with
   | false =>
    refine ct rfl ?_
    exact rt rfl
   | true =>
    refine cf rfl ?_
    refine scp qd rfl ?_
    refine qcM (fun w _ => cvRune r w) ?_
    obtain ⟨pre, c, p1, p2, hen⟩ := enc_hi r hr
    rw [hen]
    have hx : 128 ≤ (UInt8.ofNat (128 + c % 64)).toNat := by simp; omega
    generalize UInt8.ofNat (128 + c % 64) = x at *
    have hsz : (⟨(pre ++ [x]).toArray⟩ : ByteArray).size = pre.length + 1 := by rw [szC]; simp
    have hla := last_at pre x (by omega)
    refine .as ((pre.length : Nat) : Int) (by rw [hsz]; simp) (by simp only [mn]; omega) (by simp only [mx]; omega) ?_
    refine lp qd (fun _ : Unit => True) (fun _ => ⟨[(0, VS sg4), (7, VS (pre ++ [x])), (8, .int .i64 pre.length), (9, .int .i64 pre.length)], [], []⟩) (fun _ => 0) () trivial ⟨⟨rfl, rfl, rfl, rfl, trivial⟩, .nil, rfl⟩ ?_
    intro _ _
    refine ct (decide_eq_true (by show (pre.length : Int) < 4; omega)) ?_
    refine scp qd rfl ?_
    refine dr [] 99 (.t 0 (.t 1 (.t 2 (.t 3 (.t 4 (.t 5 (.t 6 .nil))))))) qd qf (by kernel_rfl) .nil ?_
    refine ⟨by omega, by rw [Int.toNat_natCast]; show pre.length < 4; omega, ?_⟩
    refine ⟨by omega, by rw [Int.toNat_natCast, hsz]; omega, ?_⟩
    refine cne (fun _ => ?_) (fun hq => ?_)
    · refine dr [] 99 (.t 0 (.t 1 (.t 2 (.t 3 (.t 4 (.t 5 (.t 6 (.t 7 (.t 8 .nil))))))))) qd qf (by kernel_rfl) .nil ?_
      refine .as ((pre.length + 1 : Nat) : Int) (by simp) (by simp only [mn]; omega) (by simp only [mx]; omega) ?_
      refine slFF (s := sg4) (pre.length + 1) (by show pre.length + 1 ≤ 4; omega) rfl ?_
      refine ⟨by omega, by rw [Int.toNat_natCast, hsz]; omega, ?_⟩
      simp only [Int.toNat_natCast, hla]
      refine cz (fun w => ib_any ⟨(sg4.drop (pre.length + 1)).toArray⟩ x w) ?_
      rw [fi_hi _ (fun b hb => sg4_lo b (List.mem_of_mem_drop hb)) x hx]
      refine ct rfl ?_
      exact rt rfl
    · exfalso
      simp only [Int.toNat_natCast, hla] at hq
      have := sg4_at pre.length (by show pre.length < 4; omega)
      omega
end Go.Proofs.YtbgefoamhdgnaaaGreatDoor
end
namespace Go.Proofs.YtbgefoamhdgnaaaGreatDoor
section
open Go.RowKit Go.Sx
def fourB (c : Nat) : Bool := decide (c = 46) || decide (c = 45) || decide (c = 95) || decide (c = 64)
theorem four_tab : ∀ c, c < 128 → decide (firstIdx ⟨sg4.toArray⟩ (UInt8.ofNat c) ≥ 0) = fourB c := by decide +kernel
theorem idxr_lo (c : Nat) (hc : c < 128) (w : World) : Calls Tryz.prog 239 ([VS sg4, .int .i32 c] : List Value).toArray w fun e w' => e = .returned (.int .i64 (firstIdx ⟨sg4.toArray⟩ (UInt8.ofNat c))) ∧ Below w.heap.size w w' := by
 have h0 : decide ((0 : Int) ≤ (c : Int)) = true := decide_eq_true (by omega)
 have h0' : (decide ((0 : Int) ≤ (c : Int)) == true) = true := by rw [h0]; rfl
 have h1 : decide ((c : Int) < 128) = true := decide_eq_true (by omega)
 refine ql qd Tryz.func239 rfl Tryz.ntmps239 rfl (St.start w) ?_
 iterate 2 refine ct h0' ?_
 refine ct h0 ?_
 refine ct h1 ?_
 refine .as (((UInt8.ofNat c).toNat : Nat) : Int) (by simp; omega) (by simp only [mn]; omega) (by have := UInt8.toNat_lt (UInt8.ofNat c); simp only [mx]; omega) ?_
 refine cv (fun w => ib_any ⟨sg4.toArray⟩ (UInt8.ofNat c) w) ?_
 exact rt rfl
theorem qcs (c : Nat) (hc : c < 1114112) (w : World) : Calls Tryz.prog 203 ([VS sg4, .int .i32 c] : List Value).toArray w fun e w' => e = .returned (.bool (fourB c)) ∧ Below w.heap.size w w' := by
 refine ql qd Tryz.func203 rfl Tryz.ntmps203 rfl (St.start w) ?_
 by_cases h : c < 128
 · refine cv (idxr_lo c h) ?_
   exact rt (congrArg Value.bool (four_tab c h))
 · refine cv (idxr_hi c (by omega) hc) ?_
   refine rt (congrArg Value.bool ?_)
   unfold fourB
   rw [decide_eq_false (show ¬ c = 46 by omega), decide_eq_false (show ¬ c = 45 by omega), decide_eq_false (show ¬ c = 95 by omega), decide_eq_false (show ¬ c = 64 by omega)]
   rfl
theorem odd_any (c : Nat) (hc : c < 1114112) (w : World) : Calls Tryz.prog 202 ([.int .i32 c] : List Value).toArray w fun e w' => e = .returned (.bool (qdD c)) ∧ Below w.heap.size w w' := by
 by_cases hl : 97 ≤ c ∧ c ≤ 122
 · have := qdC c hl.1 hl.2 w
   rwa [show qdD c = false by unfold qdD; rw [decide_eq_true hl]; rfl]
 refine ql qd Tryz.func202 rfl Tryz.ntmps202 rfl (St.start w) ?_
 by_cases hd : 48 ≤ c ∧ c ≤ 57
 · have ho : qdD c = false := by unfold qdD; rw [decide_eq_true hd, Bool.or_true]; rfl
   rw [ho]
   have a1 : decide ((c : Int) < 97) = true := decide_eq_true (by omega)
   have a2 : decide ((c : Int) > 122) = false := decide_eq_false (by omega)
   have a3 : decide ((c : Int) < 48) = false := decide_eq_false (by omega)
   have a4 : decide ((c : Int) > 57) = false := decide_eq_false (by omega)
   refine cf (by first | rfl | (rw [a1]; rfl)) ?_
   refine cf (by first | rfl | (rw [a1]; rfl)) ?_
   refine ct (by first | rfl | exact a1) ?_
   refine ct (by first | rfl | (rw [a1]; rfl)) ?_
   refine ct (by first | rfl | (rw [a1]; rfl)) ?_
   refine ct (by first | rfl | (rw [a1]; rfl)) ?_
   refine ct (by first | rfl | (rw [a3]; rfl)) ?_
   refine ct (by first | rfl | (rw [a3]; rfl)) ?_
   refine ct (by first | rfl | (rw [a1]; rfl)) ?_
   refine cf (by first | rfl | exact a3) ?_
   refine ct (by first | rfl | exact a1) ?_
   iterate 3 refine cf (by rw [a4]; rfl) ?_
   refine cf a4 ?_
   exact rt rfl
 · have ho : qdD c = !fourB c := by unfold qdD fourB; rw [decide_eq_false hl, decide_eq_false hd]; rfl
   rw [ho]
   rcases (show c < 48 ∨ (57 < c ∧ c < 97) ∨ 122 < c by omega) with h | h | h
   · have a1 : decide ((c : Int) < 97) = true := decide_eq_true (by omega)
     have a2 : decide ((c : Int) > 122) = false := decide_eq_false (by omega)
     have a3 : decide ((c : Int) < 48) = true := decide_eq_true (by omega)
     have a4 : decide ((c : Int) > 57) = false := decide_eq_false (by omega)
     refine cf (by first | rfl | (rw [a1]; rfl)) ?_
     refine cf (by first | rfl | (rw [a1]; rfl)) ?_
     refine ct (by first | rfl | exact a1) ?_
     refine ct (by first | rfl | (rw [a1]; rfl)) ?_
     refine ct (by first | rfl | (rw [a1]; rfl)) ?_
     refine ct (by first | rfl | (rw [a1]; rfl)) ?_
     refine cf (by first | rfl | (rw [a3]; rfl)) ?_
     refine cf (by first | rfl | (rw [a3]; rfl)) ?_
     refine ct (by first | rfl | (rw [a1]; rfl)) ?_
     refine ct (by first | rfl | exact a3) ?_
     refine ct (by first | rfl | exact a1) ?_
     refine ct (by first | rfl | (rw [a3]; rfl)) ?_
     refine ct (by first | rfl | (rw [a3]; rfl)) ?_
     refine cv (qcs c hc) ?_
     refine ct (by first | rfl | (rw [a3]; rfl)) ?_
     refine ct (by first | rfl | exact a3) ?_
     exact rt rfl
   · have a1 : decide ((c : Int) < 97) = true := decide_eq_true (by omega)
     have a2 : decide ((c : Int) > 122) = false := decide_eq_false (by omega)
     have a3 : decide ((c : Int) < 48) = false := decide_eq_false (by omega)
     have a4 : decide ((c : Int) > 57) = true := decide_eq_true (by omega)
     refine cf (by first | rfl | (rw [a1]; rfl)) ?_
     refine cf (by first | rfl | (rw [a1]; rfl)) ?_
     refine ct (by first | rfl | exact a1) ?_
     refine ct (by first | rfl | (rw [a1]; rfl)) ?_
     refine ct (by first | rfl | (rw [a1]; rfl)) ?_
     refine ct (by first | rfl | (rw [a1]; rfl)) ?_
     refine ct (by first | rfl | (rw [a3]; rfl)) ?_
     refine ct (by first | rfl | (rw [a3]; rfl)) ?_
     refine ct (by first | rfl | (rw [a1]; rfl)) ?_
     refine cf (by first | rfl | exact a3) ?_
     refine ct (by first | rfl | exact a1) ?_
     refine ct (by first | rfl | (rw [a4]; rfl)) ?_
     refine ct (by first | rfl | (rw [a4]; rfl)) ?_
     refine cv (qcs c hc) ?_
     refine ct (by first | rfl | (rw [a4]; rfl)) ?_
     refine ct (by first | rfl | exact a4) ?_
     exact rt rfl
   · have a1 : decide ((c : Int) < 97) = false := decide_eq_false (by omega)
     have a2 : decide ((c : Int) > 122) = true := decide_eq_true (by omega)
     have a3 : decide ((c : Int) < 48) = false := decide_eq_false (by omega)
     have a4 : decide ((c : Int) > 57) = true := decide_eq_true (by omega)
     refine ct (by first | rfl | (rw [a1]; rfl)) ?_
     refine ct (by first | rfl | (rw [a1]; rfl)) ?_
     refine cf (by first | rfl | exact a1) ?_
     refine ct (by first | rfl | (rw [a2]; rfl)) ?_
     refine ct (by first | rfl | (rw [a2]; rfl)) ?_
     refine ct (by first | rfl | (rw [a2]; rfl)) ?_
     refine ct (by first | rfl | (rw [a3]; rfl)) ?_
     refine ct (by first | rfl | (rw [a3]; rfl)) ?_
     refine ct (by first | rfl | (rw [a2]; rfl)) ?_
     refine cf (by first | rfl | exact a3) ?_
     refine ct (by first | rfl | exact a2) ?_
     refine ct (by first | rfl | (rw [a4]; rfl)) ?_
     refine ct (by first | rfl | (rw [a4]; rfl)) ?_
     refine cv (qcs c hc) ?_
     refine ct (by first | rfl | (rw [a4]; rfl)) ?_
     refine ct (by first | rfl | exact a4) ?_
     exact rt rfl
theorem cfuncN_any (s : Bs) (w : World) : Calls Tryz.prog 195 ([VS s, oddF] : List Value).toArray w fun e w' => e = .returned (.bool (s.any fun c => qdD c.toNat)) ∧ Below w.heap.size w w' :=
 qeJ s qdD (fun c hc => by unfold qdD; rw [decide_eq_false (by omega), decide_eq_false (by omega), decide_eq_false (by omega), decide_eq_false (by omega), decide_eq_false (by omega), decide_eq_false (by omega)]; rfl) (fun i hi w => odd_any _ (dec_top s i hi) w) w
theorem qez (s : Bs) (w : World) : Calls Tryz.prog 146 ([VS s] : List Value).toArray w fun e w' => e = .returned (.bool (z6 s)) ∧ Below w.heap.size w w' := by
 refine ql qd Tryz.func146 rfl Tryz.ntmps146 rfl (St.start w) ?_
 have e1 : (!((ByteArray.mk s.toArray).toList == (ByteArray.mk #[]).toList)) = decide (1 ≤ s.length) := by
  rw [show (#[] : Array UInt8) = ([] : Bs).toArray from rfl, ZD]
  cases s <;> simp
 have e2 : decide (((⟨s.toArray⟩ : ByteArray).size : Int) ≤ 64) = decide (s.length ≤ 64) := by rw [szC]; exact decide_eq_decide.2 (by omega)
 unfold z6
 by_cases h1 : 1 ≤ s.length
 · rw [decide_eq_true h1] at e1 ⊢
   iterate 3 refine ct (by rw [e1]; rfl) ?_
   refine ct e1 ?_
   by_cases h2 : s.length ≤ 64
   · rw [decide_eq_true h2] at e2 ⊢
     iterate 3 refine ct (by rw [e2]; rfl) ?_
     refine cv (cfuncN_any s) ?_
     refine ct (by rw [e2]; rfl) ?_
     refine ct e2 ?_
     exact rt rfl
   · rw [decide_eq_false h2] at e2 ⊢
     iterate 4 refine cf (by rw [e2]; rfl) ?_
     refine cf e2 ?_
     exact rt rfl
 · rw [decide_eq_false h1] at e1 ⊢
   iterate 3 refine cf (by rw [e1]; rfl) ?_
   refine cf e1 ?_
   iterate 4 refine cf rfl ?_
   refine cf rfl ?_
   exact rt rfl
theorem qdF (s : Bs) (h : z6 s = true) : Zj s := fun w => by have := qez s w; rwa [h] at this
theorem own_gen (s : Bs) (g : Value) (w : World) :
 Calls Tryz.prog 101 ([.agg (ZN 4 3 s g)] : List Value).toArray w fun e w' => e = .returned (.bool (z6 s)) ∧ Below w.heap.size w w' := by
 refine ql qd Tryz.func101 rfl Tryz.ntmps101 rfl (St.start w) ?_
 intro b
 repeat (first | refine ct rfl ?_ | refine cf rfl ?_ | refine ld1 0 rfl rfl ?_ | refine cv (qez s) ?_ | exact rt rfl | refine bk ?_)
theorem check_no (s : Bs) (hn : z6 s = false) (g : Value) (w : World) : Calls Tryz.prog 72 ([.agg (ZN 4 3 s g)] : List Value).toArray w fun e w' => e = .returned (ErrN 11) ∧ Below w.heap.size w w' := by
 refine ql qd Tryz.func72 rfl Tryz.ntmps72 rfl (St.start w) ?_
 have ho := fun w => own_gen s g w
 rw [hn] at ho
 intro b1
 refine dr [cl b1 (ZN 4 3 s g) TEn] 99 (.t 0 (.n 1 (.t 2 (.t 3 (.t 4 (.t 5 (.n 6 (.t 7 (.t 8 (.t 9 (.t 10 (.t 12 (.t 13 (.t 14 (.t 15 (.t 16 (.n 11 (.n 17 (.t 18 (.t 19 .nil)))))))))))))))))))) qd qf (by kernel_rfl) (.cons .nil) ?_
 refine ldN 0 rfl rfl ?_
 refine cv ho ?_
 refine ⟨.cons .nil, ?_⟩
 repeat (first | refine ct rfl ?_ | refine cf rfl ?_ | exact rt rfl)
theorem keysIs_gen (s : Bs) (w : World) : Calls Tryz.prog 41 ([VS (idP ++ s)] : List Value).toArray w fun e w' => e = .returned (.bool (z6 s)) ∧ Below w.heap.size w w' := by
 cases hn : z6 s with
 | true => exact qbf s (qdF s hn) w
 | false =>
  refine ql qd Tryz.func41 rfl Tryz.ntmps41 rfl (St.start w) ?_
  refine cv (cutp_any idP s) ?_
  refine ct rfl ?_
  refine bu (c := QH) (by kernel_rfl) ?_
  refine .mk QH TSg (fun w => bsSg w) (fun bn => ?_)
  refine bu (c := ZN 4 3 s (sg1 bn 1)) (by kernel_rfl) ?_
  intro b5
  refine sN 1 rfl rfl rfl ?_ (by kernel_rfl)
  refine ldN 1 rfl rfl ?_
  refine cv (check_no s hn _) ?_
  exact rt rfl
def ZB (h : Hd) : Bool := z6 h.o && decide (0 ≤ h.size) && decide (h.size ≤ 1048576) && decide (0 ≤ h.time) && decide (h.time ≤ 9007199254740991)
theorem sound_gen (h : Hd) (hl : h.o.length ≤ 1000000) (w : World) :
 Calls Tryz.prog 115 ([.agg (hdC h)] : List Value).toArray w fun e w' => e = .returned (.bool (ZB h)) ∧ Below w.heap.size w w' := by
 have hk := fun w => keysIs_gen h.o w
 by_cases hg : ZB h = true
 · rw [hg]
   simp only [ZB, Bool.and_eq_true, decide_eq_true_eq] at hg
   exact qel h hl (qdF _ hg.1.1.1.1) hg.1.1.1.2 hg.1.1.2 hg.1.2 hg.2 w
 · rw [show ZB h = false by simpa using hg]
   refine ql qd Tryz.func115 rfl Tryz.ntmps115 rfl (St.start w) ?_
   intro b1
   refine ld1 0 rfl rfl ?_
   refine cv (qcj h.o hl) ?_
   cases hn : z6 h.o with
   | false =>
    rw [hn] at hk
    refine cv hk ?_
    iterate 4
     iterate 3 refine cf rfl ?_
     refine cf rfl ?_
    exact rt rfl
   | true =>
    rw [hn] at hk
    refine cv hk ?_
    simp only [ZB, Bool.and_eq_true, decide_eq_true_eq, hn, true_and] at hg
    by_cases c1 : 0 ≤ h.size
    · by_cases c2 : h.size ≤ 1048576
      · by_cases c3 : 0 ≤ h.time
        · have e1 : decide (h.size ≥ 0) = true := decide_eq_true (by omega)
          have e2 : decide (h.size ≤ 1048576) = true := decide_eq_true (by omega)
          have e3 : decide (h.time ≥ 0) = true := decide_eq_true (by omega)
          have e4 : decide (h.time ≤ 9007199254740991) = false := decide_eq_false (by omega)
          refine ct (by rfl) ?_
          refine ct (by rfl) ?_
          refine ld1 0 rfl rfl ?_
          refine ct (by rfl) ?_
          refine ct (by rfl) ?_
          refine ct (by first | rfl | (rw [e1]; rfl)) ?_
          refine ct (by first | rfl | (rw [e1]; rfl)) ?_
          refine ld1 0 rfl rfl ?_
          refine ct (by first | rfl | (rw [e1]; rfl)) ?_
          refine ct (by first | rfl | exact e1) ?_
          refine ct (by first | rfl | (rw [e2]; rfl)) ?_
          refine ct (by first | rfl | (rw [e2]; rfl)) ?_
          refine ld1 0 rfl rfl ?_
          refine ct (by first | rfl | (rw [e2]; rfl)) ?_
          refine ct (by first | rfl | exact e2) ?_
          refine ct (by first | rfl | (rw [e3]; rfl)) ?_
          refine ct (by first | rfl | (rw [e3]; rfl)) ?_
          refine ld1 0 rfl rfl ?_
          refine ct (by first | rfl | (rw [e3]; rfl)) ?_
          refine ct (by first | rfl | exact e3) ?_
          exact rt (congrArg Value.bool e4)
        · have e1 : decide (h.size ≥ 0) = true := decide_eq_true (by omega)
          have e2 : decide (h.size ≤ 1048576) = true := decide_eq_true (by omega)
          have e3 : decide (h.time ≥ 0) = false := decide_eq_false (by omega)
          refine ct (by rfl) ?_
          refine ct (by rfl) ?_
          refine ld1 0 rfl rfl ?_
          refine ct (by rfl) ?_
          refine ct (by rfl) ?_
          refine ct (by first | rfl | (rw [e1]; rfl)) ?_
          refine ct (by first | rfl | (rw [e1]; rfl)) ?_
          refine ld1 0 rfl rfl ?_
          refine ct (by first | rfl | (rw [e1]; rfl)) ?_
          refine ct (by first | rfl | exact e1) ?_
          refine ct (by first | rfl | (rw [e2]; rfl)) ?_
          refine ct (by first | rfl | (rw [e2]; rfl)) ?_
          refine ld1 0 rfl rfl ?_
          refine ct (by first | rfl | (rw [e2]; rfl)) ?_
          refine ct (by first | rfl | exact e2) ?_
          refine cf (by first | rfl | (rw [e3]; rfl)) ?_
          refine cf (by first | rfl | (rw [e3]; rfl)) ?_
          refine cf (by first | rfl | (rw [e3]; rfl)) ?_
          refine cf (by first | rfl | exact e3) ?_
          exact rt rfl
      · have e1 : decide (h.size ≥ 0) = true := decide_eq_true (by omega)
        have e2 : decide (h.size ≤ 1048576) = false := decide_eq_false (by omega)
        refine ct (by rfl) ?_
        refine ct (by rfl) ?_
        refine ld1 0 rfl rfl ?_
        refine ct (by rfl) ?_
        refine ct (by rfl) ?_
        refine ct (by first | rfl | (rw [e1]; rfl)) ?_
        refine ct (by first | rfl | (rw [e1]; rfl)) ?_
        refine ld1 0 rfl rfl ?_
        refine ct (by first | rfl | (rw [e1]; rfl)) ?_
        refine ct (by first | rfl | exact e1) ?_
        refine cf (by first | rfl | (rw [e2]; rfl)) ?_
        refine cf (by first | rfl | (rw [e2]; rfl)) ?_
        refine cf (by first | rfl | (rw [e2]; rfl)) ?_
        refine cf (by first | rfl | exact e2) ?_
        refine cf (by rfl) ?_
        refine cf (by rfl) ?_
        refine cf (by rfl) ?_
        refine cf (by rfl) ?_
        exact rt rfl
    · have e1 : decide (h.size ≥ 0) = false := decide_eq_false (by omega)
      refine ct (by rfl) ?_
      refine ct (by rfl) ?_
      refine ld1 0 rfl rfl ?_
      refine ct (by rfl) ?_
      refine ct (by rfl) ?_
      refine cf (by first | rfl | (rw [e1]; rfl)) ?_
      refine cf (by first | rfl | (rw [e1]; rfl)) ?_
      refine cf (by first | rfl | (rw [e1]; rfl)) ?_
      refine cf (by first | rfl | exact e1) ?_
      refine cf (by rfl) ?_
      refine cf (by rfl) ?_
      refine cf (by rfl) ?_
      refine cf (by rfl) ?_
      refine cf (by rfl) ?_
      refine cf (by rfl) ?_
      refine cf (by rfl) ?_
      refine cf (by rfl) ?_
      exact rt rfl
end
section
open Go.RowKit Go.Sx
def Laid (w : World) : Prop := Lib.TabIs Tryz.prog w "internal/strconv.uint64pow10" .u64 Lib.pow10Tab
theorem pow_at : ∃ g, Tryz.prog.globalNamed "internal/strconv.uint64pow10" = some g := Option.isSome_iff_exists.1 (by kernel_rfl)
theorem Laid.below {w w' : World} {B : Nat} (h : Laid w) (hB : w.heap.size ≤ B) (hb : Below B w w') : Laid w' := by
 obtain ⟨g, hg⟩ := pow_at
 have hlt : g < w.heap.size := World.block_lt_of_cell? w _ (Lib.TabIs.cell h hg 0 (by decide))
 unfold Laid Lib.TabIs World.var? at *
 rw [hg] at h ⊢
 simp only [Option.bind_some] at h ⊢
 rw [hb.block _ (by omega)]
 exact h
theorem itoa_any (n : Int) (h0 : -9223372036854775808 ≤ n) (h1 : n ≤ 9223372036854775807) (w : World) (hl : Laid w) : Calls Tryz.prog 116 ([.int .i64 n] : List Value).toArray w fun e w' => e = .returned (VS (Lib.itoa n)) ∧ Below w.heap.size w w' := by
 refine (Tryz.strconv_Itoa n h0 h1 w hl).mono ?_
 rintro e w' ⟨he, k, os, rfl⟩
 refine ⟨he, rfl, rfl, rfl, by simp [Sort.grow, World.drewN], fun j hj => ?_⟩
 simp [Sort.grow, World.drewN, Array.getElem?_append, hj]
def zB (h : Hd) : Bs := Lib.itoa h.size ++ [32] ++ Lib.itoa h.time
def ZL (h : Hd) (p : Nat) (o : Bs) : Nat := if ZB h then (if h.o = o then (if qae p h.sig (qN h (zB h)) then 0 else 7) else 11) else 1
theorem qcn {h : Hd} (hg : ZB h = true) : z6 h.o = true ∧ 0 ≤ h.size ∧ h.size ≤ 1048576 ∧ 0 ≤ h.time ∧ h.time ≤ 9007199254740991 := by
 simp only [ZB, Bool.and_eq_true, decide_eq_true_eq] at hg
 exact ⟨hg.1.1.1.1, hg.1.1.1.2, hg.1.1.2, hg.1.2, hg.2⟩
theorem body_no (h : Hd) (hk : qa0 h) (hl : h.o.length ≤ 1000) (hg : ZB h = false) (w : World) :
 Calls Tryz.prog 83 ([.agg (hdC h)] : List Value).toArray w fun e w' => e = .returned (.tuple #[.slice none 0 0, ErrN 1]) ∧ Below w.heap.size w w' := by
 have hs := fun w => sound_gen h (by omega) w
 rw [hg] at hs
 refine ql qd Tryz.func83 rfl Tryz.ntmps83 rfl (St.start w) ?_
 intro b1
 refine ldN 0 rfl (Qy h hk.1 hk.2) ?_
 refine cv hs ?_
 refine ct rfl ?_
 exact rt rfl
theorem body_yes (h : Hd) (hk : qa0 h) (hl : h.o.length ≤ 1000) (hg : ZB h = true) (w : World) (hw : Laid w) :
 Calls Tryz.prog 83 ([.agg (hdC h)] : List Value).toArray w fun e w' => ∃ x : Nat × Nat, True ∧ e = .returned (.tuple #[.slice (some ⟨x.1, 0, none⟩) (qN h (zB h)).length x.2, .nilIface]) ∧ St [] w w' [qdm x.1 x.2 (qN h (zB h))] := by
 obtain ⟨hn, h0, h1, h2, h3⟩ := qcn hg
 have l1 := Lib.itoa_length_le h.size (by omega) (by omega)
 have l2 := Lib.itoa_length_le h.time (by omega) (by omega)
 exact body_any h (Lib.itoa h.size) (Lib.itoa h.time) hk.1 hk.2 hl (qdF _ hn) h0 h1 h2 h3 (by omega) (by omega) w (fun w' hb => itoa_any _ (by omega) (by omega) w' (hw.below (Nat.le_refl _) hb)) (fun w' hb => itoa_any _ (by omega) (by omega) w' (hw.below (Nat.le_refl _) hb))
theorem nums_len {h : Hd} (hg : ZB h = true) : (zB h).length ≤ 300 := by
 obtain ⟨hn, h0, h1, h2, h3⟩ := qcn hg
 have l1 := Lib.itoa_length_le h.size (by omega) (by omega)
 have l2 := Lib.itoa_length_le h.time (by omega) (by omega)
 simp only [zB, List.length_append, List.length_cons, List.length_nil]; omega
theorem nright_gen (h : Hd) (p : Nat) (o : Bs) (hp : p < 115792089237316195423570985008687907853269984665640564039457584007913129639936) (hk : qa0 h) (hl : h.o.length ≤ 1000) (w : World) (hw : Laid w) :
 Calls Tryz.prog 47 ([.agg (hdC h), .agg (k32 p), VS o] : List Value).toArray w fun e w' => e = .returned (ZF (ZL h p o)) ∧ Below w.heap.size w w' := by
 have hsz := Qy h hk.1 hk.2
 refine ql qd Tryz.func47 rfl Tryz.ntmps47 rfl (St.start w) ?_
 intro b3 b4
 refine ldN 0 rfl hsz ?_
 unfold ZL
 cases hg : ZB h with
 | false =>
  refine cv (body_no h hk hl hg) ?_
  refine ct rfl ?_
  exact rt rfl
 | true =>
  refine cMs (v := fun x : Nat × Nat => .tuple #[.slice (some ⟨x.1, 0, none⟩) (qN h (zB h)).length x.2, .nilIface]) (es := fun x => [qdm x.1 x.2 (qN h (zB h))]) (fun w' hs => body_yes h hk hl hg w' (hw.below (Nat.le_refl _) hs.below)) (fun x _ e he k hk => by
   obtain rfl : e = qdm x.1 x.2 (qN h (zB h)) := by simpa using he
   simpa using hk) (fun x _ => ?_)
  refine cf rfl ?_
  refine ld1 0 rfl rfl ?_
  have hoo : (!(ByteArray.mk h.o.toArray).toList == (ByteArray.mk o.toArray).toList) = !decide (h.o = o) := by rw [ZD]
  rw [if_pos rfl]
  by_cases ho : h.o = o
  · rw [decide_eq_true ho] at hoo
    rw [if_pos ho]
    refine cf hoo ?_
    refine ldN 1 rfl (qg _) ?_
    refine ldP 0 (d := (Lib.byteCells h.sig).toArray) rfl (by simp [Lib.byteCells_length, hk.2]) (hd_sig h hk.1 hk.2) ?_
    refine .mk #[.slice (some ⟨x.1, 0, none⟩) (qN h (zB h)).length x.2] 48 (fun w => bss1 _ _ _ w) (fun bn => ?_)
    have hbl := qcf h (zB h) hk.1 hl (nums_len hg)
    refine cvs (v := .bool (qae p h.sig (qN h (zB h)))) (fun w' hs => ?_) ?_
    · have hrd : Rd w' (.slice (some ⟨x.1, 0, none⟩) (qN h (zB h)).length x.2) (Lib.byteCells (qN h (zB h))) := Rd.ent hs 2 rfl (by rw [Lib.byteCells_length]) (by have := qct (qN h (zB h)) x.2; rw [szB] at this; exact this)
      have hP := Parts.made (bs := qN h (zB h)) hs 3 (vs := [.slice (some ⟨x.1, 0, none⟩) (qN h (zB h)).length x.2]) [Lib.byteCells (qN h (zB h))] 1 rfl rfl rfl (List.append_nil _) (fun i v xs hv hx => by
       cases i with
       | zero => injection hv with hv; injection hx with hx; subst hv; subst hx; exact hrd
       | succ i => simp at hv) (by simp)
      exact Qn p hp h.sig hk.2 _ (qN h (zB h)) w' hP (by omega)
    cases qae p h.sig (qN h (zB h)) with
    | true =>
     refine cf rfl ?_
     exact rt rfl
    | false =>
     refine ct rfl ?_
     exact rt rfl
  · rw [decide_eq_false ho] at hoo
    rw [if_neg ho]
    refine ct hoo ?_
    exact rt rfl
theorem right_gen (S : AuS) (h : Hd) (hp : S.p < 115792089237316195423570985008687907853269984665640564039457584007913129639936) (hk : qa0 h) (hl : h.o.length ≤ 1000) (w : World) (hw : Laid w) : ZP S h (ZL h S.p S.o) w := fun w' hb =>
 nright_gen h S.p S.o hp hk hl w' (hw.below (Nat.le_refl _) hb)
end
section
open Go.RowKit Go.Sx
structure Op23 where
 kind : Int
 hd : Hd
 rh : Hd
 ri : Int
 rl : Bs
 ra : Option Addr
 rn : Nat
 rc : Nat
 a : Option Addr
 c : Nat
 ps : List Bs
 ta : Option Addr
 tn : Nat
 tc : Nat
 at' : Int
instance : Inhabited Hd := ⟨⟨[], 0, 0, [], []⟩⟩
instance : Inhabited Op23 := ⟨⟨0, default, default, 0, [], none, 0, 0, none, 0, [], none, 0, 0, 0⟩⟩
end
section
open Go.RowKit Go.Sx
theorem qbK (l : List Int) : (qbL l).length = l.length := by simp [qbL]
theorem intC_at {l : List Int} {i : Nat} (h : i < l.length) : (qbL l)[i]? = some (.int .i64 l[i]) := by simp [qbL, h]
theorem take_ne (a b : List Int) (i : Nat) (ha : i < a.length) (hb : i < b.length) (hp : a.take i = b.take i) (h : a[i] ≠ b[i]) : a ≠ b := by
 rintro rfl; exact h rfl
theorem ints_any (va vb : Value) (a b : List Int) (w : World) (ha : Rd w va (qbL a)) (hb : Rd w vb (qbL b)) (hl : a.length ≤ 1000000) : Calls Tryz.prog 40 ([va, vb] : List Value).toArray w fun e w' => e = .returned (.bool (decide (a = b))) ∧ Below w.heap.size w w' := by
 have ha0 := ha
 have hb0 := hb
 obtain ⟨aa, ca, rfl, _⟩ := ha
 obtain ⟨ab, cb, rfl, _⟩ := hb
 rw [qbK] at ha0 hb0 ⊢
 rw [qbK]
 refine ql qd Tryz.func40 rfl Tryz.ntmps40 rfl (St.start w) ?_
 refine cne (fun h => ?_) (fun h => ?_)
 · refine rt ?_
   rw [decide_eq_false (by rintro rfl; exact h rfl)]; rfl
 · have hlen : a.length = b.length := by omega
   refine lp qd (fun i : Nat => i ≤ a.length ∧ a.take i = b.take i) (fun i => ⟨[(0, .slice aa a.length ca), (1, .slice ab b.length cb), (12, .int .i64 a.length), (13, .int .i64 i)], [], []⟩) (fun i => a.length - i) 0 ⟨Nat.zero_le _, rfl⟩ ⟨⟨rfl, rfl, rfl, rfl, trivial⟩, .nil, rfl⟩ ?_
   rintro i ⟨hi, hp⟩
   refine cd (fun h => ?_) (fun h => ?_)
   · have hia : i < a.length := by omega
     have hib : i < b.length := by omega
     obtain ⟨b1, o1, c1, e1, l1, r1⟩ := rd_at ha0 (by intro h; have := congrArg List.length h; rw [qbK] at this; simp only [List.length_nil] at this; omega)
     obtain ⟨b2, o2, c2, e2, l2, r2⟩ := rd_at hb0 (by intro h; have := congrArg List.length h; rw [qbK] at this; simp only [List.length_nil] at this; omega)
     injection e1 with f1 f2 f3
     injection e2 with g1 g2 g3
     subst f1 f3 g1 g3
     have r1 := r1 i _ (intC_at hia)
     have r2 := r2 i _ (intC_at hib)
     refine dr [] 99 (.t 0 (.t 1 (.t 2 (.t 3 (.t 4 (.t 5 (.t 6 (.t 7 (.t 8 .nil))))))))) qd qf (by kernel_rfl) .nil ?_
     refine ⟨by omega, by omega, ?_⟩
     refine ldo (v := .int .i64 a[i]) (by rw [qk, qj]; simpa using r1) l1 ?_
     refine ⟨by omega, by omega, ?_⟩
     refine ldo (v := .int .i64 b[i]) (by rw [qk, qj]; simpa using r2) l2 ?_
     refine cne (fun hne => ?_) (fun he => ?_)
     · refine rt ?_
       rw [decide_eq_false (take_ne a b i hia hib hp hne)]; rfl
     · refine .as ((i + 1 : Nat) : Int) (by simp) (by simp only [mn]; omega) (by simp only [mx]; omega) ?_
       refine ⟨i + 1, ⟨by omega, ?_⟩, by omega, ⟨⟨rfl, rfl, rfl, rfl, trivial⟩, .nil, rfl⟩⟩
       rw [List.take_succ_eq_append_getElem hia, List.take_succ_eq_append_getElem hib, hp, he]
   · obtain rfl : i = a.length := by omega
     have hab : a = b := by
      rw [List.take_length, hlen, List.take_length] at hp
      exact hp
     refine rt ?_
     rw [decide_eq_true hab]; rfl
def Q7 (x : UInt8) : Bs := x :: List.replicate 31 0
theorem undSs : Tryz.prog.underlying 22 = some (.slice 39) := by kernel_rfl
theorem infoSs : (Tryz.prog.info? 39).map (fun i => (i.zero, i.size, i.bytes)) = some (some (.agg Z32), 32, 32) := by kernel_rfl
theorem bsS1 (x : UInt8) (w : World) : (Instr.buildSlice 22 1 #[(0, Qe (Q7 x))]).run Tryz.prog w = .ok (.slice (some ⟨w.heap.size, 0, none⟩) 1 1) (w.alloc (.cells (Lib.byteCells (Q7 x)).toArray 39)) := by
 obtain ⟨i, hi, hz, hs, hb⟩ := Qj infoSs
 exact run_buildSlice w _ _ 1 _ (Lib.byteCells (Q7 x)).toArray i (.agg Z32) undSs hi hz (by rw [hs]; decide) (by rw [hs]; decide) (by rw [hs]; kernel_rfl)
theorem undIs : Tryz.prog.underlying 54 = some (.slice 3) := by kernel_rfl
theorem infoIn : (Tryz.prog.info? 3).map (fun i => (i.zero, i.size, i.bytes)) = some (some (.int .i64 0), 1, 8) := by kernel_rfl
theorem bsI1 (x : Int) (w : World) : (Instr.buildSlice 54 1 #[(0, .int .i64 x)]).run Tryz.prog w = .ok (.slice (some ⟨w.heap.size, 0, none⟩) 1 1) (w.alloc (.cells #[.int .i64 x] 3)) := by
 obtain ⟨i, hi, hz, hs, hb⟩ := Qj infoIn
 exact run_buildSlice w _ _ 1 _ #[.int .i64 x] i (.int .i64 0) undIs hi hz (by rw [hs]; decide) (by rw [hs]; decide) (by rw [hs]; kernel_rfl)
def exH (x : UInt8) : Hd := qd8 Qo (hd0 (Q7 x) 1 0) [49] [48]
theorem exH_ok (x : UInt8) : qa0 (exH x) := ⟨by show (Q7 x).length = 32; simp [Q7], ZR _ _⟩
theorem rhead_ex (x : UInt8) (b c : Nat) (t : TypeId) (w : World) (hw : w.heap[b]? = some (.cells (Lib.byteCells (Q7 x)).toArray t (0, 0))) :
 Calls Tryz.prog 20 ([.slice (some ⟨b, 0, none⟩) 1 c, .int .i64 0] : List Value).toArray w fun e w' => e = .returned (.agg (hdC (exH x))) ∧ Below w.heap.size w w' :=
 qdp _ (Q7 x) 1 0 [49] [48] (by simp [Q7]) w (by decide) (by decide)
  (fun w' hb => rroot1_any b c (Q7 x) (by simp [Q7]) t w' ((hb.block b (Array.getElem?_eq_some_iff.1 hw).1).trans hw)) ⟨_, _, rfl⟩ (fun w' _ => qbs 1 (by decide) w') (fun w' _ => qbs 0 (by decide) w')
theorem qch : Zj logB := fun w => qeb logB (by decide) (by decide) (by decide) w
theorem pubN_lt (n : Nat) : QS n < 115792089237316195423570985008687907853269984665640564039457584007913129639936 := by unfold QS; exact keyP_lt _
theorem nbody_sig (h : Hd) (s N : Bs) : qN { h with sig := s } N = qN h N := rfl
theorem sgn_body (n : Nat) (h : Hd) (A T N : Bs) : qN (qd8 n h A T) N = qN h N := nbody_sig h _ N
theorem qem (n : Nat) (h : Hd) (A T : Bs) : qae (QS n) (qd8 n h A T).sig (qN (qd8 n h A T) (A ++ [32] ++ T)) = true := by
 rw [sgn_body, qeL]
 exact right_sig n (zW h A T)
theorem sgn_rightC (n : Nat) (h : Hd) (A T : Bs) (S : AuS) (hr : h.root.length = 32) (hl : h.o.length ≤ 1000) (hn : Zj h.o) (h0 : 0 ≤ h.size) (h1 : h.size ≤ 1048576) (h2 : 0 ≤ h.time) (h3 : h.time ≤ 9007199254740991) (hAl : A.length ≤ 100) (hTl : T.length ≤ 100) (hp : S.p = QS n) (ho : S.o = h.o) (w : World)
 (hA : ∀ w', Below w.heap.size w w' → Calls Tryz.prog 116 ([.int .i64 h.size] : List Value).toArray w' fun e w'' => e = .returned (VS A) ∧ Below w'.heap.size w' w'')
 (hT : ∀ w', Below w.heap.size w w' → Calls Tryz.prog 116 ([.int .i64 h.time] : List Value).toArray w' fun e w'' => e = .returned (VS T) ∧ Below w'.heap.size w' w'') : ZP S (qd8 n h A T) 0 w := fun w' hb => by
 rw [hp, ho]
 exact nright_any (qd8 n h A T) A T (QS n) (pubN_lt n) hr (ZR _ _) hl hn h0 h1 h2 h3 hAl hTl w' (fun w'' hb' => hA w'' (hb.trans (hb'.mono hb.size))) (fun w'' hb' => hT w'' (hb.trans (hb'.mono hb.size))) (qem n h A T)
theorem ex_right (x : UInt8) (S : AuS) (hp : S.p = QS Qo) (ho : S.o = logB) (w : World) : ZP S (exH x) 0 w :=
 sgn_rightC Qo (hd0 (Q7 x) 1 0) [49] [48] S (by show (Q7 x).length = 32; simp [Q7]) (by show logB.length ≤ 1000; decide) qch (by show (0 : Int) ≤ 1; decide) (by show (1 : Int) ≤ 1048576; decide) (by show (0 : Int) ≤ 0; decide) (by show (0 : Int) ≤ 9007199254740991; decide) (by decide) (by decide) hp ho w (fun w'' _ => itoa_fig 1 (by decide) w'') (fun w'' _ => itoa_fig 0 (by decide) w'')
theorem leaf_ne : Q7 1 ≠ Q7 2 := by decide
theorem ex_grows (w : World) : Calls Tryz.prog 48 ([.int .i64 (exH 1).size, Qe (exH 1).root, .int .i64 (exH 2).size, Qe (exH 2).root, .slice none 0 0] : List Value).toArray w fun e w' => e = .returned (.bool false) ∧ Below w.heap.size w w' := by
 have h := grows_eq 1 (by decide) (Q7 1) (Q7 2) (by decide) (by decide) none 0 0 w
 rw [decide_eq_false leaf_ne] at h
 exact h
theorem alive_any (w : World) : Calls Tryz.prog 9 ([] : List Value).toArray w fun e w' => e = .returned (.bool true) ∧ Below w.heap.size w w' := by
 refine ql qd Tryz.func9 rfl Tryz.ntmps9 rfl (St.start w) ?_
 refine cv qdf ?_
 refine cv (qav Qo) ?_
 refine cM (r' := fun x : Nat × Nat => auR (au0 (QS Qo) logB x)) (fun w' hs => (qeP (QS Qo) logB (by decide) qch w').mono fun e w'' ⟨x, h0, h1, h2, h3, h4, h5⟩ => ⟨x, h0, h1, h2, h3, h4, fun k hk => (h5 k hk).elim⟩) (fun x _ => ?_)
 iterate 2 refine ct rfl ?_
 iterate 2 refine cf rfl ?_
 refine bu (c := (Lib.byteCells (Q7 1)).toArray) (by kernel_rfl) ?_
 refine .mk (Lib.byteCells (Q7 1)).toArray 39 (fun w => bsS1 1 w) (fun bn => ?_)
 refine cvs (fun w' hs => rhead_ex 1 bn 1 _ w' (hs.nth (k := 1) rfl)) ?_
 refine cT 0 (α := Nat) (Φ := fun _ => True) (v := fun _ => .nilIface) (r' := fun b => auR ((au0 (QS Qo) logB x).put (exH 1) b)) rfl (fun w' hs => (take_one (au0 (QS Qo) logB x) (exH 1) none 0 0 0 rfl (exH_ok 1) w' (hs.res (k := 0) rfl) (ex_right 1 (au0 (QS Qo) logB x) rfl rfl w') rfl rfl (by show (0 : Int) ≤ 1 ∧ (1 : Int) ≤ 1048576; decide)).mono fun e w'' ⟨h1, b, h2⟩ => ⟨b, trivial, h1, h2⟩) (fun b1 _ => ?_)
 refine bu (c := (Lib.byteCells (Q7 2)).toArray) (by kernel_rfl) ?_
 refine .mk (Lib.byteCells (Q7 2)).toArray 39 (fun w => bsS1 2 w) (fun bn2 => ?_)
 refine cvs (fun w' hs => rhead_ex 2 bn2 1 _ w' (hs.nth (k := 2) rfl)) ?_
 refine cT 0 (α := Unit) (Φ := fun _ => True) (v := fun _ => ZF 13) (r' := fun _ => auR ((au0 (QS Qo) logB x).put (exH 1) b1)) rfl (fun w' hs => (qda ((au0 (QS Qo) logB x).put (exH 1) b1) (exH 2) none 0 0 0 (exH 1) rfl (exH_ok 2) w' (hs.res (k := 0) rfl) (ex_right 2 ((au0 (QS Qo) logB x).put (exH 1) b1) rfl rfl w') rfl (by show (1 : Int) ≤ 1; decide) (by show (0 : Int) ≤ 0; decide) (fun w'' _ => ex_grows w'')).mono fun e w'' ⟨h1, h2⟩ => ⟨(), trivial, h1, h2⟩) (fun _ _ => ?_)
 iterate 2 refine ct rfl ?_
 refine cv (errIs_any 13 13) ?_
 iterate 3 refine ct rfl ?_
 refine coV (n := 1) (z := 1) (xs := qbL [1]) (e := 3) id (fun w' hs => sizes_any ((au0 (QS Qo) logB x).put (exH 1) b1) w' (hs.res (k := 0) rfl) (by show 1 ≤ 1000000; decide)) (fun r hR => ?_)
 refine ct rfl ?_
 refine .mk #[.int .i64 1] 3 (fun w => bsI1 1 w) (fun bi => ?_)
 refine ct rfl ?_
 refine cvs (v := .bool true) (fun w' hs => ints_any _ _ [1] [1] w' (Rd.own hs 3 rfl hR) (Rd.ent hs 4 (n := 1) rfl rfl rfl) (by decide)) ?_
 refine ct rfl ?_
 exact rt rfl
end
section
open Go.RowKit Go.Sx
def Zq (S : AuS) (x : Hd) (ps : List Bs) : Nat := S.takeB x ps.length (ZL x S.p S.o) (match S.last with | some l => qa5 l.size l.root x.size x.root ps | none => true)
def TkS (S : AuS) (x : Hd) (k : Nat) (S' : AuS) : Prop := if k = 0 then ∃ b, S' = S.put x b else S' = S
theorem rightE_nums {h : Hd} {p : Nat} {o : Bs} (h0 : ZL h p o = 0) : 0 ≤ h.size ∧ h.size ≤ 1048576 := by
 unfold ZL at h0
 by_cases hg : ZB h = true
 · obtain ⟨_, h1, h2, _⟩ := qcn hg; exact ⟨h1, h2⟩
 · rw [if_neg hg] at h0; cases h0
theorem qei (S : AuS) (x : Hd) (ps : List Bs) (a : Option Addr) (c : Nat) (hp : S.p < 115792089237316195423570985008687907853269984665640564039457584007913129639936) (hx : qa0 x) (hl : x.o.length ≤ 1000) (w : World) (hw : Laid w) (h : AuP S w) (hr : RdS w (.slice a ps.length c) ps) :
 Calls Tryz.prog 15 ([ptr S.bA, .agg (hdC x), .slice a ps.length c] : List Value).toArray w fun e w' => ∃ S', TkS S x (Zq S x ps) S' ∧ e = .returned (ZF (Zq S x ps)) ∧ Turns w w' (auR S) (auR S') := by
 have hR := right_gen S x hp hx hl w hw
 have bad : ∀ k, k ≠ 0 → Zq S x ps = k → (Calls Tryz.prog 15 ([ptr S.bA, .agg (hdC x), .slice a ps.length c] : List Value).toArray w fun e w' => e = .returned (ZF k) ∧ Turns w w' (auR S) (auR S)) → Calls Tryz.prog 15 ([ptr S.bA, .agg (hdC x), .slice a ps.length c] : List Value).toArray w fun e w' => ∃ S', TkS S x (Zq S x ps) S' ∧ e = .returned (ZF (Zq S x ps)) ∧ Turns w w' (auR S) (auR S') := by
  intro k hk he hc
  rw [he]
  exact hc.mono fun e w' ⟨h1, h2⟩ => ⟨S, by unfold TkS; rw [if_neg hk], h1, h2⟩
 have good : Zq S x ps = 0 → (Calls Tryz.prog 15 ([ptr S.bA, .agg (hdC x), .slice a ps.length c] : List Value).toArray w fun e w' => e = .returned .nilIface ∧ ∃ b, Turns w w' (auR S) (auR (S.put x b))) → Calls Tryz.prog 15 ([ptr S.bA, .agg (hdC x), .slice a ps.length c] : List Value).toArray w fun e w' => ∃ S', TkS S x (Zq S x ps) S' ∧ e = .returned (ZF (Zq S x ps)) ∧ Turns w w' (auR S) (auR S') := by
  intro he hc
  rw [he]
  exact hc.mono fun e w' ⟨h1, b, h2⟩ => ⟨S.put x b, by unfold TkS; rw [if_pos rfl]; exact ⟨b, rfl⟩, h1, h2⟩
 obtain ⟨r, hr0⟩ : ∃ r, r = ZL x S.p S.o := ⟨_, rfl⟩
 rw [← hr0] at hR
 have ht : Zq S x ps = S.takeB x ps.length r (match S.last with | some l => qa5 l.size l.root x.size x.root ps | none => true) := by rw [hr0]; rfl
 unfold AuS.takeB at ht
 by_cases h1 : r = 0
 case neg =>
  rw [if_pos h1] at ht
  exact bad r h1 ht (take_bad S x a _ c r hx w h hR h1)
 have hz := rightE_nums (hr0.symm.trans h1)
 rw [if_neg (by omega)] at ht
 cases hS : S.last with
 | none =>
  rw [hS] at ht
  simp only at ht
  by_cases hn : 0 < ps.length
  · rw [if_pos hn] at ht
    exact bad 13 (by decide) ht (take_first S x a _ c r hS hx w h hR h1 hn)
  · rw [if_neg hn] at ht
    exact good ht (take_one S x a _ c r hS hx w h hR h1 (by omega) hz)
 | some l =>
  rw [hS] at ht
  simp only at ht
  by_cases h2 : x.size < l.size
  · rw [if_pos (.inl h2)] at ht
    exact bad 2 (by decide) ht (take_size S x a _ c r l hS hx w h hR h1 h2)
  by_cases h3 : x.time < l.time
  · rw [if_pos (.inr h3)] at ht
    exact bad 2 (by decide) ht (take_time S x a _ c r l hS hx w h hR h1 (by omega) h3)
  rw [if_neg (by omega)] at ht
  have hG : ∀ g, qa5 l.size l.root x.size x.root ps = g → GrowsC l x (.slice a ps.length c) g w := fun g hg w' hb => by
   rw [← hg]
   exact grows_any l.size l.root x.size x.root (h.hk l hS).1 hx.1 ps a c w' (hr.below hb)
  cases hg : qa5 l.size l.root x.size x.root ps with
  | false =>
   rw [if_pos hg] at ht
   exact bad 13 (by decide) ht (qda S x a _ c r l hS hx w h hR h1 (by omega) (by omega) (hG _ hg))
  | true =>
   rw [if_neg (by rw [hg]; decide)] at ht
   exact good ht (take_next S x a _ c r l hS hx w h hR h1 (by omega) (by omega) hz (hG _ hg))
end
section
open Go.RowKit Go.Sx
theorem dec_big (u : Nat) (h : ¬ u < 10) : Lib.decDigits u = Lib.decDigits (u / 10) ++ [UInt8.ofNat (48 + u % 10)] := by rw [Lib.decDigits, dif_neg h]
theorem dec_fig (u : Nat) (h : u < 10) : Lib.decDigits u = [UInt8.ofNat (48 + u)] := by rw [Lib.decDigits, dif_pos h]
theorem dec_len (u : Nat) (h : u ≤ 9223372036854775807) : (Lib.decDigits u).length ≤ 21 := by
 rw [← Lib.itoa_nonneg]; exact Lib.itoa_length_le _ (by omega) (by omega)
theorem rnum_f (f : Nat) : ∀ (u : Nat) (w : World), u < f → u ≤ 9223372036854775807 → Calls Tryz.prog 91 ([.int .i64 u] : List Value).toArray w fun e w' => e = .returned (VS (Lib.decDigits u)) ∧ Below w.heap.size w w' := by
 induction f with
 | zero => intro u w h; exact absurd h (Nat.not_lt_zero _)
 | succ f ih =>
  intro u w h hu
  by_cases h1 : u < 10
  · rw [dec_fig u h1]; exact qbs u h1 w
  refine ql qd Tryz.func91 rfl Tryz.ntmps91 rfl (St.start w) ?_
  refine cf (decide_eq_false (by omega)) ?_
  refine ⟨by omega, by simp only [mx]; omega, by decide, ?_⟩
  refine cv (v := VS (Lib.decDigits (u / 10))) (fun w' => by have := ih (u / 10) w' (by omega) (by omega); rwa [show (((u / 10 : Nat) : Int)) = (u : Int) / 10 by omega] at this) ?_
  refine ⟨by omega, by simp only [mx]; omega, by decide, ?_⟩
  refine cv (v := VS [UInt8.ofNat (48 + u % 10)]) (fun w' => by have := qbs (u % 10) (by omega) w'; rwa [show (((u % 10 : Nat) : Int)) = (u : Int) % 10 by omega] at this) ?_
  have hl := dec_len (u / 10) (by omega)
  refine ⟨by rw [szB, szB]; simp; omega, ?_⟩
  rw [cat2 _ _ _ rfl, dec_big u h1]
  exact rt rfl
theorem rnum_any (u : Nat) (hu : u ≤ 9223372036854775807) (w : World) : Calls Tryz.prog 91 ([.int .i64 u] : List Value).toArray w fun e w' => e = .returned (VS (Lib.itoa u)) ∧ Below w.heap.size w w' := by
 rw [Lib.itoa_nonneg]; exact rnum_f _ u w (Nat.lt_succ_self _) hu
def hdR (ps : List Bs) (t : Nat) : Hd := qd8 Qo (hd0 (qR ps) (ps.length : Nat) (t : Nat)) (Lib.itoa (ps.length : Nat)) (Lib.itoa (t : Nat))
theorem hdR_ok (ps : List Bs) (t : Nat) (h : ∀ p ∈ ps, p.length = 32) : qa0 (hdR ps t) := ⟨Qw ps h, ZR _ _⟩
theorem qeu (ps : List Bs) (v : Value) (t : Nat) (w : World) (hn : ps.length ≤ 1048576) (ht : t ≤ 9007199254740991) (h : RdS w v ps) :
 Calls Tryz.prog 20 ([v, .int .i64 t] : List Value).toArray w fun e w' => e = .returned (.agg (hdC (hdR ps t))) ∧ Below w.heap.size w w' := by
 have h0 := h
 obtain ⟨h32, a, c, hv, _, _⟩ := h0
 exact qdp v (qR ps) ps.length t _ _ (Qw ps h32) w (Nat.le_trans (Lib.itoa_length_le _ (by omega) (by omega)) (by decide)) (Nat.le_trans (Lib.itoa_length_le _ (by omega) (by omega)) (by decide))
  (fun w' hb => Zl ps v w' hn (h.below hb)) ⟨a, c, hv⟩ (fun w' _ => rnum_any ps.length (by omega) w') (fun w' _ => rnum_any t (by omega) w')
theorem hdR_right (ps : List Bs) (t : Nat) (hn : ps.length ≤ 1048576) (ht : t ≤ 9007199254740991) : ZL (hdR ps t) (QS Qo) logB = 0 := by
 have hg : ZB (hdR ps t) = true := by
  unfold ZB
  have h1 : z6 (hdR ps t).o = true := by show z6 logB = true; decide +kernel
  have h2 : (hdR ps t).size = (ps.length : Nat) := rfl
  have h3 : (hdR ps t).time = (t : Nat) := rfl
  rw [h1, h2, h3]
  simp only [Bool.true_and, Bool.and_eq_true, decide_eq_true_eq]
  omega
 unfold ZL
 rw [if_pos hg, if_pos (show (hdR ps t).o = logB from rfl)]
 have h := qem Qo (hd0 (qR ps) (ps.length : Nat) (t : Nat)) (Lib.itoa (ps.length : Nat)) (Lib.itoa (t : Nat))
 exact if_pos h
theorem take_new (x : Nat × Nat) (ps : List Bs) (t : Nat) (hn : ps.length ≤ 1048576) (ht : t ≤ 9007199254740991) : Zq (au0 (QS Qo) logB x) (hdR ps t) [] = 0 := by
 unfold Zq AuS.takeB
 rw [show ZL (hdR ps t) (au0 (QS Qo) logB x).p (au0 (QS Qo) logB x).o = 0 from hdR_right ps t hn ht]
 rfl
end
section
open Go.RowKit Go.Sx
abbrev Sm := { b : Bs // b.length = 32 }
def qar (k : Sm) : Value := Qe k.1
abbrev qcw : Nat := 39
theorem undSum : Tryz.prog.underlying qcw = some (.array 32 5) := by kernel_rfl
theorem equal_sum (x y : Sm) (w : World) : (Op.equal qcw (qar x) (qar y)).run Tryz.prog w = .ok (decide (x = y)) w := by
 obtain ⟨x, hx⟩ := x
 obtain ⟨y, hy⟩ := y
 have h0 := eql_ints qcw 5 32 .u8 undSum qcz (by kernel_rfl) (Lib.byteCells x).toArray (Lib.byteCells y).toArray (fun i => ((x.getD i 0).toNat : Int)) (fun i => ((y.getD i 0).toNat : Int))
  (fun i hi => by simp [Lib.byteCells, List.getD, hx, hi]) (fun i hi => by simp [Lib.byteCells, List.getD, hy, hi]) 9998 w
 show (Op.equalIn (9998 + 2) qcw _ _).run Tryz.prog w = _
 unfold qar
 rw [h0]
 refine congrArg (fun b => Result.ok b w) ?_
 rw [Bool.eq_iff_iff]
 simp only [List.all_eq_true, List.mem_range, beq_iff_eq, decide_eq_true_eq, Subtype.mk.injEq]
 constructor
 · intro h
   refine List.ext_getElem (by omega) fun i h1 h2 => ?_
   have := h i (by omega)
   simp only [List.getD, List.getElem?_eq_getElem h1, List.getElem?_eq_getElem h2, Option.getD_some] at this
   exact UInt8.toNat_inj.1 (by omega)
 · rintro rfl i _; rfl
theorem find_sum (k : Sm) (w : World) : ∀ (fs : Es Sm) (i : Nat), (Instr.findAsking qcw (qar k) (fs.map (QZ qar)) i).run Tryz.prog w = .ok (Qg k fs i) w
 | [], i => rfl
 | e :: l, i => by
  rw [List.map_cons, Instr.findAsking]
  simp only [Sem.run_bind, QZ, equal_sum, Result.andThen_ok, Qg]
  by_cases h : k = e.1
  · simp [h]
  · simp only [h, decide_false, if_false, Bool.false_eq_true]
    exact find_sum k w l (i + 1)
theorem check_sum (k : Sm) (b : Bool) (w : World) : (Instr.checkKey b 10000 qcw (qar k)).run Tryz.prog w = .ok () w := by
 obtain ⟨x, hx⟩ := k
 show (Instr.checkKey b (9998 + 1 + 1) qcw (Qe x)).run Tryz.prog w = _
 rw [Instr.checkKey]
 have hsz : ∀ w, (sizeOf 5).run Tryz.prog w = .ok 1 w := fun w => by rw [Go.Sx.run_sizeOf (Go.Sx.sizeIs_eq (by kernel_rfl))]
 simp only [Sem.run_bind, run_underlying undSum, Result.andThen_ok, Std.Legacy.Range.forIn_eq_forIn_range', Std.Legacy.Range.size, Nat.sub_zero, Nat.add_sub_cancel, Nat.div_one]
 have hl : ∀ i ∈ List.range' 0 32 1, i < 32 := fun i hi => by simpa using (List.mem_range'_1.1 hi).2
 generalize List.range' 0 32 1 = l at hl ⊢
 induction l with
 | nil => simp
 | cons i l ih =>
  have hi : i < 32 := hl i (by simp)
  have px : (part 5 (Lib.byteCells x).toArray (i * 1)).run Tryz.prog w = .ok (.int .u8 (x.getD i 0).toNat) w := by
   have hg : (Lib.byteCells x).toArray[i]? = some (.int .u8 (x.getD i 0).toNat) := by simp [Lib.byteCells, List.getD, hx, hi]
   simp [part, isAgg, run_underlying qcz, hg]
  have ck : (Instr.checkKey b (9998 + 1) 5 (.int .u8 (x.getD i 0).toNat)).run Tryz.prog w = .ok () w := by
   rw [Instr.checkKey]
   simp [run_underlying qcz]
  simp only [List.forIn_cons, Sem.run_bind, hsz, px, ck, Result.andThen_ok, Sem.run_pure]
  exact ih fun j hj => hl j (by simp [hj])
theorem same_zip (n : Nat) (x : Bs) : ((Lib.byteCells x).zip (Lib.byteCells x)).all (fun p => Instr.sameBits n p.1 p.2) = true := by
 induction x with
 | nil => rfl
 | cons a l ih =>
  have e : Lib.byteCells (a :: l) = .int .u8 a.toNat :: Lib.byteCells l := rfl
  rw [e, List.zip_cons_cons, List.all_cons, ih]
  cases n <;> simp [Instr.sameBits]
theorem keySum : qeS Tryz.prog qcw qar := by
 refine ⟨fun k b w => check_sum k b w, fun k fs w => ?_, fun k w => ?_⟩
 · simp only [Instr.findKey, Sem.run_bind, run_underlying undSum, Result.andThen_ok]
   cases fs with
   | nil => rfl
   | cons e l =>
    have : Instr.findNow (.array 32 5) (qar k) ((e :: l).map (QZ qar)) 0 = none := rfl
    rw [this]
    exact find_sum k w (e :: l) 0
 · have : Instr.sameBits 10000 (qar k) (qar k) = true := by
    show Instr.sameBits (9999 + 1) (.agg (Lib.byteCells k.1).toArray) (.agg (Lib.byteCells k.1).toArray) = true
    rw [Instr.sameBits]
    simp only [BEq.rfl, Bool.true_and]
    exact same_zip 9999 k.1
   simp [Instr.keyThatStays, this]
end
section
open Go.RowKit Go.Sx
theorem rds_nil (w : World) : RdS w (.slice none 0 0) [] := ⟨fun p hp => (by cases hp), none, 0, rfl, Nat.le_refl _, fun h => absurd rfl h⟩
theorem take_two {S : AuS} {os ls ps : List Bs} {t : Nat} (hS : S.last = some (hdR os 0)) (h : Zq S (hdR ls t) ps = 0) : os.length ≤ ls.length ∧ qa5 (os.length : Nat) (qR os) (ls.length : Nat) (qR ls) ps = true := by
 unfold Zq AuS.takeB at h
 rw [hS] at h
 split at h
 · rename_i h1; omega
 · simp only at h
   split at h
   · cases h
   · rename_i h1
     split at h
     · cases h
     · rename_i h2
       have e : qa5 (hdR os 0).size (hdR os 0).root (hdR ls t).size (hdR ls t).root ps = true := by simpa using h2
       refine ⟨?_, e⟩
       have : ¬ ((ls.length : Nat) : Int) < (os.length : Nat) := fun hh => h1 (.inl hh)
       omega
theorem rows_rd {T : Rws} {w : World} (h : (qw (Qq T)).p w) {i : Nat} {q : Sx.Own × Bs} (hi : T[i]? = some q) (hR : Rw 1 q.2.length q.1 (Lib.byteCells q.2)) : Rd w (sv q.1 q.2.length) (Lib.byteCells q.2) :=
 Rd.own (St.from w [(qw (Qq T)).w] (Qq T) (fun e he => ⟨h.1 e he, fun k hk => ⟨_, List.mem_singleton.2 rfl, e, he, hk⟩⟩) h.2) i (by unfold Qq; rw [List.getElem?_map, hi]; rfl) hR
theorem qeh (f : Nat) : ∀ l : List Bs, (∀ p ∈ l, p.length = 32) → ∀ t ∈ zj f l, t.length = 65 := by
 induction f with
 | zero => intro l _ t ht; cases ht
 | succ f ih =>
  intro l h t ht
  rw [zj] at ht
  have h1 : ∀ p ∈ l.take (qx l.length), p.length = 32 := fun p hp => h p (List.mem_of_mem_take hp)
  have h2 : ∀ p ∈ l.drop (qx l.length), p.length = 32 := fun p hp => h p (List.mem_of_mem_drop hp)
  split at ht
  · cases ht
  · rcases List.mem_append.1 ht with ht | ht
    · rcases List.mem_append.1 ht with ht | ht
      · exact ih _ h1 t ht
      · exact ih _ h2 t ht
    · obtain rfl := List.mem_singleton.1 ht; exact zr _ _ (Qw _ h1) (Qw _ h2)
theorem getM_set {k k' : Sm} {v : Value} {clk : Nat} (es : Es Sm) : qas k' (zM k v clk es) = if k' = k then some v else qas k' es := by
 induction es with
 | nil => simp only [zM, Z0]
 | cons e l ih =>
  unfold zM
  by_cases hk : k = e.1
  · rw [if_pos hk, Z0, Z0, ← hk]; split <;> rfl
  · rw [if_neg hk, Z0, ih, Z0]
    by_cases h1 : k' = e.1
    · rw [if_pos h1, if_pos h1, if_neg (fun e2 => hk (by rw [← e2, h1]))]
    · rw [if_neg h1, if_neg h1]
abbrev shK (t : Bs) : Sm := ⟨qcL t, qS _⟩
structure InvM (T : Rws) (i : Nat) (es : Es Sm) : Prop where
 a : ∀ d v, qas d es = some v → ∃ j q, j < i ∧ T[j]? = some q ∧ d = shK q.2 ∧ v = VS q.2
 b : ∀ j q, j < i → T[j]? = some q → qas (shK q.2) es = some (VS q.2)
theorem VS_inj {a b : Bs} (h : VS a = VS b) : a = b := by
 have h1 : (⟨a.toArray⟩ : ByteArray) = ⟨b.toArray⟩ := by injection h
 have h2 : a.toArray = b.toArray := by injection h1
 simpa using h2
theorem InvM.step {T : Rws} {i : Nat} {es : Es Sm} {clk : Nat} {q : Sx.Own × Bs} (h : InvM T i es) (hi : T[i]? = some q) (hn : ∀ v, qas (shK q.2) es = some v → v = VS q.2) : InvM T (i + 1) (zM (shK q.2) (VS q.2) clk es) := by
 refine ⟨fun d v hv => ?_, fun j r hj hr => ?_⟩
 · rw [getM_set] at hv
   split at hv
   · rename_i hd
     exact ⟨i, q, Nat.lt_succ_self _, hi, hd, (Option.some.inj hv).symm⟩
   · obtain ⟨j, r, h1, h2⟩ := h.a d v hv
     exact ⟨j, r, Nat.lt_succ_of_lt h1, h2⟩
 · rw [getM_set]
   split
   · rename_i hd
     by_cases hji : j = i
     · subst hji
       rw [hi] at hr
       obtain rfl := Option.some.inj hr
       rfl
     · have := h.b j r (by omega) hr
       rw [hd] at this
       rw [hn _ this]
   · rename_i hd
     by_cases hji : j = i
     · subst hji
       rw [hi] at hr
       obtain rfl := Option.some.inj hr
       exact absurd rfl hd
     · exact h.b j r (by omega) hr
theorem InvM.noC {T : Rws} {es : Es Sm} (h : InvM T T.length es) : NoC (T.map (·.2)) := by
 intro x hx y hy he
 obtain ⟨a, ha, rfl⟩ := List.mem_map.1 hx
 obtain ⟨b, hb, rfl⟩ := List.mem_map.1 hy
 obtain ⟨i, hi, ei⟩ := List.mem_iff_getElem.1 ha
 obtain ⟨j, hj, ej⟩ := List.mem_iff_getElem.1 hb
 have h1 := h.b i a hi (by rw [List.getElem?_eq_getElem hi, ei])
 have h2 := h.b j b hj (by rw [List.getElem?_eq_getElem hj, ej])
 have e : shK a.2 = shK b.2 := Subtype.ext he
 rw [e, h2] at h1
 exact (VS_inj (Option.some.inj h1)).symm
theorem undMs : Tryz.prog.underlying 87 = some (.map qcw 9) := by kernel_rfl
theorem zStr : (Tryz.prog.info? 9).bind (·.zero) = some (VS []) := by kernel_rfl
theorem alone_any (vl vo vp : Value) (ls os ps : List Bs) (t : Int) (w : World) (hw : Laid w) (hl : RdS w vl ls) (ho : RdS w vo os) (hp : RdS w vp ps) :
 Calls Tryz.prog 8 ([vl, vo, vp, .int .i64 t] : List Value).toArray w fun e w' => e = .returned (.bool true) ∧ Below w.heap.size w w' := by
 have hl0 := hl
 have ho0 := ho
 have hp0 := hp
 obtain ⟨l32, la, lc, rfl, hlc, hlad⟩ := hl0
 obtain ⟨o32, oa, oc, rfl, hoc, hoad⟩ := ho0
 obtain ⟨p32, pa, pc, rfl, hpc, hpad⟩ := hp0
 refine ql qd Tryz.func8 rfl Tryz.ntmps8 rfl (St.start w) ?_
 refine cv alive_any ?_
 refine cf rfl ?_
 by_cases h0 : 30 < ls.length
 · have p0 : decide (((ls.length : Nat) : Int) > 30) = true := decide_eq_true (by omega)
   have q0 : (decide (((ls.length : Nat) : Int) > 30) == false) = false := by rw [p0]; rfl
   repeat (first | refine cf q0 ?_ | refine ct p0 ?_ | refine cf rfl ?_ | refine ct rfl ?_)
   exact rt rfl
 have p0 : decide (((ls.length : Nat) : Int) > 30) = false := decide_eq_false (by omega)
 have q0 : (decide (((ls.length : Nat) : Int) > 30) == false) = true := by rw [p0]; rfl
 by_cases h1 : 30 < os.length
 · have p1 : decide (((os.length : Nat) : Int) > 30) = true := decide_eq_true (by omega)
   have q1 : (decide (((os.length : Nat) : Int) > 30) == false) = false := by rw [p1]; rfl
   repeat (first | refine ct q0 ?_ | refine cf p0 ?_ | refine cf q1 ?_ | refine ct p1 ?_ | refine cf rfl ?_ | refine ct rfl ?_)
   exact rt rfl
 have p1 : decide (((os.length : Nat) : Int) > 30) = false := decide_eq_false (by omega)
 have q1 : (decide (((os.length : Nat) : Int) > 30) == false) = true := by rw [p1]; rfl
 by_cases h2 : 60 < ps.length
 · have p2 : decide (((ps.length : Nat) : Int) > 60) = true := decide_eq_true (by omega)
   have q2 : (decide (((ps.length : Nat) : Int) > 60) == false) = false := by rw [p2]; rfl
   repeat (first | refine ct q0 ?_ | refine cf p0 ?_ | refine ct q1 ?_ | refine cf p1 ?_ | refine cf q2 ?_ | refine ct p2 ?_ | refine cf rfl ?_ | refine ct rfl ?_)
   exact rt rfl
 have p2 : decide (((ps.length : Nat) : Int) > 60) = false := decide_eq_false (by omega)
 have q2 : (decide (((ps.length : Nat) : Int) > 60) == false) = true := by rw [p2]; rfl
 by_cases h3 : t < 0
 · have p3 : decide (t < 0) = true := decide_eq_true (by omega)
   have q3 : (decide (t < 0) == false) = false := by rw [p3]; rfl
   repeat (first | refine ct q0 ?_ | refine cf p0 ?_ | refine ct q1 ?_ | refine cf p1 ?_ | refine ct q2 ?_ | refine cf p2 ?_ | refine cf q3 ?_ | refine ct p3 ?_ | refine cf rfl ?_ | refine ct rfl ?_)
   exact rt rfl
 have p3 : decide (t < 0) = false := decide_eq_false (by omega)
 have q3 : (decide (t < 0) == false) = true := by rw [p3]; rfl
 by_cases h4 : 9007199254740991 < t
 · have p4 : decide (t > 9007199254740991) = true := decide_eq_true (by omega)
   have q4 : (decide (t > 9007199254740991) == false) = false := by rw [p4]; rfl
   repeat (first | refine ct q0 ?_ | refine cf p0 ?_ | refine ct q1 ?_ | refine cf p1 ?_ | refine ct q2 ?_ | refine cf p2 ?_ | refine ct q3 ?_ | refine cf p3 ?_ | refine cf q4 ?_ | refine ct p4 ?_ | refine cf rfl ?_ | refine ct rfl ?_)
   exact rt rfl
 have p4 : decide (t > 9007199254740991) = false := decide_eq_false (by omega)
 have q4 : (decide (t > 9007199254740991) == false) = true := by rw [p4]; rfl
 repeat (first | refine ct q0 ?_ | refine cf p0 ?_ | refine ct q1 ?_ | refine cf p1 ?_ | refine ct q2 ?_ | refine cf p2 ?_ | refine ct q3 ?_ | refine cf p3 ?_ | refine ct q4 ?_ | refine cf p4 ?_ | refine cf rfl ?_ | refine ct rfl ?_)
 refine cv qdf ?_
 refine cv (qav Qo) ?_
 refine cM (r' := fun x : Nat × Nat => auR (au0 (QS Qo) logB x)) (fun w' hs => (qeP (QS Qo) logB (by decide) qch w').mono fun e w'' ⟨x, h0, h1, h2, h3, h4, h5⟩ => ⟨x, h0, h1, h2, h3, h4, fun k hk => (h5 k hk).elim⟩) (fun x _ => ?_)
 obtain ⟨t, rfl⟩ : ∃ k : Nat, t = k := ⟨t.toNat, by omega⟩
 have t1 := take_new x os 0 (by omega) (by decide)
 repeat (first | refine cf rfl ?_ | refine ct rfl ?_)
 refine cvs (v := .agg (hdC (hdR os 0))) (fun w' hs => qeu os _ 0 w' (by omega) (by decide) (ho.below hs.below)) ?_
 repeat (first | refine cf rfl ?_ | refine ct rfl ?_)
 refine cT 0 (α := AuS) (Φ := fun S' => S'.last = some (hdR os 0) ∧ S'.p = QS Qo ∧ S'.o = logB ∧ S'.bA = x.1) (v := fun _ => ZF 0) (r' := fun S' => auR S') rfl (fun w' hs => by
  have h1 := qei (au0 (QS Qo) logB x) (hdR os 0) [] none 0 (pubN_lt _) (hdR_ok os 0 o32) (by show logB.length ≤ 1000; decide) w' (hw.below (Nat.le_refl _) hs.below) (hs.res (k := 0) rfl) (rds_nil w')
  rw [t1] at h1
  exact h1.mono fun e w'' ⟨S', k1, k2, k3⟩ => ⟨S', by unfold TkS at k1; rw [if_pos rfl] at k1; obtain ⟨b, rfl⟩ := k1; exact ⟨rfl, rfl, rfl, rfl⟩, k2, k3⟩) (fun S ⟨hS, hSp, hSo, hSb⟩ => ?_)
 repeat (first | refine cf rfl ?_ | refine ct rfl ?_)
 refine cvs (v := .agg (hdC (hdR ls t))) (fun w' hs => qeu ls _ t w' (by omega) (by omega) (hl.below hs.below)) ?_
 refine cT 0 (α := AuS) (Φ := fun S' => True) (v := fun _ => ZF (Zq S (hdR ls t) ps)) (r' := fun S' => auR S') rfl (fun w' hs => by
  have h1 := qei S (hdR ls t) ps pa pc (by rw [hSp]; exact pubN_lt _) (hdR_ok ls t l32) (by show logB.length ≤ 1000; decide) w' (hw.below (Nat.le_refl _) hs.below) (hs.res (k := 0) rfl) (hp.below hs.below)
  rw [hSb] at h1
  exact h1.mono fun e w'' ⟨S', k1, k2, k3⟩ => ⟨S', trivial, k2, k3⟩) (fun S2 _ => ?_)
 by_cases hk : Zq S (hdR ls t) ps = 0
 case neg =>
  rw [errVs _ hk]
  refine ct rfl ?_
  exact rt rfl
 rw [hk]
 refine cf rfl ?_
 obtain ⟨hmn, hg⟩ := take_two hS hk
 refine cf (decide_eq_false (by omega)) ?_
 by_cases hm0 : os.length = 0
 · have p6 : (((os.length : Nat) : Int) == 0) = true := by rw [qbJ]; simpa using hm0
   repeat (first | refine ct p6 ?_ | refine cf (by rw [p6]; rfl) ?_ | refine cf rfl ?_ | refine ct rfl ?_)
   exact rt rfl
 have p6 : (((os.length : Nat) : Int) == 0) = false := by rw [qbJ]; simpa using hm0
 have q6 : ((((os.length : Nat) : Int) == 0) == false) = true := by rw [p6]; rfl
 repeat (first | refine ct q6 ?_ | refine cf p6 ?_ | refine cf rfl ?_ | refine ct rfl ?_)
 have hls : ls ≠ [] := fun e => by subst e; simp at hmn; exact hm0 (by simp [hmn])
 obtain ⟨lb, lo, rfl, _, _⟩ := hlad hls
 refine slTo (fun a ha => by injection ha with ha; subst ha; rfl) hmn hlc ?_
 repeat (first | refine ct q6 ?_ | refine cf p6 ?_ | refine cf rfl ?_ | refine ct rfl ?_)
 refine cvs (v := Qe (qR (ls.take os.length))) (fun w' hs => Zl _ _ w' (by rw [List.length_take]; omega) (RdS.take (hl.below hs.below) _ hmn)) ?_
 repeat (first | refine ct q6 ?_ | refine cf p6 ?_ | refine cf rfl ?_ | refine ct rfl ?_)
 refine cvs (v := Qe (qR os)) (fun w' hs => Zl _ _ w' (by omega) (ho.below hs.below)) ?_
 repeat (first | refine ct q6 ?_ | refine cf p6 ?_ | refine cf rfl ?_ | refine ct rfl ?_)
 refine eqS rfl (Qw _ (fun p hp => l32 p (List.mem_of_mem_take hp))) (Qw _ o32) ?_
 by_cases hr : qR (ls.take os.length) = qR os
 · rw [decide_eq_true hr]
   repeat (first | refine ct q6 ?_ | refine cf p6 ?_ | refine cf rfl ?_ | refine ct rfl ?_)
   exact rt rfl
 rw [decide_eq_false hr]
 repeat (first | refine ct q6 ?_ | refine cf p6 ?_ | refine cf rfl ?_ | refine ct rfl ?_)
 have hne : os.length ≠ ls.length := fun e => by
  unfold qa5 at hg
  rw [if_neg (by omega), if_pos (by omega)] at hg
  simp only [Bool.and_eq_true, decide_eq_true_eq] at hg
  exact hr (by rw [List.take_of_length_le (by omega)]; exact hg.2.symm)
 have hg2 : extB (os.length : Nat) (ls.length : Nat) (qR os) (qR ls) ps = true := by
  unfold qa5 at hg
  rwa [if_neg (by omega), if_neg (by omega)] at hg
 obtain ⟨e1, y, e2, e3, e4⟩ := ext_both os.length ls.length (by omega) hmn (by omega) _ _ _ hg2
 have p7 : (((os.length : Nat) : Int) == ((ls.length : Nat) : Int)) = false := by rw [beq_eq_false_iff_ne]; omega
 have q7 : ((((os.length : Nat) : Int) == ((ls.length : Nat) : Int)) == false) = true := by rw [p7]; rfl
 repeat (first | refine ct q7 ?_ | refine cf p7 ?_ | refine cf rfl ?_ | refine ct rfl ?_)
 refine cv (v := .int .i64 (ps.length : Nat)) (fun w' => by
  have := rneeds_any os.length ls.length true w' (by omega) hmn (by omega)
  rw [Bool.true_and, ← e1] at this
  exact this) ?_
 have p8 : (((ps.length : Nat) : Int) != ((ps.length : Nat) : Int)) = false := by simp
 have q8 : ((((ps.length : Nat) : Int) != ((ps.length : Nat) : Int)) == false) = true := by rw [p8]; rfl
 repeat (first | refine ct q7 ?_ | refine cf p7 ?_ | refine ct q8 ?_ | refine cf p8 ?_ | refine cf rfl ?_ | refine ct rfl ?_)
 have hyl : y.length = 32 := by
  split at e2
  · rw [e2]; exact Qw _ o32
  · exact p32 y (List.mem_of_mem_head? e2)
 have hTl := qbn ls.length os.length ls.length
 change (qU os.length ls.length).1.length ≤ ls.length at hTl
 obtain ⟨l1, l2, l3, l4⟩ := Z9 y hyl (qU os.length ls.length).1 ps (by omega) p32
 refine cvs (v := Qe (qR os)) (fun w' hs => Zl _ _ w' (by omega) (ho.below hs.below)) ?_
 refine cMs (v := fun Y => bothV (qW y (qU os.length ls.length).1 ps) Y) (es := Cp.es) (fun w' hs => rboth_f (ls.length + 1) os.length ls.length true (qR os) y ps _ w' (by omega) (by omega) hmn (by omega) (Qw _ o32) (by rw [Bool.true_and]; exact e1) (by rw [Bool.true_and]; exact e2) (hp.below hs.below)) (fun x _ => Cp.A) (fun Y hY => ?_)
 have hB := both_root (ls.length + 1) os.length ls.length y ps ls (by omega) (by omega) hmn (by omega) rfl l32 hyl p32 (by omega)
 generalize qW y (qU os.length ls.length).1 ps = R at *
 obtain ⟨was, now, tx⟩ := R
 simp only at l1 l2 l3 l4 hY e3 e4 hB ⊢
 have z1 := qF was l1
 have z2 := qF now l2
 intro b13 b14
 refine sN 3 rfl (z1.trans (by kernel_rfl)) (qv _) ?_ (by rw [z1]; kernel_rfl)
 refine sN 4 rfl (z2.trans (by kernel_rfl)) (qv _) ?_ (by rw [z2]; kernel_rfl)
 refine mkm qar (fun bm => ?_)
 refine dr [] 99 (.t 0 (.t 1 (.t 4 (.t 5 (.t 6 (.t 10 (.n 2 (.n 3 (.n 7 (.n 8 (.t 9 .nil))))))))))) qd qf (by kernel_rfl) .nil ?_
 refine slTo (fun a ha => by injection ha with ha; subst ha; rfl) hmn hlc ?_
 refine cMs (v := fun X : Cp => sv X.r X.l.length) (es := Cp.es) (fun w' hs => rtexts_f (ls.length + 1) ls _ w' (by omega) (by omega) (hl.below hs.below)) (fun x _ => Cp.A) (fun X hX => ?_)
 refine ⟨.nil, ?_⟩
 have lY := hY.len
 have lX := hX.len
 have hlX := qac (ls.length + 1) ls (by omega)
 refine qcv (next' := fun v L' => ∃ r', Rw 1 (Y.l.length + X.l.length) r' (qK Y.l ++ qK X.l) ∧ v = sv r' (Y.l.length + X.l.length) ∧ L' = [rs (auR S2), se r' (qK Y.l ++ qK X.l) TBy, rs (qw (Qq Y.l)), cl b13 _ qcw, cl b14 _ qcw, me bm qar [] 0, se X.r (qK X.l) TBy, rs (qw (Qq X.l))])
  (ap 1 qd rfl Ze rfl rfl hY.row (fun w' hs => by have := (Rd.own hs 6 rfl hX.row).src undBys (qb9 _); rwa [qaN] at this) (by omega) (by unfold maxLen; omega) (fun r' hr' => ⟨r', hr', rfl, rfl⟩)) ?_
 rintro w2 v2 L2 hs2 ⟨r2, hr2, rfl, rfl⟩
 refine ⟨_, qd3 hs2 (k := 2) (j := 7) rfl rfl (by decide), ?_⟩
 refine ⟨.nil, ?_⟩
 have hA := hY.app hX r2 hr2
 rw [← Q5, ← Zm, ← List.length_append]
 generalize hAl : Y.l ++ X.l = A at *
 have lA : A.length = Y.l.length + X.l.length := by rw [← hAl, List.length_append]
 have htk : (ls.take os.length).length = os.length := by rw [List.length_take]; omega
 refine cMs (v := fun X : Cp => sv X.r X.l.length) (es := Cp.es) (fun w' hs => rtexts_f (ls.length + 1) (ls.take os.length) _ w' (by omega) (by omega) (RdS.take (hl.below hs.below) _ hmn)) (fun x _ => Cp.A) (fun Z hZ => ?_)
 refine ⟨.nil, ?_⟩
 have lZ := hZ.len
 have hlZ := qac (ls.length + 1) (ls.take os.length) (by omega)
 refine qcv (next' := fun v L' => ∃ r', Rw 1 (A.length + Z.l.length) r' (qK A ++ qK Z.l) ∧ v = sv r' (A.length + Z.l.length) ∧ L' = [rs (auR S2), se r' (qK A ++ qK Z.l) TBy, rs (qw (Qq A)), cl b13 _ qcw, cl b14 _ qcw, me bm qar [] 0, se X.r (qK X.l) TBy, dead, se Z.r (qK Z.l) TBy, rs (qw (Qq Z.l))])
  (ap 1 qd rfl Ze rfl rfl hA.row (fun w' hs => by have := (Rd.own hs 8 rfl hZ.row).src undBys (qb9 _); rwa [qaN] at this) (by omega) (by unfold maxLen; omega) (fun r' hr' => ⟨r', hr', rfl, rfl⟩)) ?_
 rintro w3 v3 L3 hs3 ⟨r3, hr3, rfl, rfl⟩
 refine ⟨_, qd3 hs3 (k := 2) (j := 9) rfl rfl (by decide), ?_⟩
 refine ⟨.nil, ?_⟩
 have hT := hA.app hZ r3 hr3
 rw [← Q5, ← Zm, ← List.length_append]
 have lT : (A ++ Z.l).length ≤ 200 := by rw [List.length_append]; omega
 generalize A ++ Z.l = T at *
 have hno : NoC (T.map (·.2)) → False := fun h => by
  rw [hT.m] at h
  exact hr ((hB (h.sub fun z hz => List.mem_append.2 (.inl hz)) e4).symm.trans e3)
 have h65 : ∀ q ∈ T, q.2.length = 65 := fun q hq => by
  have : q.2 ∈ T.map (·.2) := List.mem_map_of_mem hq
  rw [hT.m] at this
  rcases List.mem_append.1 this with h | h
  · rcases List.mem_append.1 h with h | h
    · exact l4 _ h
    · exact qeh _ _ l32 _ h
  · exact qeh _ _ (fun p hp => l32 p (List.mem_of_mem_take hp)) _ h
 have hrow : Rw 1 T.length r3 (qK T) := hT.row
 have hok : ∀ x ∈ T, Rw 1 x.2.length x.1 (Lib.byteCells x.2) := hT.ok
 rcases r3 with _ | ⟨rb, cap, jk⟩
 · exfalso
   have : T.length = 0 := hrow.2
   rw [List.length_eq_zero_iff.1 this] at hno
   exact hno (fun x hx => by cases hx)
 refine lp qd (fun x : Nat × Es Sm × Nat => x.1 ≤ T.length ∧ InvM T x.1 x.2.1) (fun x => ⟨[(16, .map (some bm)), (115, .slice (some ⟨rb, 0, none⟩) T.length cap), (116, .int .i64 T.length), (117, .int .i64 x.1)], [cl rb (qK T ++ jk).toArray TBy, rs (qw (Qq T)), me bm qar x.2.1 x.2.2], []⟩) (fun x => T.length - x.1) (0, [], 0) ⟨Nat.zero_le _, ⟨fun d v h => (by cases h), fun j q hj => (by omega)⟩⟩ ⟨⟨rfl, rfl, rfl, rfl, trivial⟩, ?_, rfl⟩ ?_
 · exact .drop (.cons (.cons (.drop (.drop (.cons .nil)))))
 rintro ⟨i, es, clk⟩ ⟨hi, hI⟩
 simp only at hi hI
 refine cd (fun hlt => ?_) (fun hge => ?_)
 case refine_2 =>
  exfalso
  obtain rfl : i = T.length := by (try simp only at hge); omega
  exact hno hI.noC
 have hil : i < T.length := by (try simp only at hlt); omega
 obtain ⟨q, hq⟩ : ∃ q, T[i]? = some q := ⟨_, List.getElem?_eq_getElem hil⟩
 have hqm := List.mem_of_getElem? hq
 have hqR := hok q hqm
 have hql := h65 q hqm
 obtain ⟨qa, qc, hqv⟩ := zN hqR
 refine ⟨by (try simp only); omega, by (try simp only); omega, ?_⟩
 refine ld1 0 rfl (v := .slice qa q.2.length qc) (by
  rw [qk, qj, Nat.zero_add, Nat.mul_one, Int.toNat_natCast, List.getElem?_toArray, List.getElem?_append_left (by rw [qaN]; exact hil)]
  unfold qK
  rw [List.getElem?_map, hq]; exact congrArg some hqv) ?_
 have hrd : ∀ {w' : World} {L : List Ent}, St [] w w' L → L[1]? = some (rs (qw (Qq T))) → Rd w' (.slice qa q.2.length qc) (Lib.byteCells q.2) := fun hs h => by rw [← hqv]; exact rows_rd (hs.res h) hq hqR
 refine cvs (fun w' hs => rshort_any _ q.2 w' (hrd hs rfl) (by omega)) ?_
 intro b19
 have hz := qF (qcL q.2) (qS _)
 refine sN 3 rfl (hz.trans (by kernel_rfl)) (qv _) ?_ (by rw [hz]; kernel_rfl)
 refine ldN 3 rfl hz ?_
 refine lkp (κ := Sm) (ke := qar) (k := shK q.2) 2 rfl undMs keySum zStr ?_
 have hend : ∀ (s : Es Sm × Nat), InvM T (i + 1) s.1 → ∃ y : Nat × Es Sm × Nat, (y.1 ≤ T.length ∧ InvM T y.1 y.2.1) ∧ T.length - y.1 < T.length - i ∧ y = (i + 1, s) := fun s h => ⟨(i + 1, s), ⟨hil, h⟩, by show T.length - (i + 1) < _; omega, rfl⟩
 cases hg : qas (shK q.2) es with
 | none =>
  repeat (first | refine cf rfl ?_ | refine ct rfl ?_)
  refine ldN 3 rfl hz ?_
  refine qcM (v := VS q.2) (fun w' hs => rd_str (hrd hs rfl)) ?_
  refine mup (κ := Sm) (ke := qar) (k := shK q.2) 2 rfl undMs keySum ?_
  refine .as ((i + 1 : Nat) : Int) (by simp) (by simp only [mn]; omega) (by simp only [mx]; omega) ?_
  refine ⟨(i + 1, zM (shK q.2) (VS q.2) clk es, qcQ (shK q.2) es clk), ⟨hil, hI.step hq (fun v hv => by rw [hg] at hv; cases hv)⟩, by (try simp only); omega, ?_⟩
  exact ⟨⟨rfl, rfl, rfl, rfl, trivial⟩, .cons (.cons (.cons .nil)), rfl⟩
 | some v =>
  obtain ⟨j, r, hj, hjr, hd, rfl⟩ := hI.a _ _ hg
  repeat (first | refine cf rfl ?_ | refine ct rfl ?_)
  refine qcM (v := VS q.2) (fun w' hs => rd_str (hrd hs rfl)) ?_
  repeat (first | refine cf rfl ?_ | refine ct rfl ?_)
  by_cases he : r.2 = q.2
  · have p9 : (!((⟨r.2.toArray⟩ : ByteArray).toList == (⟨q.2.toArray⟩ : ByteArray).toList)) = false := by rw [ZD, decide_eq_true he]; rfl
    repeat (first | refine cf p9 ?_ | refine cf rfl ?_ | refine ct rfl ?_)
    refine ldN 3 rfl hz ?_
    refine qcM (v := VS q.2) (fun w' hs => rd_str (hrd hs rfl)) ?_
    refine mup (κ := Sm) (ke := qar) (k := shK q.2) 2 rfl undMs keySum ?_
    refine .as ((i + 1 : Nat) : Int) (by simp) (by simp only [mn]; omega) (by simp only [mx]; omega) ?_
    refine ⟨(i + 1, zM (shK q.2) (VS q.2) clk es, qcQ (shK q.2) es clk), ⟨hil, hI.step hq (fun v hv => by rw [hg] at hv; rw [← Option.some.inj hv, he])⟩, by (try simp only); omega, ?_⟩
    exact ⟨⟨rfl, rfl, rfl, rfl, trivial⟩, .cons (.cons (.cons .nil)), rfl⟩
  · have p9 : (!((⟨r.2.toArray⟩ : ByteArray).toList == (⟨q.2.toArray⟩ : ByteArray).toList)) = true := by rw [ZD, decide_eq_false he]; rfl
    repeat (first | refine ct p9 ?_ | refine cf rfl ?_ | refine ct rfl ?_)
    exact rt rfl
end
section
open Go.RowKit Go.Sx
def rowsC (vl vo vp : Value) (t : Int) : Array Value := #[vl, vo, vp, .int .i64 t]
theorem law_alone (vl vo vp : Value) (ls os ps : List Bs) (t : Int) (w : World) (hw : Laid w) (hl : RdS w vl ls) (ho : RdS w vo os) (hp : RdS w vp ps) :
 Calls Tryz.prog 3 ([.agg (rowsC vl vo vp t)] : List Value).toArray w fun e w' => e = .returned (.bool true) ∧ Below w.heap.size w w' := by
 refine ql qd Tryz.func3 rfl Tryz.ntmps3 rfl (St.start w) ?_
 intro b1
 refine ld1 0 rfl (v := vl) rfl ?_
 refine ld1 0 rfl (v := vo) rfl ?_
 refine ld1 0 rfl (v := vp) rfl ?_
 refine ld1 0 rfl (v := .int .i64 t) rfl ?_
 refine cvs (fun w' hs => alone_any vl vo vp ls os ps t w' (hw.below (Nat.le_refl _) hs.below) (hl.below hs.below) (ho.below hs.below) (hp.below hs.below)) ?_
 exact rt rfl
end
section
open Go.ChangeShapes Go.WideShapes Go.ChangeAt Go.RowKit Go.Sx
theorem own : ownKnob Tryz.prog.godebug = none := by kernel_rfl
theorem laidOut : laidOutB Tryz.prog = true := by kernel_rfl
theorem cellsU8 : Tryz.prog.cellsOf 5 = 1 := by kernel_rfl
theorem bytes_of (f : Nat → Int) (n : Nat) (h : ∀ i, i < n → 0 ≤ f i ∧ f i < 256) : ∃ bs : List UInt8, bs.length = n ∧ ∀ i, i < n → (Lib.byteCells bs)[i]? = some (.int .u8 (f i)) := by
 refine ⟨(List.range n).map fun i => UInt8.ofNat (f i).toNat, by simp, fun i hi => ?_⟩
 have := h i hi
 simp [Lib.byteCells, hi]
 omega
end
section
theorem jLaid : laidOutB Tryz.prog = true := by kernel_rfl
theorem jMaps : mapsRowed Tryz.prog = true := by kernel_rfl
theorem jStops : Tryz.prog.stopsHeard = true := by kernel_rfl
theorem jMay : Tryz.prog.mayEnter = true := by kernel_rfl
end
section
open Go.ChangeShapes Go.WideShapes Go.ChangeAt Go.RowKit Go.Sx
theorem cellsSum : Tryz.prog.cellsOf 39 = 32 := by kernel_rfl
theorem cellsI : Tryz.prog.cellsOf 3 = 1 := by kernel_rfl
theorem cellsSs : Tryz.prog.cellsOf 22 = 1 := by kernel_rfl
theorem qcY {α : Type} (l : List α) (i n : Nat) : l.drop i = (l.drop i).take n ++ l.drop (i + n) := by
 have := (List.take_append_drop n (l.drop i)).symm
 rwa [List.drop_drop] at this
section
variable {H : Type} {enc : TypeId × Value → H} {w : World} {base : Nat} {spare : Nat → Bool} {held : Bool}
theorem open_bytesA {fuel t n : Nat} {cs : List Value} {x : DataW H × List MemPlace} (ht : Tryz.prog.underlying t = some (.array n 5)) (hl : cs.length = n) (h : DataW.trod enc Tryz.prog w base spare held fuel t cs = some x) :
 ∃ bs : List UInt8, bs.length = n ∧ cs = Lib.byteCells bs := by
 obtain ⟨xs, m, _, _, _, hxl, hel⟩ := DataW.trod_array ht h
 have hz : ∀ i : Nat, ∃ z : Int, i < n → cs[i]? = some (.int .u8 z) ∧ (Lit.int .u8 z).wf = true := by
  intro i
  by_cases hi : i < n
  · have hE := hel i hi
    rw [cellsU8, Nat.mul_one, List.getElem?_eq_getElem (by omega)] at hE
    obtain ⟨z, e1, _, e3⟩ := DataW.trod_int Tryz.underlying5 hE
    refine ⟨z, fun _ => ⟨?_, e3⟩⟩
    have h0 : ((cs.drop i).take 1)[0]? = some (.int .u8 z) := by rw [e1]; rfl
    simpa using h0
  · exact ⟨0, fun h => absurd h hi⟩
 obtain ⟨f, hf2⟩ := Classical.skolem.1 hz
 obtain ⟨bs, hbs, hd⟩ := bytes_of f n (fun i hi => by
  have := bounds_u8 (hf2 i hi).2
  omega)
 refine ⟨bs, hbs, List.ext_getElem? fun i => ?_⟩
 by_cases hi : i < n
 · rw [(hf2 i hi).1, hd i hi]
 · rw [List.getElem?_eq_none (by omega), List.getElem?_eq_none (by rw [Lib.byteCells_length]; omega)]
theorem qcc {fuel : Nat} {cs : List Value} {x : DataW H × List MemPlace} (h : DataW.trod enc Tryz.prog w base spare held fuel 22 cs = some x) : ∃ a c ps, cs = [.slice a (ps : List Bs).length c] ∧ RdS w (.slice a ps.length c) ps := by
 rcases Go.Deep.open_slice Tryz.underlying22 h with ⟨hcs, _⟩ | ⟨a, len, cap, m, n, D, Pl, hcs, _, hl, hm, hmm, hxe, hx⟩
 · refine ⟨none, 0, [], hcs, ?_⟩
   unfold RdS
   exact ⟨fun p hp => (List.not_mem_nil hp).elim, none, 0, rfl, Nat.le_refl _, fun hn => absurd rfl hn⟩
 · have hlm : len ≤ m := by rw [hmm]; split <;> omega
   have each : ∀ i, i < len → ∃ p : Bs, p.length = 32 ∧ ∀ j u, (Lib.byteCells p)[j]? = some u → w.cell? ((a.add (i * 32)).add j) = some u := by
    intro i hi
    obtain ⟨cs', h1, h2⟩ := hx i (by omega)
    rw [cellsSum] at h1
    obtain ⟨_, hlen, hcell⟩ := World.cells?_some h1
    obtain ⟨p, hp, e⟩ := open_bytesA (n := 32) Tryz.underlying39 hlen h2
    refine ⟨p, hp, fun j u hu => ?_⟩
    rw [hcell j (by have := (List.getElem?_eq_some_iff.1 hu).1; rwa [Lib.byteCells_length, hp] at this), e, hu]
   obtain ⟨F, hF⟩ := Go.Deep.choose_lt each
   refine ⟨some a, cap, (List.range len).map F, by rw [hcs]; simp, ?_⟩
   unfold RdS
   refine ⟨fun p hp => ?_, some a, cap, rfl, by simp; omega, fun hne => ?_⟩
   · obtain ⟨i, hi, rfl⟩ := List.mem_map.1 hp
     exact (hF i (List.mem_range.1 hi)).1
   · have h0 : 0 < len := by
      rcases Nat.eq_zero_or_pos len with h | h
      · subst h; exact absurd rfl hne
      · exact h
     obtain ⟨p0, hc0⟩ := hF 0 h0
     have hu0 := hc0 0 _ (List.getElem?_eq_getElem (by rw [Lib.byteCells_length, p0]; decide))
     obtain ⟨b, o, sp⟩ := a
     have hsp : sp = none := by
      have := World.cell?_spot hu0
      simpa [Addr.add] using this
     subst hsp
     refine ⟨b, o, rfl, World.block_lt_of_cell? w _ (by simpa [QA] using hu0), fun i p hp j u hu => ?_⟩
     rw [List.getElem?_map, Option.map_eq_some_iff] at hp
     obtain ⟨k, hk, rfl⟩ := hp
     have hi : i < len := by have := (List.getElem?_eq_some_iff.1 hk).1; simpa using this
     obtain rfl : i = k := by rw [List.getElem?_range hi] at hk; exact Option.some.inj hk
     have := (hF i hi).2 j u hu
     rwa [QA, QA, Nat.mul_comm] at this
end
end
end Go.Proofs.YtbgefoamhdgnaaaGreatDoor
