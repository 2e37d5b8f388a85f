/- the size and the time of an auditor's last head never fall -/
import Derived.Shelf.SlIterI.Nil
import Derived.Shelf.SortM.Plain
import Derived.Shelf.SortM.SortNone
import Derived.Ground.GgzProg
import Derived.Ground.SlgmProg
import Derived.Test.YtbgefoamhdgnaaaGreatDoorProg
import Derived.Scope
import Derived.Laws.Externs
import Derived.Laws.Runes
import Derived.WalkSmall
import Derived.Lib.ItoaLen
import Derived.Test.YtbgefoamhdgnaaaGreatDoorRows
import Derived.WalkKit
import Derived.ProofKit
import Derived.OpenShut
import Derived.ShutString
import Derived.ChangeOld
import Derived.Below
import Derived.Lib.UnsafeStr
import Derived.Test.YtbgefoamhdgnaaaGreatDoorHa5
set_option maxRecDepth 100000
set_option maxHeartbeats 16000000
set_option linter.unusedVariables false
set_option linter.unusedSimpArgs false
namespace Go.Sx
section
open Go Go.RowKit
variable {C : Cx} {ops : Array Oper} {L0 : List Ent} {f : List Nat} {Q : Act → World → Prop}
theorem Sub.none (L : List Ent) : Sub [] L := .nil
theorem dG_free (n : Nat) : ∀ (l : Array Bool) (s : Sy), dG C ops L0 f Q n l s → dG C ops [] [] Q n l s := by
 induction n with
 | zero => intro l s h; exact h
 | succ n ih =>
  intro l s h
  exact ⟨h.1, fun j hj o ho a w hf hs => (h.2 j hj o ho a w hf hs).mono fun u L' hk => ⟨fun _ => Sub.none _, ih _ _ hk.2⟩⟩
def mxs (C : Cx) (ops : Array Oper) : List Nat → (Sy → Prop) → Sy → Prop
 | [], K, s => K s
 | i :: r, K, s => dt C ops [] i (mxs C ops r K) s
def mxOk (ops : Array Oper) : List Nat → Array Bool → Bool
 | [], _ => true
 | i :: r, l => tOk ops [] l i && mxOk ops r (l.setIfInBounds i true)
def mxl : List Nat → Array Bool → Array Bool
 | [], l => l
 | i :: r, l => mxl r (l.setIfInBounds i true)
theorem mxs_ok (hT : TabOk C.P C.T) (hsel : Region.noSelect ops = true) {K : Sy → Prop} (ms : List Nat) : ∀ (n : Nat) (l : Array Bool) (s : Sy), Shut ops l → mxOk ops ms l = true →
 (∀ s', s'.L = s.L → K s' → Shut ops (mxl ms l) → dG C ops [] [] Q n (mxl ms l) s') → mxs C ops ms K s → dG C ops [] [] Q (n + ms.length) l s := by
 induction ms with
 | nil => intro n l s hsh _ hK h; exact hK s rfl h hsh
 | cons i r ih =>
  intro n l s hsh hok hK h
  simp only [mxOk, Bool.and_eq_true] at hok
  obtain ⟨hk, hr⟩ := hok
  simp only [tOk, Bool.and_eq_true, Bool.not_eq_true'] at hk
  obtain ⟨⟨⟨k1, k2⟩, k3⟩, k4⟩ := hk
  obtain ⟨σ, L, D⟩ := s
  change dt C ops [] i (mxs C ops r K) ⟨σ, L, D⟩ at h
  simp only [dt, opAt, qa3] at h
  have hsb : Sub [] L := Sub.none L
  split at h
  · rename_i o ho
    have hf' : ∀ j, Qb j [] = true → (ops[j]?).isSome = true → Dep ops i j := fun j hj _ => by cases hj
    have hrd : i ∈ Region.ready .any ops l := by simpa using k2
    obtain ⟨b, hp, hq, hb⟩ := gd_ok (C := C) (s := ⟨σ, L, D⟩) h
    cases b with
    | false => exact qax (v := undef) ho hsel k3 hf' (n + r.length) l _ hsh (Region.free_spec ho k1) hrd hsb (fun a ha => .inr ⟨hb a ha, rfl⟩) (ih n _ _ (hsh.next hrd) hr hK (hq rfl))
    | true =>
     have key : ∃ v, mxs C ops r K ⟨put C.N o.dst v σ, L, D⟩ ∧ ∀ a, Fits C.N ⟨σ, L, D⟩ a → ∀ w, St C.M C.B w [] → FinT C v w ((execOp a.eval o).run C.P w) := by
      obtain ⟨v, hv, hr'⟩ := tkV_ok hT (qbS σ) (hp rfl)
      refine ⟨v, hv, fun a ha w hs => ?_⟩
      rw [execOp_congr o (fun cs b => Region.noSelect_spec hsel i o cs b ho) (fun x hx => qdn ha (qbx (hp rfl) x hx))]
      exact hr' w hs
     obtain ⟨v, hv, hr'⟩ := key
     exact qax (v := v) ho hsel k3 hf' (n + r.length) l _ hsh (Region.free_spec ho k1) hrd hsb (fun a ha => .inl ⟨hb a ha, hr' a ha⟩) (ih n _ _ (hsh.next hrd) hr hK hv)
  · exact h.elim
theorem drm (ms : List Nat) (L0 : List Ent) (fs : List Nat) (od : Od) (hT : TabOk C.P C.T) {id : Nat} {K : Exit → Sy → Prop} {s : Sy} (hm : C.P.follows .mixedOrders = true)
 (hok : (Region.noSelect ops && Nat.ble od.len (ops.size - ms.length) && Nat.ble ms.length ops.size && mxOk ops ms (Array.replicate ops.size false) && zA ops fs od (mxl ms (Array.replicate ops.size false))) = true) (hL : Sub L0 s.L) (h : mxs C ops ms (dx C ops L0 fs od (K .normal)) s) : qbu C id ops K s := by
 simp only [Bool.and_eq_true] at hok
 obtain ⟨⟨⟨⟨h1, h2⟩, h5⟩, h6⟩, h3⟩ := hok
 refine ⟨fun n a w hf hs => ?_⟩
 have hsh : Shut ops (Array.replicate ops.size false) := by
  intro j o ho hj
  have hlt : j < ops.size := (Array.getElem?_eq_some_iff.1 ho).1
  simp [hlt] at hj
 have h4 := mxs_ok (Q := QL C (K .normal)) hT h1 ms (ops.size - ms.length) (Array.replicate ops.size false) s hsh h6
  (fun s' hs' hk hsh' => dG_free _ _ _ (dx_ok (L0 := L0) (f := fs) hT h1 od (ops.size - ms.length) _ s' (by simpa using h2) hsh' h3 (.inl (by rw [hs']; exact hL)) hk)) h
 rw [Nat.sub_add_cancel (Nat.le_of_ble_eq_true h5)] at h4
 exact wpIn_region_any hm (dG_any (Q' := Qof C K) (fun a w hq => hq) _ _ _ h4 a _ hf hs.drew)
end
end Go.Sx
namespace Go.Proofs.YtbgefoamhdgnaaaGreatDoor
section
open Go.RowKit Go.Sx
theorem qaz (l : List Bool) : (boC l).length = l.length := by simp [boC]
theorem qbp (l : List Bool) (x : Bool) : boC (l ++ [x]) = boC l ++ [.bool x] := by simp [boC]
theorem rev_cell (xs : List Bool) (j : List Value) (i k : Nat) (h : k < xs.length) (h1 : i ≤ k) (h2 : k < xs.length - i) (q : Int) (hq : q = k) : (boC (qcN xs i) ++ j).toArray[nad 0 (nmu q.toNat 1)]? = some (.bool (xs.getD k false)) := by
 subst hq
 rw [qk, qj, Nat.zero_add, Nat.mul_one, Int.toNat_natCast, List.getElem?_toArray, List.getElem?_append_left (by rw [qaz, QP]; exact h)]
 unfold boC
 rw [List.getElem?_map, qaY _ _ _ h, if_neg (by omega)]; rfl
theorem bo_set (l : List Bool) (j : List Value) (k : Nat) (h : k < l.length) (v : Bool) (q : Int) (hq : q = k) : (boC l ++ j).toArray.setIfInBounds (nad 0 (nmu q.toNat 1)) (.bool v) = (boC (l.set k v) ++ j).toArray := by
 subst hq
 rw [qk, qj, Nat.zero_add, Nat.mul_one, Int.toNat_natCast, List.setIfInBounds_toArray, List.set_append_left _ _ (by rw [qaz]; exact h)]
 unfold boC
 rw [List.map_set]
theorem bo_lt (l : List Bool) (j : List Value) (k : Nat) (h : k < l.length) (q : Int) (hq : q = k) : nad 0 (nmu q.toNat 1) < (boC l ++ j).toArray.size := by
 subst hq
 rw [qk, qj, Nat.zero_add, Nat.mul_one, Int.toNat_natCast, List.size_toArray, List.length_append, qaz]; omega
theorem _root_.Go.Sx.Rw.same {z n : Nat} {r : Sx.Own} {xs ys : List Value} (h : Rw z n r xs) (hl : ys.length = xs.length) : Rw z n r ys := by
 refine ⟨hl.trans h.1, ?_⟩
 cases r with
 | none => exact h.2
 | some x => obtain ⟨h1, h2, h3⟩ := h.2; exact ⟨h1, h2, by rw [List.length_append, hl, ← List.length_append]; exact h3⟩
theorem qdJ {z n : Nat} {r : Sx.Own} {xs : List Value} (h : Rw z n r xs) : ∃ a c, sv r n = .slice a n c := by
 cases r with
 | none => have : n = 0 := h.2; subst this; exact ⟨none, 0, rfl⟩
 | some x => exact ⟨_, _, rfl⟩
theorem steps_any (m n : Nat) (hm : 1 ≤ m) (hmn : m ≤ n) (hn : n ≤ 1048576) (w : World) : Calls Tryz.prog 127 ([.int .i64 m, .int .i64 n] : List Value).toArray w fun e w' =>
 ∃ r, e = .returned (.tuple #[sv r (zP m n).1.length, .bool (zP m n).2]) ∧ Rw 1 (zP m n).1.length r (boC (zP m n).1.reverse) ∧ Zt w w' r (boC (zP m n).1.reverse) TTn ∧ Below w.heap.size w w' := by
 have hTl : (zP m n).1.length ≤ 1048576 := Nat.le_trans (stp_len n m n) hn
 obtain ⟨T, hT⟩ : ∃ T, T = (zP m n).1 := ⟨_, rfl⟩
 obtain ⟨A, hA⟩ : ∃ A, A = (zP m n).2 := ⟨_, rfl⟩
 rw [← hT, ← hA]
 rw [← hT] at hTl
 refine (enter qc Tryz.func127 rfl Tryz.ntmps127 rfl (St.start w) (R := fun v w' => ∃ r, v = .tuple #[sv r T.length, .bool A] ∧ Rw 1 T.length r (boC T.reverse) ∧ Zt w w' r (boC T.reverse) TTn ∧ Below w.heap.size w w') ?_).mono (fun e w' ⟨v, he, r, h1, h2⟩ => ⟨r, by rw [he, h1], h2⟩)
 refine lp qc (fun x : Nat × Nat × List Bool × Bool × Sx.Own => 1 ≤ x.1 ∧ x.1 ≤ x.2.1 ∧ x.2.1 ≤ 1048576 ∧ Rw 1 x.2.2.1.length x.2.2.2.2 (boC x.2.2.1) ∧ x.2.2.1 ++ (zP x.1 x.2.1).1 = T ∧ (x.2.2.2.1 && (zP x.1 x.2.1).2) = A)
  (fun x => ⟨[(0, .int .i64 x.1), (1, .int .i64 x.2.1), (4, sv x.2.2.2.2 x.2.2.1.length), (5, .bool x.2.2.2.1)], [se x.2.2.2.2 (boC x.2.2.1) TTn], []⟩) (fun x => x.2.1) (m, n, [], true, none)
  ⟨hm, hmn, hn, Rw.nil 1, by rw [hT]; rfl, by rw [hA]; rfl⟩ ⟨⟨rfl, rfl, rfl, rfl, trivial⟩, .pad .nil, rfl⟩ ?_
 rintro ⟨m', n', dn, av, r⟩ ⟨h1, h2, h3, hR, hd, ha⟩
 simp only at h1 h2 h3 hR hd ha
 have hdl : dn.length ≤ 1048576 := by rw [← hd] at hTl; simp only [List.length_append] at hTl; omega
 refine cd (fun hlt => ?_) (fun hge => ?_)
 · have hlt' : m' < n' := by (try simp only at hlt); omega
   obtain ⟨c1, c2, c3⟩ := qdi n' (by omega) h3
   refine cv (leafcut_any n' h3) ?_
   refine cd (fun hc => ?_) (fun hc => ?_)
   · have hc' : m' ≤ Qr n' := by (try simp only at hc); omega
     have hsp := stp_left m' n' h1 h3 hlt' hc'
     refine .mk #[.bool true] TTn (fun w => bsTn _ w) (fun bn => ?_)
     refine ap1 (r := r) (n := dn.length) (xs := boC dn) 0 1 qc rfl infoTn rfl rfl hR rfl rfl (by omega) (by unfold maxLen; omega) (fun r2 hr2 => ?_)
     rw [← qbp] at hr2
     refine ⟨(m', Qr n', dn ++ [true], av, r2), ⟨h1, hc', by (try simp only); omega, by simpa using hr2, by rw [hsp] at hd; simpa using hd, by rw [hsp] at ha; exact ha⟩, c2, ?_⟩
     simp only [qbp, List.length_append, List.length_cons, List.length_nil]
     exact ⟨⟨rfl, rfl, rfl, rfl, trivial⟩, .cons .nil, rfl⟩
   · have hc' : ¬ m' ≤ Qr n' := by (try simp only at hc); omega
     have hsp := stp_right m' n' h1 h3 hlt' hc'
     refine .mk #[.bool false] TTn (fun w => bsTn _ w) (fun bn => ?_)
     refine ap1 (r := r) (n := dn.length) (xs := boC dn) 0 1 qc rfl infoTn rfl rfl hR rfl rfl (by omega) (by unfold maxLen; omega) (fun r2 hr2 => ?_)
     refine .as ((m' - Qr n' : Nat) : Int) (by (try simp only); omega) (by simp only [mn]; omega) (by simp only [mx]; omega) ?_
     refine .as ((n' - Qr n' : Nat) : Int) (by (try simp only); omega) (by simp only [mn]; omega) (by simp only [mx]; omega) ?_
     rw [← qbp] at hr2
     refine ⟨(m' - Qr n', n' - Qr n', dn ++ [false], false, r2), ⟨by (try simp only); omega, by (try simp only); omega, by (try simp only); omega, by simpa using hr2, by rw [hsp] at hd; simpa using hd, by rw [hsp] at ha; simpa using ha⟩, by (try simp only); omega, ?_⟩
     simp only [qbp, List.length_append, List.length_cons, List.length_nil]
     exact ⟨⟨rfl, rfl, rfl, rfl, trivial⟩, .cons .nil, rfl⟩
 · have hge' : n' ≤ m' := by (try simp only at hge); omega
   rw [stp_end m' n' h1 hge'] at hd ha
   simp only [List.append_nil, Bool.and_true] at hd ha
   subst hd ha
   clear hT hA hge
   obtain ⟨sa, sc, hv⟩ := qdJ hR
   rw [hv]
   refine inl (C := ⟨Tryz.prog, tab, 32, [], w, none⟩) qc Tryz.func137 rfl Tryz.ntmps137 rfl ?_
   refine .as ((dn.length : Int) - 1 - (0 : Nat)) (by simp) (by simp only [mn]; omega) (by simp only [mx]; omega) ?_
   refine lp qc (fun i : Nat => i ≤ dn.length) (fun i => ⟨[(0, .slice sa dn.length sc), (2, .int .i64 i), (3, .int .i64 ((dn.length : Int) - 1 - i))], [se r (boC (qcN dn i)) TTn], []⟩) (fun i => dn.length - i) 0 (Nat.zero_le _) ⟨⟨rfl, rfl, rfl, trivial⟩, by rw [revI_zero]; exact .cons .nil, rfl⟩ ?_
   intro i hi
   refine cd (fun hlt => ?_) (fun hge => ?_)
   · have hlt' : i < dn.length - 1 - i := by (try simp only at hlt); omega
     rcases r with _ | ⟨b, c, jk⟩
     · have := hR.2; omega
     injection hv with hv1 hv2 hv3
     subst hv1
     have e1 : ((dn.length : Int) - 1 - i) = ((dn.length - 1 - i : Nat) : Int) := by omega
     refine drm [2, 3] [cl b (boC (qcN dn i) ++ jk).toArray TTn] [13, 14, 15] (.t 0 (.t 1 (.t 4 (.t 5 (.t 6 (.t 7 (.t 8 (.t 9 (.t 10 (.t 11 (.t 12 (.n 13 (.n 14 (.n 15 .nil)))))))))))))) qc qf (by kernel_rfl) (.cons .nil) ?_
     refine ⟨by omega, by omega, ?_⟩
     refine ld1 0 rfl (v := .bool (dn.getD (dn.length - 1 - i) false)) (rev_cell dn jk i _ (by omega) (by omega) (by omega) _ e1) ?_
     refine ⟨by omega, by omega, ?_⟩
     refine ld1 0 rfl (v := .bool (dn.getD i false)) (rev_cell dn jk i _ (by omega) (by omega) (by omega) _ rfl) ?_
     refine ⟨by omega, by omega, ?_⟩
     refine s1 0 rfl (bo_lt _ jk i (by rw [QP]; omega) _ rfl) ?_
     refine ⟨by omega, by omega, ?_⟩
     rw [bo_set _ jk i (by rw [QP]; omega) _ _ rfl]
     refine s1 0 rfl (bo_lt _ jk (dn.length - 1 - i) (by rw [List.length_set, QP]; omega) _ e1) ?_
     rw [bo_set _ jk (dn.length - 1 - i) (by rw [List.length_set, QP]; omega) _ _ e1, revI_step dn i hlt']
     refine .as ((i + 1 : Nat) : Int) (by simp) (by simp only [mn]; omega) (by simp only [mx]; omega) ?_
     refine .as ((dn.length : Int) - 1 - (i + 1 : Nat)) (by omega) (by simp only [mn]; omega) (by simp only [mx]; omega) ?_
     exact ⟨i + 1, by omega, by (try simp only); omega, ⟨⟨rfl, rfl, rfl, trivial⟩, .cons .nil, rfl⟩⟩
   · have hge' : dn.length ≤ 2 * i + 1 := by (try simp only at hge); omega
     rw [revI_end dn i hge' hi]
     refine bk ?_
     exact ⟨fun w1 hs => ⟨r, by (try rw [hv]); rfl, hR.same (by rw [qaz, qaz, List.length_reverse]), Zf hs rfl 0 rfl, hs.below⟩⟩
end
end Go.Proofs.YtbgefoamhdgnaaaGreatDoor
namespace Go.Sx
section
open Go Go.RowKit
def takeS : Nat → Code → Code
 | 0, _ => .skip
 | k + 1, .seq a b => .seq a (takeS k b)
 | _ + 1, _ => .skip
def dropS : Nat → Code → Code
 | 0, c => c
 | k + 1, .seq _ b => dropS k b
 | _ + 1, c => c
def cutK {α : Type} (J : α → Prop) (f : α → Sy) (K : Exit → Sy → Prop) : Exit → Sy → Prop := fun e s => match e with
 | .normal => ∃ x, J x ∧ Le (f x) s
 | e => K e s
theorem cutS {C : Cx} (hT : TabOk C.P C.T) {α : Type} (J : α → Prop) (f : α → Sy) {K : Exit → Sy → Prop} : ∀ (k : Nat) {c : Code} {s : Sy}, cx C (takeS k c) (cutK J f K) s → (∀ x, J x → CodeP C (dropS k c) K (f x)) → CodeP C c K s := by
 have base : ∀ {c : Code} {s : Sy}, (∃ x, J x ∧ Le (f x) s) → (∀ x, J x → CodeP C c K (f x)) → CodeP C c K s := fun {c s} ⟨x, hx, hl⟩ h => ⟨fun n a w hf hs => (h x hx).go n a w (Fits.le hf hl) (hs.sub hl.l)⟩
 intro k
 induction k with
 | zero => exact fun {c s} h1 h2 => base h1 h2
 | succ k ih =>
  intro c s h1 h2
  cases c with
  | seq a b =>
   refine ⟨fun n a' w hf hs => wpIn_seq (wpIn_mono ((Zh hT a _ s h1).go n a' w hf hs) ?_)⟩
   rintro e a1 w1 ⟨s', hf', hs', hk⟩
   cases e with
   | normal => exact (ih hk h2).go n a1 w1 hf' hs'
   | _ => exact ⟨s', hf', hs', hk⟩
  | _ => exact base h1 h2
theorem enterP {P : Program} {T : Tab} (hT : TabOk P T) {g : FuncId} {fn : Func} {c : Code} (hf : P.funcs[g]? = some fn) (hb : fn.body = some c) {N : Nat} (hN : fn.ntmps = N) {vs : List Value} (hle : Nat.ble vs.length N = true) {M : Bks} {w : World} {L : List Ent}
 {R : Value → World → Prop} (hs : St M w w L) (h : CodeP ⟨P, T, N, M, w, none⟩ c (retK ⟨P, T, N, M, w, none⟩ fn R) ⟨par 0 vs, L, []⟩) : Calls P g vs.toArray w fun e w' => ∃ v, e = .returned v ∧ R v w' := by
 subst hN
 refine (callsIn_wide (n := 3)).1 (callsIn_of_wp_marks hf hb trivial (wpIn_mono (h.go 3 _ w ⟨by have := Nat.le_of_ble_eq_true hle; simp; omega, rfl, ?_⟩ hs) ?_) rfl)
 · intro i v hv
   obtain ⟨_, h1⟩ := par_get _ _ _ _ hv
   have hi : i < vs.length := (List.getElem?_eq_some_iff.1 h1).1
   simp [Array.getD_eq_getD_getElem?, Array.getElem?_append, hi]
   simpa [hi] using h1
 · rintro e a w' ⟨s, hf', hs', hk⟩
   have hd := hf'.defers
   cases e with
   | normal => simp only [bodyPostM, hd]; exact qar (C := ⟨P, T, fn.ntmps, M, w, none⟩) hT hf'.slot s.D s.L w' hs' hk
   | ret => simp only [bodyPostM, hd]; exact qar (C := ⟨P, T, fn.ntmps, M, w, none⟩) hT hf'.slot s.D s.L w' hs' hk
   | _ => exact hk.elim
end
end Go.Sx
namespace Go.Proofs.YtbgefoamhdgnaaaGreatDoor
section
open Go.RowKit Go.Sx
def RdS (w : World) (v : Value) (ps : List Bs) : Prop := (∀ p ∈ ps, p.length = 32) ∧ ∃ a c, v = .slice a ps.length c ∧ ps.length ≤ c ∧ (ps ≠ [] → ∃ b o, a = some ⟨b, o, none⟩ ∧ b < w.heap.size ∧ ∀ i p, ps[i]? = some p → w.rangeAt b (o + 32 * i) (Lib.byteCells p))
theorem RdS.below {w w' : World} {v : Value} {ps : List Bs} (h : RdS w v ps) (hb : Below w.heap.size w w') : RdS w' v ps := by
 obtain ⟨h1, a, c, h2, h3, h4⟩ := h
 refine ⟨h1, a, c, h2, h3, fun hn => ?_⟩
 obtain ⟨b, o, e, hl, hr⟩ := h4 hn
 exact ⟨b, o, e, Nat.lt_of_lt_of_le hl hb.size, fun i p hp j u hu => (hb.cell (p := ⟨b, _, none⟩) hl).trans (hr i p hp j u hu)⟩
def rdS (a : Option Addr) (c : Nat) (ps : List Bs) : Res where
 w := fun _ => False
 r := fun k => ps ≠ [] ∧ ∃ o, a = some ⟨k, o, none⟩
 p := fun w => RdS w (.slice a ps.length c) ps
 st := fun u v h hp => by
  obtain ⟨h1, a', c', h2, h3, h4⟩ := hp
  refine ⟨h1, a', c', h2, h3, fun hne => ?_⟩
  obtain ⟨b, o, e1, hl, hr⟩ := h4 hne
  injection h2 with e2 _ _
  have hb := h b (.inr ⟨hne, o, by rw [e2, e1]⟩)
  refine ⟨b, o, e1, ?_, fun i p hp j x hx => ?_⟩
  · rw [Array.getElem?_eq_getElem hl] at hb
    exact (Array.getElem?_eq_some_iff.1 hb).1
  · rw [← hr i p hp j x hx]; simp only [World.cell?, hb]
 bd := fun u h k hk => by
  rcases hk with hk | ⟨hne, o, hk⟩
  · exact hk.elim
  · obtain ⟨h1, a', c', h2, h3, h4⟩ := h
    obtain ⟨b, o2, e1, hl, _⟩ := h4 hne
    injection h2 with e2 _ _
    rw [hk, e1] at e2
    injection e2 with e2
    injection e2 with e2 _
    rw [e2]; exact hl
theorem St.rdS {a : Option Addr} {c : Nat} {ps : List Bs} {w : World} (h : RdS w (.slice a ps.length c) ps) : St [] w w [rs (Go.Proofs.YtbgefoamhdgnaaaGreatDoor.rdS a c ps)] := St.reads fun e he => by
 obtain rfl : e = rs (Go.Proofs.YtbgefoamhdgnaaaGreatDoor.rdS a c ps) := by simpa using he
 exact ⟨(qcG _ w).2 h, fun k hk => (rsW _ k).1 hk⟩
theorem RdS.tail {w : World} {b o n c : Nat} {p : Bs} {ps : List Bs} (h : RdS w (.slice (some ⟨b, o, none⟩) n c) (p :: ps)) (a' : Option Addr) (c' : Nat) (ha : ps ≠ [] → a' = some ⟨b, o + 32, none⟩) (hc : ps.length ≤ c') : RdS w (.slice a' ps.length c') ps := by
 obtain ⟨h1, a2, c2, h2, h3, h4⟩ := h
 refine ⟨fun q hq => h1 q (by simp [hq]), a', c', rfl, hc, fun hne => ?_⟩
 obtain ⟨b2, o2, e1, hl, hr⟩ := h4 (by simp)
 injection h2 with e2 _ _
 rw [e1] at e2
 injection e2 with e2
 injection e2 with e2 e3
 subst e2 e3
 refine ⟨b, o + 32, ha hne, hl, fun i q hq => ?_⟩
 have := hr (i + 1) q (by simpa using hq)
 rwa [show o + 32 * (i + 1) = o + 32 + 32 * i by omega] at this
def foldT : List Bool → List Bs → Bs × Bs → Bs × Bs
 | t :: ts, p :: ps, x => foldT ts ps (if t then (x.1, zX x.2 p) else (zX p x.1, zX p x.2))
 | _, _, x => x
def extE (T : List Bool) (old new f : Bs) (rs : List Bs) : Bool := if rs.length = T.length then decide ((foldT T.reverse rs (f, f)).1 = old) && decide ((foldT T.reverse rs (f, f)).2 = new) else false
def extB (m n : Int) (old new : Bs) (ps : List Bs) : Bool :=
 if n < 1 ∨ 1048576 < n ∨ m < 1 ∨ n < m then false
 else if (zP m.toNat n.toNat).2 then extE (zP m.toNat n.toNat).1 old new old ps
 else match ps with
  | [] => false
  | p :: r => extE (zP m.toNat n.toNat).1 old new p r
end
section
open Go.RowKit Go.Sx
def AuS.takeB (S : AuS) (h : Hd) (n r : Nat) (g : Bool) : Nat :=
 if r ≠ 0 then r else match S.last with
 | none => if 0 < n then 13 else 0
 | some l => if h.size < l.size ∨ h.time < l.time then 2 else if g = false then 13 else 0
def AuS.put (S : AuS) (h : Hd) (b : Nat) : AuS := { S with last := some h, bh := b, fs := zC h.size (Qn h.root) S.clk S.fs, clk := clkS h.size S.fs S.clk }
theorem modify_same {α β : Type} (g : α → β) (f : α → α) (h : ∀ x, g (f x) = g x) (l : List α) (i : Nat) : (l.modify i f).map g = l.map g := by
 induction l generalizing i with
 | nil => simp
 | cons x l ih => cases i <;> simp [h, ih]
theorem modify_mem {α : Type} (f : α → α) (l : List α) (i : Nat) {y : α} (h : y ∈ l.modify i f) : ∃ x ∈ l, y = x ∨ y = f x := by
 obtain ⟨j, hj⟩ := List.mem_iff_getElem?.1 h
 rw [List.getElem?_modify] at hj
 split at hj
 · cases hl : l[j]? with
   | none => rw [hl] at hj; cases hj
   | some x => rw [hl] at hj; injection hj with hj; exact ⟨x, List.mem_of_getElem? hl, .inr hj.symm⟩
 · cases hl : l[j]? with
   | none => rw [hl] at hj; cases hj
   | some x => rw [hl] at hj; injection hj with hj; exact ⟨x, List.mem_of_getElem? hl, .inl hj.symm⟩
theorem set_es (k : Int) (v : Value) (clk : Nat) (fs : Es Int) (hn : (fs.map (·.2.2)).Nodup) (hl : ∀ e ∈ fs, e.2.2 < clk) :
 ((zC k v clk fs).map (·.2.2)).Nodup ∧ ∀ e ∈ zC k v clk fs, e.2.2 < clkS k fs clk ∧ (e ∈ fs ∨ e.2.1 = v) := by
 unfold clkS ZY
 cases h : q9 k fs 0 with
 | none =>
  rw [set_new h]
  refine ⟨?_, fun e he => ?_⟩
  · rw [List.map_append, List.nodup_append]
    refine ⟨hn, by simp, fun a ha b hb e => ?_⟩
    obtain ⟨x, hx, rfl⟩ := List.mem_map.1 ha
    have := hl x hx
    simp at hb
    omega
  · simp only [Option.map_none, Option.isSome_none, Bool.false_eq_true, if_false]
    rcases List.mem_append.1 he with he | he
    · exact ⟨Nat.lt_succ_of_lt (hl e he), .inl he⟩
    · obtain rfl : e = (k, v, clk) := by simpa using he
      exact ⟨Nat.lt_succ_self _, .inr rfl⟩
 | some p =>
  obtain ⟨i, u⟩ := p
  rw [set_found h]
  refine ⟨?_, fun e he => ?_⟩
  · rw [modify_same (fun e : Int × Value × Nat => e.2.2) (fun e => (k, v, e.2.2)) (fun x => rfl)]; exact hn
  · simp only [Option.map_some, Option.isSome_some, if_true]
    obtain ⟨x, hx, h1 | h1⟩ := modify_mem _ _ _ he
    · subst h1; exact ⟨hl _ hx, .inl hx⟩
    · subst h1; exact ⟨hl x hx, .inr rfl⟩
theorem qdI (k : Int) (v : Value) (clk : Nat) (fs : Es Int) : (zC k v clk fs).map (·.1) = if k ∈ fs.map (·.1) then fs.map (·.1) else fs.map (·.1) ++ [k] := by
 induction fs with
 | nil => rfl
 | cons e l ih =>
  unfold zC
  by_cases hk : k = e.1
  · rw [if_pos hk]; simp [hk]
  · rw [if_neg hk, List.map_cons, ih]
    by_cases hm : k ∈ l.map (·.1)
    · rw [if_pos hm, if_pos (by rw [List.map_cons]; exact List.mem_cons_of_mem _ hm), List.map_cons]
    · rw [if_neg hm, if_neg (by rw [List.map_cons, List.mem_cons]; exact fun h => h.elim hk hm), List.map_cons, List.cons_append]
theorem last_top {l : List Int} {m : Int} (hp : l.Pairwise (· < ·)) (hl : l.getLast? = some m) : ∀ k ∈ l, k ≤ m := by
 obtain ⟨i, rfl⟩ := List.getLast?_eq_some_iff.1 hl
 intro k hk
 rcases List.mem_append.1 hk with h | h
 · exact Int.le_of_lt ((List.pairwise_append.1 hp).2.2 k h m (by simp))
 · simp at h; omega
theorem put_keys {S : AuS} {u : World} {x : Hd} (h : AuP S u) (hz : 0 ≤ x.size ∧ x.size ≤ 1048576) (hge : ∀ l, S.last = some l → l.size ≤ x.size) (v : Value) :
 (∀ k ∈ (zC x.size v S.clk S.fs).map (·.1), 0 ≤ k ∧ k ≤ 1048576) ∧ ((zC x.size v S.clk S.fs).map (·.1)).Pairwise (· < ·) ∧ ((zC x.size v S.clk S.fs).map (·.1)).getLast? = some x.size := by
 rw [qdI]
 cases hl : S.last with
 | none => rw [h.k0 hl]; simp; omega
 | some l =>
  have ht := last_top h.ks (h.kl l hl)
  have hg := hge l hl
  by_cases hm : x.size ∈ S.fs.map (·.1)
  · rw [if_pos hm]
    have := ht _ hm
    exact ⟨h.kb, h.ks, by rw [h.kl l hl]; congr 1; omega⟩
  · rw [if_neg hm]
    refine ⟨fun k hk => ?_, ?_, by simp⟩
    · rcases List.mem_append.1 hk with h1 | h1
      · exact h.kb k h1
      · simp at h1; omega
    · rw [List.pairwise_append]
      refine ⟨h.ks, by simp, fun a ha b hb => ?_⟩
      have h1 := ht a ha
      have : a ≠ x.size := fun e => hm (e ▸ ha)
      simp at hb; omega
theorem au_rw {S : AuS} {w : World} (h : AuP S w) {v : Value} (hv : S.lastV = v) : St [bl S.bA, bl S.bm] w w [cl S.bA (auC S.p S.o v (.map (some S.bm))) TAu, me S.bm keI S.fs S.clk] := by
 subst hv
 exact St.from w _ _ (fun e he => by
  simp only [List.mem_cons, List.not_mem_nil, or_false] at he
  rcases he with rfl | rfl
  · exact ⟨by simpa using h.a, fun k hk => by simp at hk; simp [bl, hk]⟩
  · exact ⟨by simpa using h.m, fun k hk => by simp at hk; simp [bl, hk]⟩) (by
    refine .cons (fun y hy => ?_) (by simp)
    obtain rfl : y = me S.bm keI S.fs S.clk := by simpa using hy
    have := h.ne
    exact fun k => ⟨fun h1 h2 => by simp at h1 h2; omega, fun h1 h2 => by simp at h1 h2; omega⟩)
theorem zF {S : AuS} {x : Hd} (hx : S.last = some x) : S.lastV = ptr S.bh := by unfold AuS.lastV; rw [hx]
theorem qbc {S : AuS} (hx : S.last = none) : S.lastV = .pointer none := by unfold AuS.lastV; rw [hx]
theorem au_rwH {S : AuS} {w : World} (h : AuP S w) (x : Hd) (hx : S.last = some x) : St [bl S.bA, bl S.bm] w w [cl S.bA (auC S.p S.o (ptr S.bh) (.map (some S.bm))) TAu, me S.bm keI S.fs S.clk, cr S.bh (hdC x) THd] :=
 St.from w _ _ (fun e he => by
  simp only [List.mem_cons, List.not_mem_nil, or_false] at he
  rcases he with rfl | rfl | rfl
  · have := h.a
    unfold AuS.lastV at this
    rw [hx] at this
    exact ⟨by simpa using this, fun k hk => by simp at hk; simp [bl, hk]⟩
  · exact ⟨by simpa using h.m, fun k hk => by simp at hk; simp [bl, hk]⟩
  · exact ⟨by simpa using h.h x hx, fun k hk => by simp at hk⟩) (by
    have h1 := h.ne
    obtain ⟨h2, h3⟩ := h.nh (by rw [hx]; simp)
    refine .cons (fun y hy => ?_) (.cons (fun y hy => ?_) (by simp))
    · simp only [List.mem_cons, List.not_mem_nil, or_false] at hy
      rcases hy with rfl | rfl
      · exact fun k => ⟨fun h1 h2 => by simp at h1 h2; omega, fun h1 h2 => by simp at h1 h2; omega⟩
      · exact fun k => ⟨fun h1 h2 => by simp at h1 h2; omega, fun h1 h2 => by simp at h1⟩
    · obtain rfl : y = cr S.bh (hdC x) THd := by simpa using hy
      exact fun k => ⟨fun h1 h2 => by simp at h1 h2; omega, fun h1 h2 => by simp at h1⟩)
theorem QR {S : AuS} {w w' : World} {L : List Ent} (h : AuP S w) {v : Value} (hv : S.lastV = v) (hs : St [bl S.bA, bl S.bm] w w' L) (h0 : L[0]? = some (cl S.bA (auC S.p S.o v (.map (some S.bm))) TAu)) (h1 : L[1]? = some (me S.bm keI S.fs S.clk)) : Below w.heap.size w w' := by
 subst hv
 refine ⟨hs.os, hs.tape, hs.output, hs.size, fun k hk => ?_⟩
 by_cases ha : k = S.bA
 · subst ha; rw [hs.nth h0, h.a]
 · by_cases hb : k = S.bm
   · subst hb; rw [hs.nth h1, h.m]
   · exact hs.old k hk (by simp [bl, ha, hb])
theorem qbt {S : AuS} {w w' : World} {L : List Ent} (h : AuP S w) {v : Value} (hv : S.lastV = v) (hs : St [bl S.bA, bl S.bm] w w' L) (h0 : L[0]? = some (cl S.bA (auC S.p S.o v (.map (some S.bm))) TAu)) (h1 : L[1]? = some (me S.bm keI S.fs S.clk)) : Turns w w' (auR S) (auR S) :=
 Turns.of_below (r := auR S) h (QR h hv hs h0 h1)
theorem au_put {S : AuS} {w w' : World} {L : List Ent} {x : Hd} {b j : Nat} (h : AuP S w) (hx : zK x) (hz : 0 ≤ x.size ∧ x.size ≤ 1048576) (hge : ∀ l, S.last = some l → l.size ≤ x.size) (hs : St [bl S.bA, bl S.bm] w w' L) (h0 : L[0]? = some (cl S.bA (auC S.p S.o (ptr b) (.map (some S.bm))) TAu)) (h1 : L[1]? = some (me S.bm keI (zC x.size (Qn x.root) S.clk S.fs) (clkS x.size S.fs S.clk)))
 (h2 : L[j]? = some (cl b (hdC x) THd)) (hj : 2 ≤ j) : Turns w w' (auR S) (auR (S.put x b)) := by
 obtain ⟨k1, k2, k3⟩ := put_keys h hz hge (Qn x.root)
 obtain ⟨e1, e2⟩ := set_es x.size (Qn x.root) S.clk S.fs h.nb h.lt
 have hb : w.heap.size ≤ b := by
  rcases hs.own _ (List.mem_of_getElem? h2) rfl rfl with hh | hh
  · exact hh
  · have l0 := (Array.getElem?_eq_some_iff.1 h.a).1
    have l1 := (Array.getElem?_eq_some_iff.1 h.m).1
    have p0 := Qu hs.apart h0 h2 (by omega)
    have p1 := Qu hs.apart h1 h2 (by omega)
    simp only [qbf, qci, bl, or_false] at hh
    rcases hh with hh | hh
    · exact absurd (by simp [hh]) ((p0 b).2 (by simp))
    · exact absurd (by simp [hh]) ((p1 b).2 (by simp))
 have l0 := (Array.getElem?_eq_some_iff.1 h.a).1
 have l1 := (Array.getElem?_eq_some_iff.1 h.m).1
 refine Turns.of_st hs (fun k hk => ?_) ⟨hs.nth h0, hs.nth h1, fun y hy => ?_, h.ne, fun _ => ⟨?_, ?_⟩, e1, fun e he => (e2 e he).1, fun y hy => ?_, fun e he => ?_, k1, k2, fun y hy => ?_, fun hy => ?_⟩ (fun k hk => ?_) (fun k hk => ?_)
 · simp only [qbf, qci, bl, or_false] at hk
   rcases hk with hk | hk
   · exact .inl hk
   · exact .inr (.inl hk)
 · obtain rfl : x = y := Option.some.inj hy
   exact hs.nth h2
 · show b ≠ S.bA; omega
 · show b ≠ S.bm; omega
 · obtain rfl : x = y := Option.some.inj hy
   exact hx
 · rcases (e2 e he).2 with h3 | h3
   · exact h.v e h3
   · exact ⟨x.root, hx.1, h3⟩
 · obtain rfl : x = y := Option.some.inj hy
   exact k3
 · cases hy
 · rcases hk with rfl | rfl | ⟨_, rfl⟩
   · exact .inl (.inl rfl)
   · exact .inl (.inr (.inl rfl))
   · exact .inr hb
 · rcases hk with (rfl | rfl | ⟨_, rfl⟩) | hk
   · exact .inl (.inl (.inl rfl))
   · exact .inl (.inl (.inr (.inl rfl)))
   · exact .inr hb
   · exact hk.elim
theorem ZU (p : Nat) (o : Bs) (l m : Value) : (auC p o l m).extract 0 (0 + 32) = k32 p := by
 have hl : (k32 p).toList.length = 32 := by simpa using qe p
 unfold auC
 rw [List.extract_toArray, List.extract_eq_take_drop, List.drop_zero, List.take_left' (by rw [hl])]
theorem zf (h : Hd) (hr : h.root.length = 32) : (hdC h).extract 3 (3 + 32) = (Lib.byteCells h.root).toArray := by
 unfold hdC
 rw [List.extract_toArray, List.extract_eq_take_drop]
 show (List.take 32 (Lib.byteCells h.root ++ Lib.byteCells h.sig)).toArray = _
 rw [List.take_left' (by simp [Lib.byteCells_length, hr])]
abbrev Zs (S : AuS) (h : Hd) (r : Nat) (w : World) : Prop := ∀ w', Below w.heap.size w w' → Calls Tryz.prog 47 ([.agg (hdC h), .agg (k32 S.p), VS S.o] : List Value).toArray w' fun e w'' => e = .returned (Zo r) ∧ Below w'.heap.size w' w''
abbrev GrowsC (l h : Hd) (ps : Value) (g : Bool) (w : World) : Prop := ∀ w', Below w.heap.size w w' → Calls Tryz.prog 48 ([.int .i64 l.size, Qn l.root, .int .i64 h.size, Qn h.root, ps] : List Value).toArray w' fun e w'' => e = .returned (.bool g) ∧ Below w'.heap.size w' w''
theorem auC_set (p : Nat) (o : Bs) (l l' m : Value) : (auC p o l m).setIfInBounds 33 l' = auC p o l' m := by
 have hl : (k32 p).toList.length = 32 := by simpa using qe p
 apply Array.ext'
 unfold auC
 simp only [Array.toList_setIfInBounds]
 rw [List.set_append_right _ _ (by omega), hl]
 rfl
theorem take_bad (S : AuS) (x : Hd) (a : Option Addr) (n c r : Nat) (hx : zK x) (w : World) (h : AuP S w) (hR : Zs S x r w) (hr : r ≠ 0) :
 Calls Tryz.prog 15 ([ptr S.bA, .agg (hdC x), .slice a n c] : List Value).toArray w fun e w' => e = .returned (Zo r) ∧ Turns w w' (auR S) (auR S) := by
 have hsz := qH x hx.1 hx.2
 have ha := Za S.p S.o S.lastV (.map (some S.bm))
 refine (enter qc Tryz.func15 rfl Tryz.ntmps15 rfl (au_rw h rfl) (R := fun v w' => v = Zo r ∧ Turns w w' (auR S) (auR S)) ?_).mono (fun e w' ⟨v, he, h1⟩ => ⟨by rw [he, h1.1], h1.2⟩)
 intro b4
 refine cf rfl ?_
 refine dr [cl S.bA (auC S.p S.o S.lastV (.map (some S.bm))) TAu, me S.bm keI S.fs S.clk, cl b4 (hdC x) THd] 99 (.t 0 (.t 1 (.t 2 (.t 3 (.t 4 (.t 5 (.t 6 (.t 7 (.t 8 (.n 9 (.t 10 .nil))))))))))) qc qf (by kernel_rfl) (.cons (.cons (.cons .nil))) ?_
 refine ldN 2 rfl hsz ?_
 refine ldP 0 (d := k32 S.p) rfl (qe _) (ZU _ _ _ _) ?_
 refine ld1 0 rfl (by exact ha.1) ?_
 refine cvs (fun w' hs => hR w' (QR h rfl hs rfl rfl)) ?_
 refine ⟨.cons (.cons (.cons .nil)), ?_⟩
 rw [errVs r hr]
 refine ct rfl ?_
 exact ⟨fun w1 hs => ⟨rfl, qbt h rfl hs rfl rfl⟩⟩
theorem take_first (S : AuS) (x : Hd) (a : Option Addr) (n c r : Nat) (hl : S.last = none) (hx : zK x) (w : World) (h : AuP S w) (hR : Zs S x r w) (hr : r = 0) (hn : 0 < n) :
 Calls Tryz.prog 15 ([ptr S.bA, .agg (hdC x), .slice a n c] : List Value).toArray w fun e w' => e = .returned (Zo 13) ∧ Turns w w' (auR S) (auR S) := by
 have hsz := qH x hx.1 hx.2
 have ha := Za S.p S.o (.pointer none) (.map (some S.bm))
 refine (enter qc Tryz.func15 rfl Tryz.ntmps15 rfl (au_rw h (qbc hl)) (R := fun v w' => v = Zo 13 ∧ Turns w w' (auR S) (auR S)) ?_).mono (fun e w' ⟨v, he, h1⟩ => ⟨by rw [he, h1.1], h1.2⟩)
 intro b4
 refine cf rfl ?_
 refine dr [cl S.bA (auC S.p S.o (.pointer none) (.map (some S.bm))) TAu, me S.bm keI S.fs S.clk, cl b4 (hdC x) THd] 99 (.t 0 (.t 1 (.t 2 (.t 3 (.t 4 (.t 5 (.t 6 (.t 7 (.t 8 (.n 9 (.t 10 .nil))))))))))) qc qf (by kernel_rfl) (.cons (.cons (.cons .nil))) ?_
 refine ldN 2 rfl hsz ?_
 refine ldP 0 (d := k32 S.p) rfl (qe _) (ZU _ _ _ _) ?_
 refine ld1 0 rfl (by exact ha.1) ?_
 refine cvs (fun w' hs => hR w' (QR h (qbc hl) hs rfl rfl)) ?_
 refine ⟨.cons (.cons (.cons .nil)), ?_⟩
 subst hr
 refine cf rfl ?_
 refine ld1 0 rfl (by exact ha.2.1) ?_
 iterate 4 refine ct rfl ?_
 refine ct (decide_eq_true (by omega)) ?_
 exact ⟨fun w1 hs => ⟨rfl, qbt h (qbc hl) hs rfl rfl⟩⟩
theorem take_one (S : AuS) (x : Hd) (a : Option Addr) (n c r : Nat) (hl : S.last = none) (hx : zK x) (w : World) (h : AuP S w) (hR : Zs S x r w) (hr : r = 0) (hn : n = 0) (hz : 0 ≤ x.size ∧ x.size ≤ 1048576) :
 Calls Tryz.prog 15 ([ptr S.bA, .agg (hdC x), .slice a n c] : List Value).toArray w fun e w' => e = .returned .nilIface ∧ ∃ b, Turns w w' (auR S) (auR (S.put x b)) := by
 have hsz := qH x hx.1 hx.2
 have ha := Za S.p S.o (.pointer none) (.map (some S.bm))
 refine (enter qc Tryz.func15 rfl Tryz.ntmps15 rfl (au_rw h (qbc hl)) (R := fun v w' => v = .nilIface ∧ ∃ b, Turns w w' (auR S) (auR (S.put x b))) ?_).mono (fun e w' ⟨v, he, h1⟩ => ⟨by rw [he, h1.1], h1.2⟩)
 intro b4
 refine cf rfl ?_
 refine dr [cl S.bA (auC S.p S.o (.pointer none) (.map (some S.bm))) TAu, me S.bm keI S.fs S.clk, cl b4 (hdC x) THd] 99 (.t 0 (.t 1 (.t 2 (.t 3 (.t 4 (.t 5 (.t 6 (.t 7 (.t 8 (.n 9 (.t 10 .nil))))))))))) qc qf (by kernel_rfl) (.cons (.cons (.cons .nil))) ?_
 refine ldN 2 rfl hsz ?_
 refine ldP 0 (d := k32 S.p) rfl (qe _) (ZU _ _ _ _) ?_
 refine ld1 0 rfl (by exact ha.1) ?_
 refine cvs (fun w' hs => hR w' (QR h (qbc hl) hs rfl rfl)) ?_
 refine ⟨.cons (.cons (.cons .nil)), ?_⟩
 have hge : ∀ l, S.last = some l → l.size ≤ x.size := fun l hl' => by rw [hl] at hl'; cases hl'
 subst hn
 subst hr
 refine cf rfl ?_
 refine ld1 0 rfl (by exact ha.2.1) ?_
 iterate 4 refine ct rfl ?_
 refine cf rfl ?_
 refine ct rfl ?_
 refine drs [cl S.bA (auC S.p S.o (.pointer none) (.map (some S.bm))) TAu, me S.bm keI S.fs S.clk, cl b4 (hdC x) THd] [11, 12, 13, 14] (.t 0 (.t 1 (.t 2 (.t 3 (.t 4 (.t 5 (.t 6 (.t 7 (.t 8 (.t 9 (.t 10 (.n 11 (.n 12 (.n 13 (.n 14 .nil))))))))))))))) qc qf (by kernel_rfl) (.cons (.cons (.cons .nil))) ?_
 refine ld1 0 rfl (by exact ha.2.2) ?_
 refine ld1 2 rfl rfl ?_
 refine ldP 2 (d := (Lib.byteCells x.root).toArray) rfl (by simp [Lib.byteCells_length, hx.1]) (zf x hx.1) ?_
 refine s1e 0 (auC S.p S.o (ptr b4) (.map (some S.bm))) rfl (by rw [auC_size]; decide) (auC_set _ _ _ _ _) ?_
 refine men (ke := keI) 1 rfl undMp keyI zSum ?_
 refine est (ke := keI) 1 rfl rfl h.nb h.lt ?_
 exact ⟨fun w1 hs => ⟨rfl, b4, au_put (j := 2) h hx hz hge hs rfl rfl rfl (by decide)⟩⟩
theorem take_size (S : AuS) (x : Hd) (a : Option Addr) (n c r : Nat) (l : Hd) (hl : S.last = some l) (hx : zK x) (w : World) (h : AuP S w) (hR : Zs S x r w) (hr : r = 0) (h1 : x.size < l.size) :
 Calls Tryz.prog 15 ([ptr S.bA, .agg (hdC x), .slice a n c] : List Value).toArray w fun e w' => e = .returned (Zo 2) ∧ Turns w w' (auR S) (auR S) := by
 have hsz := qH x hx.1 hx.2
 have ha := Za S.p S.o (ptr S.bh) (.map (some S.bm))
 have lsz := qH l (h.hk l hl).1 (h.hk l hl).2
 refine (enter qc Tryz.func15 rfl Tryz.ntmps15 rfl (au_rwH h l hl) (R := fun v w' => v = Zo 2 ∧ Turns w w' (auR S) (auR S)) ?_).mono (fun e w' ⟨v, he, h1⟩ => ⟨by rw [he, h1.1], h1.2⟩)
 intro b4
 refine cf rfl ?_
 refine dr [cl S.bA (auC S.p S.o (ptr S.bh) (.map (some S.bm))) TAu, me S.bm keI S.fs S.clk, cr S.bh (hdC l) THd, cl b4 (hdC x) THd] 99 (.t 0 (.t 1 (.t 2 (.t 3 (.t 4 (.t 5 (.t 6 (.t 7 (.t 8 (.n 9 (.t 10 .nil))))))))))) qc qf (by kernel_rfl) (.cons (.cons (.cons (.cons .nil)))) ?_
 refine ldN 3 rfl hsz ?_
 refine ldP 0 (d := k32 S.p) rfl (qe _) (ZU _ _ _ _) ?_
 refine ld1 0 rfl (by exact ha.1) ?_
 refine cvs (fun w' hs => hR w' (QR h (zF hl) hs rfl rfl)) ?_
 refine ⟨.cons (.cons (.cons (.cons .nil))), ?_⟩
 subst hr
 refine cf rfl ?_
 refine ld1 0 rfl (by exact ha.2.1) ?_
 iterate 6 refine cf rfl ?_
 refine dr [cl S.bA (auC S.p S.o (ptr S.bh) (.map (some S.bm))) TAu, me S.bm keI S.fs S.clk, cr S.bh (hdC l) THd, cl b4 (hdC x) THd] 99 (.t 0 (.t 1 (.t 2 (.t 3 (.t 4 (.t 5 (.t 6 (.t 7 (.t 8 (.t 9 (.t 10 (.t 11 (.t 12 (.t 13 (.t 14 (.t 15 (.t 16 .nil))))))))))))))))) qc qf (by kernel_rfl) (.cons (.cons (.cons (.cons .nil)))) ?_
 refine ld1 3 rfl rfl ?_
 refine ld1 2 rfl rfl ?_
 have g1 := decide_eq_true h1
 have g1' : (decide (x.size < l.size) == false) = false := by rw [g1]; rfl
 iterate 7 refine cf g1' ?_
 refine ct g1 ?_
 refine ct rfl ?_
 exact ⟨fun w1 hs => ⟨rfl, qbt h (zF hl) hs rfl rfl⟩⟩
theorem take_time (S : AuS) (x : Hd) (a : Option Addr) (n c r : Nat) (l : Hd) (hl : S.last = some l) (hx : zK x) (w : World) (h : AuP S w) (hR : Zs S x r w) (hr : r = 0) (h1 : l.size ≤ x.size) (h2 : x.time < l.time) :
 Calls Tryz.prog 15 ([ptr S.bA, .agg (hdC x), .slice a n c] : List Value).toArray w fun e w' => e = .returned (Zo 2) ∧ Turns w w' (auR S) (auR S) := by
 have hsz := qH x hx.1 hx.2
 have ha := Za S.p S.o (ptr S.bh) (.map (some S.bm))
 have lsz := qH l (h.hk l hl).1 (h.hk l hl).2
 refine (enter qc Tryz.func15 rfl Tryz.ntmps15 rfl (au_rwH h l hl) (R := fun v w' => v = Zo 2 ∧ Turns w w' (auR S) (auR S)) ?_).mono (fun e w' ⟨v, he, h1⟩ => ⟨by rw [he, h1.1], h1.2⟩)
 intro b4
 refine cf rfl ?_
 refine dr [cl S.bA (auC S.p S.o (ptr S.bh) (.map (some S.bm))) TAu, me S.bm keI S.fs S.clk, cr S.bh (hdC l) THd, cl b4 (hdC x) THd] 99 (.t 0 (.t 1 (.t 2 (.t 3 (.t 4 (.t 5 (.t 6 (.t 7 (.t 8 (.n 9 (.t 10 .nil))))))))))) qc qf (by kernel_rfl) (.cons (.cons (.cons (.cons .nil)))) ?_
 refine ldN 3 rfl hsz ?_
 refine ldP 0 (d := k32 S.p) rfl (qe _) (ZU _ _ _ _) ?_
 refine ld1 0 rfl (by exact ha.1) ?_
 refine cvs (fun w' hs => hR w' (QR h (zF hl) hs rfl rfl)) ?_
 refine ⟨.cons (.cons (.cons (.cons .nil))), ?_⟩
 subst hr
 refine cf rfl ?_
 refine ld1 0 rfl (by exact ha.2.1) ?_
 iterate 6 refine cf rfl ?_
 refine dr [cl S.bA (auC S.p S.o (ptr S.bh) (.map (some S.bm))) TAu, me S.bm keI S.fs S.clk, cr S.bh (hdC l) THd, cl b4 (hdC x) THd] 99 (.t 0 (.t 1 (.t 2 (.t 3 (.t 4 (.t 5 (.t 6 (.t 7 (.t 8 (.t 9 (.t 10 (.t 11 (.t 12 (.t 13 (.t 14 (.t 15 (.t 16 .nil))))))))))))))))) qc qf (by kernel_rfl) (.cons (.cons (.cons (.cons .nil)))) ?_
 refine ld1 3 rfl rfl ?_
 refine ld1 2 rfl rfl ?_
 have g1 : decide (x.size < l.size) = false := decide_eq_false (by omega)
 have g1' : (decide (x.size < l.size) == false) = true := by rw [g1]; rfl
 have g2 := decide_eq_true h2
 iterate 2 refine ct g1' ?_
 refine ld1 3 rfl rfl ?_
 iterate 4 refine ct g1' ?_
 refine ld1 2 rfl rfl ?_
 refine ct g1' ?_
 refine cf g1 ?_
 refine ct g2 ?_
 exact ⟨fun w1 hs => ⟨rfl, qbt h (zF hl) hs rfl rfl⟩⟩
theorem qcx (S : AuS) (x : Hd) (a : Option Addr) (n c r : Nat) (l : Hd) (hl : S.last = some l) (hx : zK x) (w : World) (h : AuP S w) (hR : Zs S x r w) (hr : r = 0) (h1 : l.size ≤ x.size) (h2 : l.time ≤ x.time) (hG : GrowsC l x (.slice a n c) false w) :
 Calls Tryz.prog 15 ([ptr S.bA, .agg (hdC x), .slice a n c] : List Value).toArray w fun e w' => e = .returned (Zo 13) ∧ Turns w w' (auR S) (auR S) := by
 have hsz := qH x hx.1 hx.2
 have ha := Za S.p S.o (ptr S.bh) (.map (some S.bm))
 have lsz := qH l (h.hk l hl).1 (h.hk l hl).2
 refine (enter qc Tryz.func15 rfl Tryz.ntmps15 rfl (au_rwH h l hl) (R := fun v w' => v = Zo 13 ∧ Turns w w' (auR S) (auR S)) ?_).mono (fun e w' ⟨v, he, h1⟩ => ⟨by rw [he, h1.1], h1.2⟩)
 intro b4
 refine cf rfl ?_
 refine dr [cl S.bA (auC S.p S.o (ptr S.bh) (.map (some S.bm))) TAu, me S.bm keI S.fs S.clk, cr S.bh (hdC l) THd, cl b4 (hdC x) THd] 99 (.t 0 (.t 1 (.t 2 (.t 3 (.t 4 (.t 5 (.t 6 (.t 7 (.t 8 (.n 9 (.t 10 .nil))))))))))) qc qf (by kernel_rfl) (.cons (.cons (.cons (.cons .nil)))) ?_
 refine ldN 3 rfl hsz ?_
 refine ldP 0 (d := k32 S.p) rfl (qe _) (ZU _ _ _ _) ?_
 refine ld1 0 rfl (by exact ha.1) ?_
 refine cvs (fun w' hs => hR w' (QR h (zF hl) hs rfl rfl)) ?_
 refine ⟨.cons (.cons (.cons (.cons .nil))), ?_⟩
 subst hr
 refine cf rfl ?_
 refine ld1 0 rfl (by exact ha.2.1) ?_
 iterate 6 refine cf rfl ?_
 refine dr [cl S.bA (auC S.p S.o (ptr S.bh) (.map (some S.bm))) TAu, me S.bm keI S.fs S.clk, cr S.bh (hdC l) THd, cl b4 (hdC x) THd] 99 (.t 0 (.t 1 (.t 2 (.t 3 (.t 4 (.t 5 (.t 6 (.t 7 (.t 8 (.t 9 (.t 10 (.t 11 (.t 12 (.t 13 (.t 14 (.t 15 (.t 16 .nil))))))))))))))))) qc qf (by kernel_rfl) (.cons (.cons (.cons (.cons .nil)))) ?_
 refine ld1 3 rfl rfl ?_
 refine ld1 2 rfl rfl ?_
 have g1 : decide (x.size < l.size) = false := decide_eq_false (by omega)
 have g1' : (decide (x.size < l.size) == false) = true := by rw [g1]; rfl
 have g2 : decide (x.time < l.time) = false := decide_eq_false (by omega)
 iterate 2 refine ct g1' ?_
 refine ld1 3 rfl rfl ?_
 iterate 4 refine ct g1' ?_
 refine ld1 2 rfl rfl ?_
 refine ct g1' ?_
 refine cf g1 ?_
 refine cf g2 ?_
 refine dr [cl S.bA (auC S.p S.o (ptr S.bh) (.map (some S.bm))) TAu, me S.bm keI S.fs S.clk, cr S.bh (hdC l) THd, cl b4 (hdC x) THd] 99 (.t 0 (.t 1 (.t 2 (.t 3 (.t 4 (.t 5 (.t 6 (.t 7 (.t 8 (.t 9 (.t 10 (.t 11 (.t 12 (.n 13 (.t 14 (.t 15 .nil)))))))))))))))) qc qf (by kernel_rfl) (.cons (.cons (.cons (.cons .nil)))) ?_
 refine ld1 2 rfl rfl ?_
 refine ldP 2 (d := (Lib.byteCells l.root).toArray) rfl (by simp [Lib.byteCells_length, (h.hk l hl).1]) (zf l (h.hk l hl).1) ?_
 refine ld1 3 rfl rfl ?_
 refine ldP 3 (d := (Lib.byteCells x.root).toArray) rfl (by simp [Lib.byteCells_length, hx.1]) (zf x hx.1) ?_
 refine cvs (fun w' hs => hG w' (QR h (zF hl) hs rfl rfl)) ?_
 refine ⟨.cons (.cons (.cons (.cons .nil))), ?_⟩
 refine ct rfl ?_
 exact ⟨fun w1 hs => ⟨rfl, qbt h (zF hl) hs rfl rfl⟩⟩
theorem take_next (S : AuS) (x : Hd) (a : Option Addr) (n c r : Nat) (l : Hd) (hl : S.last = some l) (hx : zK x) (w : World) (h : AuP S w) (hR : Zs S x r w) (hr : r = 0) (h1 : l.size ≤ x.size) (h2 : l.time ≤ x.time) (hz : 0 ≤ x.size ∧ x.size ≤ 1048576) (hG : GrowsC l x (.slice a n c) true w) :
 Calls Tryz.prog 15 ([ptr S.bA, .agg (hdC x), .slice a n c] : List Value).toArray w fun e w' => e = .returned .nilIface ∧ ∃ b, Turns w w' (auR S) (auR (S.put x b)) := by
 have hsz := qH x hx.1 hx.2
 have ha := Za S.p S.o (ptr S.bh) (.map (some S.bm))
 have lsz := qH l (h.hk l hl).1 (h.hk l hl).2
 refine (enter qc Tryz.func15 rfl Tryz.ntmps15 rfl (au_rwH h l hl) (R := fun v w' => v = .nilIface ∧ ∃ b, Turns w w' (auR S) (auR (S.put x b))) ?_).mono (fun e w' ⟨v, he, h1⟩ => ⟨by rw [he, h1.1], h1.2⟩)
 intro b4
 refine cf rfl ?_
 refine dr [cl S.bA (auC S.p S.o (ptr S.bh) (.map (some S.bm))) TAu, me S.bm keI S.fs S.clk, cr S.bh (hdC l) THd, cl b4 (hdC x) THd] 99 (.t 0 (.t 1 (.t 2 (.t 3 (.t 4 (.t 5 (.t 6 (.t 7 (.t 8 (.n 9 (.t 10 .nil))))))))))) qc qf (by kernel_rfl) (.cons (.cons (.cons (.cons .nil)))) ?_
 refine ldN 3 rfl hsz ?_
 refine ldP 0 (d := k32 S.p) rfl (qe _) (ZU _ _ _ _) ?_
 refine ld1 0 rfl (by exact ha.1) ?_
 refine cvs (fun w' hs => hR w' (QR h (zF hl) hs rfl rfl)) ?_
 refine ⟨.cons (.cons (.cons (.cons .nil))), ?_⟩
 have hge : ∀ y, S.last = some y → y.size ≤ x.size := fun y hy => by rw [hl] at hy; injection hy with hy; subst hy; exact h1
 subst hr
 refine cf rfl ?_
 refine ld1 0 rfl (by exact ha.2.1) ?_
 iterate 6 refine cf rfl ?_
 refine dr [cl S.bA (auC S.p S.o (ptr S.bh) (.map (some S.bm))) TAu, me S.bm keI S.fs S.clk, cr S.bh (hdC l) THd, cl b4 (hdC x) THd] 99 (.t 0 (.t 1 (.t 2 (.t 3 (.t 4 (.t 5 (.t 6 (.t 7 (.t 8 (.t 9 (.t 10 (.t 11 (.t 12 (.t 13 (.t 14 (.t 15 (.t 16 .nil))))))))))))))))) qc qf (by kernel_rfl) (.cons (.cons (.cons (.cons .nil)))) ?_
 refine ld1 3 rfl rfl ?_
 refine ld1 2 rfl rfl ?_
 have g1 : decide (x.size < l.size) = false := decide_eq_false (by omega)
 have g1' : (decide (x.size < l.size) == false) = true := by rw [g1]; rfl
 have g2 : decide (x.time < l.time) = false := decide_eq_false (by omega)
 iterate 2 refine ct g1' ?_
 refine ld1 3 rfl rfl ?_
 iterate 4 refine ct g1' ?_
 refine ld1 2 rfl rfl ?_
 refine ct g1' ?_
 refine cf g1 ?_
 refine cf g2 ?_
 refine dr [cl S.bA (auC S.p S.o (ptr S.bh) (.map (some S.bm))) TAu, me S.bm keI S.fs S.clk, cr S.bh (hdC l) THd, cl b4 (hdC x) THd] 99 (.t 0 (.t 1 (.t 2 (.t 3 (.t 4 (.t 5 (.t 6 (.t 7 (.t 8 (.t 9 (.t 10 (.t 11 (.t 12 (.n 13 (.t 14 (.t 15 .nil)))))))))))))))) qc qf (by kernel_rfl) (.cons (.cons (.cons (.cons .nil)))) ?_
 refine ld1 2 rfl rfl ?_
 refine ldP 2 (d := (Lib.byteCells l.root).toArray) rfl (by simp [Lib.byteCells_length, (h.hk l hl).1]) (zf l (h.hk l hl).1) ?_
 refine ld1 3 rfl rfl ?_
 refine ldP 3 (d := (Lib.byteCells x.root).toArray) rfl (by simp [Lib.byteCells_length, hx.1]) (zf x hx.1) ?_
 refine cvs (fun w' hs => hG w' (QR h (zF hl) hs rfl rfl)) ?_
 refine ⟨.cons (.cons (.cons (.cons .nil))), ?_⟩
 refine cf rfl ?_
 refine drs [cl S.bA (auC S.p S.o (ptr S.bh) (.map (some S.bm))) TAu, me S.bm keI S.fs S.clk, cr S.bh (hdC l) THd, cl b4 (hdC x) THd] [11, 12, 13, 14] (.t 0 (.t 1 (.t 2 (.t 3 (.t 4 (.t 5 (.t 6 (.t 7 (.t 8 (.t 9 (.t 10 (.n 11 (.n 12 (.n 13 (.n 14 .nil))))))))))))))) qc qf (by kernel_rfl) (.cons (.cons (.cons (.cons .nil)))) ?_
 refine ld1 0 rfl (by exact ha.2.2) ?_
 refine ld1 3 rfl rfl ?_
 refine ldP 3 (d := (Lib.byteCells x.root).toArray) rfl (by simp [Lib.byteCells_length, hx.1]) (zf x hx.1) ?_
 refine s1e 0 (auC S.p S.o (ptr b4) (.map (some S.bm))) rfl (by rw [auC_size]; decide) (auC_set _ _ _ _ _) ?_
 refine men (ke := keI) 1 rfl undMp keyI zSum ?_
 refine est (ke := keI) 1 rfl rfl h.nb h.lt ?_
 exact ⟨fun w1 hs => ⟨rfl, b4, au_put (j := 3) h hx hz hge hs rfl rfl rfl (by decide)⟩⟩
end
section
open Go.Shelf
def qec : Go.Shelf.Ren := ⟨fun | 7 => 50 | 10 => 88 | n => n, fun | 23 => 93 | 26 => 3 | 3 => 39 | 28 => 110 | 0 => 0 | 27 => 109 | 33 => 156 | 4 => 4 | n => n, fun | n => n⟩
theorem Lkeys : Go.Proofs.SlLaysZI.n7 Tryz.prog qec := {
 mixed := by kernel_rfl
 f7 := ⟨Tryz.f50.name, by decide, Tryz.func50.trans (congrArg some (by kernel_rfl))⟩
 f10 := ⟨Tryz.f88.name, by decide, Tryz.func88.trans (congrArg some (by kernel_rfl))⟩
 t0 := Tryz.underlying0
 a0 := Tryz.isAgg0
 z0 := Tryz.sizeOf0
 v0 := Tryz.zeroValue0
 t4 := Tryz.underlying4
 a4 := Tryz.isAgg4
 z4 := Tryz.sizeOf4
 v4 := Tryz.zeroValue4
 t23 := Tryz.underlying93
 a23 := Tryz.isAgg93
 z23 := Tryz.sizeOf93
 v23 := Tryz.zeroValue93
 t26 := Tryz.underlying3
 a26 := Tryz.isAgg3
 z26 := Tryz.sizeOf3
 v26 := Tryz.zeroValue3
 t27 := Tryz.underlying109
 a27 := Tryz.isAgg109
 z27 := Tryz.sizeOf109
 v27 := Tryz.zeroValue109
 t28 := Tryz.underlying110
 a28 := Tryz.isAgg110
 z28 := Tryz.sizeOf110
 v28 := Tryz.zeroValue110
 t33 := Tryz.underlying156
 a33 := Tryz.isAgg156
 z33 := Tryz.sizeOf156
 v33 := Tryz.zeroValue156 }
def qcb : Go.Shelf.Ren := ⟨fun | 6 => 49 | 8 => 86 | 9 => 87 | 11 => 129 | 13 => 131 | 12 => 130 | 23 => 186 | 24 => 187 | 14 => 177 | 15 => 178 | 16 => 179 | 17 => 180 | 18 => 181 | 19 => 182 | 20 => 183 | 21 => 184 | 22 => 185 | 25 => 225 | 26 => 226 | 27 => 227 | 28 => 228 | 29 => 229 | 30 => 230 | 31 => 256 | n => n, fun | 26 => 3 | 28 => 110 | 24 => 54 | 0 => 0 | 3 => 3 | 37 => 58 | 48 => 127 | 50 => 131 | 4 => 4 | 40 => 256 | 39 => 255 | 45 => 260 | 5 => 5 | 9 => 9 | 51 => 309 | 55 => 313 | 57 => 347 | 58 => 348 | 33 => 156 | n => n, fun | n => n⟩
theorem Lsorted : Go.Proofs.SlLaysZI.n6 Tryz.prog qcb := {
 mixed := by kernel_rfl
 f6 := ⟨Tryz.f49.name, by decide, Tryz.func49.trans (congrArg some (by kernel_rfl))⟩
 f8 := ⟨Tryz.f86.name, by decide, Tryz.func86.trans (congrArg some (by kernel_rfl))⟩
 f11 := ⟨Tryz.f129.name, by decide, Tryz.func129.trans (congrArg some (by kernel_rfl))⟩
 t0 := Tryz.underlying0
 a0 := Tryz.isAgg0
 z0 := Tryz.sizeOf0
 v0 := Tryz.zeroValue0
 t24 := Tryz.underlying54
 a24 := Tryz.isAgg54
 z24 := Tryz.sizeOf54
 v24 := Tryz.zeroValue54
 t26 := Tryz.underlying3
 a26 := Tryz.isAgg3
 z26 := Tryz.sizeOf3
 v26 := Tryz.zeroValue3
 t28 := Tryz.underlying110
 a28 := Tryz.isAgg110
 z28 := Tryz.sizeOf110
 v28 := Tryz.zeroValue110
 i26 := by kernel_rfl }
def Lsort_ren : Go.Shelf.Ren := ⟨fun | 5 => 87 | 8 => 131 | 7 => 130 | 19 => 186 | 20 => 187 | 10 => 177 | 11 => 178 | 12 => 179 | 13 => 180 | 14 => 181 | 15 => 182 | 16 => 183 | 17 => 184 | 18 => 185 | 30 => 225 | 31 => 226 | 32 => 227 | 33 => 228 | 34 => 229 | 35 => 230 | 40 => 256 | n => n, fun | 23 => 54 | 25 => 3 | 3 => 3 | 32 => 58 | 22 => 54 | 0 => 0 | 44 => 127 | 46 => 131 | 4 => 4 | 36 => 256 | 35 => 255 | 41 => 260 | 5 => 5 | 9 => 9 | 53 => 309 | 57 => 313 | 63 => 347 | 64 => 348 | n => n, fun | n => n⟩
theorem Lsort : Go.Proofs.SlLaysM.n5 Tryz.prog Lsort_ren := {
 mixed := by kernel_rfl
 f5 := ⟨Tryz.f87.name, by decide, Tryz.func87.trans (congrArg some (by kernel_rfl))⟩
 f7 := ⟨Tryz.f130.name, by decide, Tryz.func130.trans (congrArg some (by kernel_rfl))⟩
 f8 := Tryz.func131.trans (congrArg some (by kernel_rfl))
 f10 := ⟨Tryz.f177.name, by decide, Tryz.func177.trans (congrArg some (by kernel_rfl))⟩
 f11 := ⟨Tryz.f178.name, by decide, Tryz.func178.trans (congrArg some (by kernel_rfl))⟩
 f12 := ⟨Tryz.f179.name, by decide, Tryz.func179.trans (congrArg some (by kernel_rfl))⟩
 f13 := ⟨Tryz.f180.name, by decide, Tryz.func180.trans (congrArg some (by kernel_rfl))⟩
 f14 := ⟨Tryz.f181.name, by decide, Tryz.func181.trans (congrArg some (by kernel_rfl))⟩
 f15 := ⟨Tryz.f182.name, by decide, Tryz.func182.trans (congrArg some (by kernel_rfl))⟩
 f16 := ⟨Tryz.f183.name, by decide, Tryz.func183.trans (congrArg some (by kernel_rfl))⟩
 f17 := ⟨Tryz.f184.name, by decide, Tryz.func184.trans (congrArg some (by kernel_rfl))⟩
 f18 := ⟨Tryz.f185.name, by decide, Tryz.func185.trans (congrArg some (by kernel_rfl))⟩
 f19 := Tryz.func186.trans (congrArg some (by kernel_rfl))
 f20 := Tryz.func187.trans (congrArg some (by kernel_rfl))
 f30 := ⟨Tryz.f225.name, by decide, Tryz.func225.trans (congrArg some (by kernel_rfl))⟩
 f31 := Tryz.func226.trans (congrArg some (by kernel_rfl))
 f32 := Tryz.func227.trans (congrArg some (by kernel_rfl))
 f33 := ⟨Tryz.f228.name, by decide, Tryz.func228.trans (congrArg some (by kernel_rfl))⟩
 f34 := ⟨Tryz.f229.name, by decide, Tryz.func229.trans (congrArg some (by kernel_rfl))⟩
 f35 := ⟨Tryz.f230.name, by decide, Tryz.func230.trans (congrArg some (by kernel_rfl))⟩
 f40 := ⟨Tryz.f256.name, by decide, Tryz.func256.trans (congrArg some (by kernel_rfl))⟩
 t0 := Tryz.underlying0
 a0 := Tryz.isAgg0
 z0 := Tryz.sizeOf0
 v0 := Tryz.zeroValue0
 t3 := Tryz.underlying3
 a3 := Tryz.isAgg3
 z3 := Tryz.sizeOf3
 v3 := Tryz.zeroValue3
 t4 := Tryz.underlying4
 a4 := Tryz.isAgg4
 z4 := Tryz.sizeOf4
 v4 := Tryz.zeroValue4
 t5 := Tryz.underlying5
 a5 := Tryz.isAgg5
 z5 := Tryz.sizeOf5
 v5 := Tryz.zeroValue5
 t9 := Tryz.underlying9
 a9 := Tryz.isAgg9
 z9 := Tryz.sizeOf9
 v9 := Tryz.zeroValue9
 t22 := Tryz.underlying54
 a22 := Tryz.isAgg54
 z22 := Tryz.sizeOf54
 v22 := Tryz.zeroValue54
 t23 := Tryz.underlying54
 a23 := Tryz.isAgg54
 z23 := Tryz.sizeOf54
 v23 := Tryz.zeroValue54
 t25 := Tryz.underlying3
 a25 := Tryz.isAgg3
 z25 := Tryz.sizeOf3
 v25 := Tryz.zeroValue3
 t32 := Tryz.underlying58
 a32 := Tryz.isAgg58
 z32 := Tryz.sizeOf58
 v32 := Tryz.zeroValue58
 t35 := Tryz.underlying255
 a35 := Tryz.isAgg255
 z35 := Tryz.sizeOf255
 v35 := Tryz.zeroValue255
 t36 := Tryz.underlying256
 a36 := Tryz.isAgg256
 z36 := Tryz.sizeOf256
 v36 := Tryz.zeroValue256
 t41 := Tryz.underlying260
 a41 := Tryz.isAgg260
 z41 := Tryz.sizeOf260
 v41 := Tryz.zeroValue260
 t44 := Tryz.underlying127
 a44 := Tryz.isAgg127
 z44 := Tryz.sizeOf127
 v44 := Tryz.zeroValue127
 t46 := Tryz.underlying131
 a46 := Tryz.isAgg131
 z46 := Tryz.sizeOf131
 v46 := Tryz.zeroValue131
 t53 := Tryz.underlying309
 a53 := Tryz.isAgg309
 z53 := Tryz.sizeOf309
 v53 := Tryz.zeroValue309
 t57 := Tryz.underlying313
 a57 := Tryz.isAgg313
 z57 := Tryz.sizeOf313
 v57 := Tryz.zeroValue313
 t63 := Tryz.underlying347
 a63 := Tryz.isAgg347
 z63 := Tryz.sizeOf347
 v63 := Tryz.zeroValue347
 t64 := Tryz.underlying348
 a64 := Tryz.isAgg348
 z64 := Tryz.sizeOf348
 v64 := Tryz.zeroValue348 }
end
section
open Go.RowKit Go.Sx Go.Maps Go.Sort Go.Shelf
theorem coV {C : Cx} {L : List Ent} {g : FuncId} {vs : List Value} {n z : Nat} {xs : List Value} {e : TypeId} {next : Value → List Ent → Prop} (F : Value → Value)
 (h : ∀ w, St C.M C.B w L → Calls C.P g vs.toArray w fun en w' => ∃ r, en = .returned (F (sv r n)) ∧ Rw z n r xs ∧ Zt w w' r xs e ∧ Below w.heap.size w w')
 (go : ∀ r, Rw z n r xs → next (F (sv r n)) (L ++ [se r xs e])) : zk C g vs L next := by
 refine ⟨fun w hs => (h w hs).mono fun en w' ⟨r, he, hR, ho, hb⟩ => ⟨_, _, he, ?_, go r hR⟩⟩
 cases r with
 | none => exact (hs.call hb).deads
 | some p =>
  obtain ⟨b, c, j⟩ := p
  obtain ⟨h1, h2⟩ := ho b c j rfl
  exact hs.add hb h1 h2
abbrev TM : Nat := 93
theorem sorts (m : Nat) : AnyZI.SortsIn Tryz.prog qcb Fence.wide m :=
 ⟨fun blk off cap ss W hH hblk hsz => callsIn_wide.2 (AnyM.slices_Sort_int Lsort blk off cap ss W hH hblk hsz),
  fun p cap W => callsIn_wide.2 (AnyM.slices_Sort_int_none Lsort p cap W)⟩
theorem keys_call (mb : Option Nat) (W : World) : CallsIn Fence.wide 5 Tryz.prog 50 #[.map mb] W fun e w' => e = .returned (.func (.func 88) #[] #[.pointer (some ⟨W.heap.size, 0, none⟩)]) ∧ w' = W.alloc (.cells #[.map mb] TM) :=
 AnyZI.keys_in Lkeys Fence.wide 5 trivial rfl mb W
theorem sorted_call {H : Type} (Bm b nn : Nat) (D0 : DataW H) (R : Value → Option (DataW H × List MemPlace)) (w : World) (hBm : Bm < w.heap.size) (hm : w.cell? ⟨Bm, 0, none⟩ = some (.map (some b))) (hown : w.ownsMap Tryz.prog 3 R b nn D0) (hmax : Maps.size D0 ≤ maxLen) (hbytes : Maps.size D0 * 8 ≤ 140737488355328) :
 Calls Tryz.prog 49 ([.func (.func 88) #[] #[ptr Bm]] : List Value).toArray w fun e w' => ∃ (v : Value) (ss : List Int), e = .returned v ∧ ss.Perm (intKeys D0) ∧
  w'.ownsRow w.heap.size 3 1 v ss.length ((ss.mergeSort leI).map encZ) ∧ (v = .slice none 0 0 ↔ ss = []) ∧ Below w.heap.size w w' := by
 have hseq : SeqGives Fence.wide 2 Tryz.prog 88 #[.pointer (some ⟨Bm, 0, none⟩)] encZ (fun ss => ss.Perm (intKeys D0)) (Maps.size D0) w :=
  AnyZI.keys_gives (ρ := qec) { Lkeys with } Fence.wide _ trivial rfl (by omega) Bm b nn D0 _ hBm hm hown
 exact (callsIn_wide (n := 5)).1 (AnyZI.sorted_in Lsorted Fence.wide 5 trivial trivial trivial trivial rfl (by omega) (sorts _) (enters_of Tryz.func87 (by kernel_rfl) rfl) 88 #[.pointer (some ⟨Bm, 0, none⟩)] trivial (enters_of Tryz.func88 (by kernel_rfl) rfl) _ _ hmax hbytes _ hseq)
theorem insert_perm {H : Type} (x : Lit × DataW H) (l : List (Lit × DataW H)) : (DataW.insert x l).Perm (x :: l) := by
 induction l with
 | nil => exact .refl _
 | cons y l ih =>
  unfold DataW.insert
  split
  · exact .refl _
  · exact (ih.cons y).trans (.swap x y l)
theorem qdb {H : Type} (l : List (Lit × DataW H)) : (l.foldr DataW.insert []).Perm l := by
 induction l with
 | nil => exact .refl _
 | cons y l ih => exact (insert_perm y _).trans (ih.cons y)
def RU : Value → Option (DataW Unit × List MemPlace) := fun _ => some (.nil, [])
theorem own_of {w : World} {S : AuS} (h : AuP S w) (hn : S.fs.length ≤ 1000000) :
 ∃ D0 : DataW Unit, w.ownsMap Tryz.prog 3 RU S.bm S.fs.length D0 ∧ Maps.size D0 = S.fs.length ∧ (intKeys D0).Perm (S.fs.map (·.1)) := by
 have hkey : ∀ e ∈ S.fs, WideElems.rd Tryz.prog 3 RU (zi keI e) = some (.int .i64 e.1, .nil) := fun e he => by
  have hb := h.kb e.1 (List.mem_map_of_mem he)
  unfold WideElems.rd
  have hk : keyOf Tryz.prog 3 (zi keI e).key = some (.int .i64 e.1) := by
   rw [keyOf_int undInt]
   have hw : (Lit.int .i64 e.1).wf = true := by
    simp [Lit.wf, IntKind.min, IntKind.max, IntKind.bits, IntKind.signed]; omega
   simp [zi, keI, mapKey, hw]
  rw [hk]; rfl
 have hrg : (S.fs.map (zi keI)).map (WideElems.rg Tryz.prog 3 RU) = S.fs.map fun e => (Lit.int .i64 e.1, DataW.nil) := by
  rw [List.map_map]
  exact List.map_congr_left fun e he => by simp only [Function.comp_apply, WideElems.rg, hkey e he]; rfl
 refine ⟨.map (((S.fs.map (zi keI)).map (WideElems.rg Tryz.prog 3 RU)).foldr DataW.insert []), ⟨_, S.clk, h.m, ⟨?_, ⟨?_, ?_, ?_⟩, ?_⟩, by simp, by simp⟩, ?_, ?_⟩
 · simp; unfold maxLen; omega
 · intro x hx
   simp only [List.mem_map] at hx
   obtain ⟨e, he, rfl⟩ := hx
   exact h.lt e he
 · have := h.nb
   simpa [List.map_map, Function.comp_def, zi] using this
 · have h1 : (S.fs.map (·.1)).Nodup := h.ks.imp fun {a b} h e => by omega
   have : ((S.fs.map (·.1)).map keI).Nodup := by
    rw [List.nodup_iff_pairwise_ne] at *
    rw [List.pairwise_map]
    exact h1.imp fun {a b} h e => h (by simpa [keI] using e)
   simpa [List.map_map, Function.comp_def, zi] using this
 · intro x hx
   simp only [List.mem_map] at hx
   obtain ⟨e, he, rfl⟩ := hx
   exact ⟨_, hkey e he⟩
 · show List.length _ = _
   rw [(qdb _).length_eq]; simp
 · show (List.map (fun p : Lit × DataW Unit => _root_.Go.intOf p.1) _).Perm _
   refine ((qdb _).map _).trans ?_
   rw [hrg, List.map_map]
   exact .refl _
def Zn (l : List Int) : List Value := l.map encZ
theorem sort_same {l : List Int} (h : l.Pairwise (· < ·)) : l.mergeSort leI = l := List.mergeSort_of_pairwise (h.imp fun {a b} h => by simp [leI]; omega)
theorem qao (S : AuS) (w : World) (h : AuP S w) (hn : S.fs.length ≤ 1000000) : Calls Tryz.prog 17 ([ptr S.bA] : List Value).toArray w fun e w' =>
 ∃ r, e = .returned (sv r S.fs.length) ∧ Rw 1 S.fs.length r (Zn (S.fs.map (·.1))) ∧ Zt w w' r (Zn (S.fs.map (·.1))) 3 ∧ Below w.heap.size w w' := by
 have ha := (Za S.p S.o S.lastV (.map (some S.bm))).2.2
 refine (enter qc Tryz.func17 rfl Tryz.ntmps17 rfl (au_ro h) (R := fun v w' => ∃ r, v = sv r S.fs.length ∧ Rw 1 S.fs.length r (Zn (S.fs.map (·.1))) ∧ Zt w w' r (Zn (S.fs.map (·.1))) 3 ∧ Below w.heap.size w w') ?_).mono (fun e w' ⟨v, he, r, h1, h2⟩ => ⟨r, by rw [he, h1], h2⟩)
 refine cf rfl ?_
 refine ld1 0 rfl (by exact ha) ?_
 refine cn (v := fun b => .func (.func 88) #[] #[ptr b]) (o := .cells #[.map (some S.bm)] TM (0, 0)) (fun w1 hs => ?_) (fun bk1 => ?_)
 · refine ((callsIn_wide (n := 5)).1 (keys_call (some S.bm) w1)).mono ?_
   rintro e w2 ⟨rfl, rfl⟩
   exact ⟨w1.heap.size, rfl, Nat.le_refl _, heap_alloc_new w1 _, zh w1 _⟩
 refine coV (n := S.fs.length) (z := 1) (xs := Zn (S.fs.map (·.1))) (e := 3) id (fun w1 hs => ?_) (fun r hR => ?_)
 · have hm : w1.cell? ⟨bk1, 0, none⟩ = some (.map (some S.bm)) := hs.cell (k := 2) rfl 0
   have h1 : AuP S w1 := (auR S).st w w1 (fun k hk => hs.below.block k ((auR S).bd w h k hk)) h
   obtain ⟨D0, hown, hsz, hp⟩ := own_of h1 hn
   refine (sorted_call bk1 S.bm _ D0 RU w1 (hs.lt (List.mem_of_getElem? (i := 2) rfl) rfl) hm hown (by rw [hsz]; unfold maxLen; omega) (by rw [hsz]; omega)).mono ?_
   rintro e w2 ⟨v, ss, rfl, hss, hrow, hnil, hb⟩
   have hsl : ss.length = S.fs.length := by rw [(hss.trans hp).length_eq]; simp
   have hst : (ss.mergeSort leI).map encZ = Zn (S.fs.map (·.1)) := by rw [mergeSort_of_perm_i (hss.trans hp), sort_same h.ks]; rfl
   rw [hst, hsl] at hrow
   obtain ⟨h1, h2 | ⟨g, cap, cur, h2, h3, h4, h5, h6, h7, h8⟩⟩ := hrow
   · obtain ⟨rfl, h0⟩ := h2
     exact ⟨none, by rw [h0]; rfl, ⟨h1, h0⟩, fun _ _ _ h => (by cases h), hb⟩
   · rw [Nat.mul_one] at h8
     have hcur : cur = (Zn (S.fs.map (·.1)) ++ cur.toList.drop S.fs.length).toArray := by
      apply Array.ext'
      rw [← h8]; simp
     refine ⟨some (g, cap, cur.toList.drop S.fs.length), by rw [h2]; rfl, ⟨h1, h5, h6, ?_⟩, ?_, hb⟩
     · rw [← h8, List.take_append_drop]; simpa using h7
     · rintro b c j hj
       obtain ⟨rfl, rfl, rfl⟩ : g = b ∧ cap = c ∧ cur.toList.drop S.fs.length = j := by injection hj with hj; injection hj with a1 a2; injection a2 with a2 a3; exact ⟨a1, a2, a3⟩
       exact ⟨h3, by rw [← hcur]; exact h4⟩
 exact ⟨fun w1 hs => ⟨r, rfl, hR, Zf hs rfl 3 rfl, hs.below⟩⟩
end
section
open Go.RowKit Go.Sx
def DG10 : Bs := [48, 49, 50, 51, 52, 53, 54, 55, 56, 57]
theorem rnum_fig (u : Nat) (hu : u < 10) (w : World) : Calls Tryz.prog 91 ([.int .i64 u] : List Value).toArray w fun e w' => e = .returned (VS [UInt8.ofNat (48 + u)]) ∧ Below w.heap.size w w' := by
 refine qi qc Tryz.func91 rfl Tryz.ntmps91 rfl (St.start w) ?_
 refine ct (decide_eq_true (by omega)) ?_
 refine .as ((u + 1 : Nat) : Int) (by omega) (by simp only [mn]; omega) (by simp only [mx]; omega) ?_
 refine slB (s := DG10) u (u + 1) (by omega) (by show u + 1 ≤ 10; omega) rfl rfl ?_
 refine rt ?_
 show VS _ = VS _
 congr 2
 have : (List.range 10).all (fun u => decide (((DG10.take (u + 1)).drop u) = [UInt8.ofNat (48 + u)])) = true := by decide +kernel
 exact of_decide_eq_true (List.all_eq_true.1 this u (by simpa using hu))
def rb1 (h : Hd) : Bs := QM ++ [10] ++ h.o ++ [10]
def rb2 (h : Hd) (a t : Bs) : Bs := rb1 h ++ a ++ [32] ++ t ++ [10]
def zs (h : Hd) (a t : Bs) : Bs := rb2 h a t ++ zb h.root ++ [10, 10]
theorem cat2 (a b c : Bs) (h : a ++ b = c) : (⟨a.toArray⟩ : ByteArray) ++ ⟨b.toArray⟩ = ⟨c.toArray⟩ := by rw [qaV, h]
theorem szB (a : Bs) : (⟨a.toArray⟩ : ByteArray).size = a.length := by simp [ByteArray.size]
theorem rbody_any (h : Hd) (A T : Bs) (hA : A.length ≤ 100) (hT : T.length ≤ 100) (hr : h.root.length = 32) (hg : h.sig.length = 64) (hl : h.o.length ≤ 1000) (w : World)
 (hAc : ∀ w', Below w.heap.size w w' → Calls Tryz.prog 91 ([.int .i64 h.size] : List Value).toArray w' fun e w'' => e = .returned (VS A) ∧ Below w'.heap.size w' w'')
 (hTc : ∀ w', Below w.heap.size w w' → Calls Tryz.prog 91 ([.int .i64 h.time] : List Value).toArray w' fun e w'' => e = .returned (VS T) ∧ Below w'.heap.size w' w'') :
 Calls Tryz.prog 53 ([.agg (hdC h)] : List Value).toArray w fun e w' => ∃ x : Nat × Nat, True ∧ e = .returned (.slice (some ⟨x.1, 0, none⟩) (zs h A T).length x.2) ∧ St [] w w' [qcI x.1 x.2 (zs h A T)] := by
 refine (enter qc Tryz.func53 rfl Tryz.ntmps53 rfl (St.start w) (R := fun v w' => ∃ x : Nat × Nat, v = .slice (some ⟨x.1, 0, none⟩) (zs h A T).length x.2 ∧ St [] w w' [qcI x.1 x.2 (zs h A T)]) ?_).mono (fun e w' ⟨v, he, x, h1, h2⟩ => ⟨x, trivial, by rw [he, h1], h2⟩)
 intro b1
 refine dr [cl b1 (hdC h) THd] 99 (.t 0 (.t 1 (.t 2 (.t 3 (.t 4 (.t 5 (.t 9 (.t 10 (.t 14 (.t 15 (.n 6 (.t 7 (.t 8 (.n 11 (.t 12 (.t 13 (.n 16 (.t 17 (.t 18 (.n 19 (.t 20 .nil))))))))))))))))))))) qc qf (by kernel_rfl) (.cons .nil) ?_
 refine ld1 0 rfl rfl ?_
 refine ⟨by rw [szB [99, 97, 99, 104, 101, 116, 32, 118, 49, 10], szB h.o]; simp only [List.length_append, List.length_cons, List.length_nil, rb1, QM, QJ]; omega, ?_⟩
 rw [cat2 [99, 97, 99, 104, 101, 116, 32, 118, 49, 10] h.o _ rfl]
 refine ⟨by rw [szB ([99, 97, 99, 104, 101, 116, 32, 118, 49, 10] ++ h.o), szB [10]]; simp only [List.length_append, List.length_cons, List.length_nil, rb1, QM, QJ]; omega, ?_⟩
 rw [cat2 ([99, 97, 99, 104, 101, 116, 32, 118, 49, 10] ++ h.o) [10] _ rfl]
 rw [show ([99, 97, 99, 104, 101, 116, 32, 118, 49, 10] : Bs) ++ h.o ++ [10] = rb1 h from rfl]
 refine ld1 0 rfl rfl ?_
 refine ld1 0 rfl rfl ?_
 refine ⟨.mk 0 32 32 rfl rfl rfl (by decide) (by decide) (by decide) (by simp) (.on (by decide) ?_)⟩
 refine cvs (fun w' hs => hAc w' hs.below) ?_
 refine ⟨.cons .nil, ?_⟩
 refine ⟨by rw [szB (rb1 h), szB A]; simp only [List.length_append, List.length_cons, List.length_nil, rb1, QM, QJ]; omega, ?_⟩
 rw [cat2 (rb1 h) A _ rfl]
 refine ⟨by rw [szB (rb1 h ++ A), szB [32]]; simp only [List.length_append, List.length_cons, List.length_nil, rb1, QM, QJ]; omega, ?_⟩
 rw [cat2 (rb1 h ++ A) [32] _ rfl]
 refine cvs (fun w' hs => hTc w' hs.below) ?_
 refine ⟨.cons .nil, ?_⟩
 refine ⟨by rw [szB (rb1 h ++ A ++ [32]), szB T]; simp only [List.length_append, List.length_cons, List.length_nil, rb1, QM, QJ]; omega, ?_⟩
 rw [cat2 (rb1 h ++ A ++ [32]) T _ rfl]
 refine ⟨by rw [szB (rb1 h ++ A ++ [32] ++ T), szB [10]]; simp only [List.length_append, List.length_cons, List.length_nil, rb1, QM, QJ]; omega, ?_⟩
 rw [cat2 (rb1 h ++ A ++ [32] ++ T) [10] _ rfl]
 rw [show rb1 h ++ A ++ [32] ++ T ++ [10] = rb2 h A T from rfl]
 have hrd : ∀ w', St [] w w' [cl b1 (hdC h) THd] → Rd w' (.slice (some ⟨b1, 3, none⟩) 32 32) (Lib.byteCells h.root) := fun w' hs => Rd.ent hs 0 (n := 32) (o := 3) rfl (by rw [Lib.byteCells_length, hr]) (by
  show (List.drop 3 (hdC h).toList).take 32 = _
  unfold hdC
  show (Lib.byteCells h.root ++ Lib.byteCells h.sig).take 32 = _
  rw [List.take_left' (by rw [Lib.byteCells_length, hr])])
 refine cvs (fun w' hs => rhex_any _ h.root (by omega) w' (hrd w' hs)) ?_
 refine ⟨.cons .nil, ?_⟩
 have h2 : (rb2 h A T).length ≤ 2000 := by simp only [rb2, rb1, QM, List.length_append, List.length_cons, List.length_nil]; omega
 refine ⟨by rw [szB (rb2 h A T), szB (zb h.root), QJ]; omega, ?_⟩
 rw [cat2 (rb2 h A T) (zb h.root) _ rfl]
 refine ⟨by rw [szB (rb2 h A T ++ zb h.root), szB [10, 10], List.length_append, QJ]; simp only [List.length_cons, List.length_nil]; omega, ?_⟩
 rw [cat2 (rb2 h A T ++ zb h.root) [10, 10] _ rfl]
 refine cvSt qcu Z0 undU8 (fun b cap => ?_)
 refine ⟨.cons .nil, ?_⟩
 have hzz : (⟨(zs h A T).toArray⟩ : ByteArray).size = (zs h A T).length := szB _
 refine ⟨fun w1 hs => ⟨(b, cap), ?_, hs.sub (.drop (.cons .nil))⟩⟩
 rw [← hzz]; rfl
theorem csAll_have (sg : ByteArray) (k : Nat) (hk : 3 ≤ k) (bs : List UInt8) : (qX sg k bs).2.2 = 8 * bs.length % k := by
 obtain ⟨h1, h2⟩ := qaj sg k hk bs
 have := h1.sum
 rw [← this, Nat.mul_comm, Nat.mul_add_mod, Nat.mod_eq_of_lt h2]
theorem cs1_pre (sg : ByteArray) (k : Nat) (p : List UInt8) (s : Cs) : cs1 sg k (p ++ s.1, s.2) = (p ++ (cs1 sg k s).1, (cs1 sg k s).2) := by
 unfold cs1
 split <;> simp
theorem csB_pre (sg : ByteArray) (k : Nat) (p : List UInt8) (s : Cs) (c : Nat) : csB sg k (p ++ s.1, s.2) c = (p ++ (csB sg k s c).1, (csB sg k s c).2) := by
 have h1 := cs1_pre sg k p (s.1, s.2.1 * 256 + c, s.2.2 + 8)
 unfold csB csF
 simp only at h1 ⊢
 rw [h1, cs1_pre, cs1_pre]
theorem csFold_pre (sg : ByteArray) (k : Nat) (p : List UInt8) (bs : List UInt8) : ∀ s : Cs, bs.foldl (fun s c => csB sg k s c.toNat) (p ++ s.1, s.2) = (p ++ (bs.foldl (fun s c => csB sg k s c.toNat) s).1, (bs.foldl (fun s c => csB sg k s c.toNat) s).2) := by
 induction bs with
 | nil => intro s; rfl
 | cons c bs ih => intro s; simp only [List.foldl_cons]; rw [csB_pre]; exact ih _
theorem codeL_app (sg : ByteArray) (k : Nat) (hk : 3 ≤ k) (a b : List UInt8) (h : 8 * a.length % k = 0) : Qp sg k (a ++ b) = Qp sg k a ++ Qp sg k b := by
 have h1 := csAll_have sg k hk a
 rw [h] at h1
 have h2 := (qaj sg k hk a).1.bits
 rw [h1] at h2
 have h3 : (qX sg k a).2 = (0, 0) := Prod.ext (by simpa using h2) h1
 have e : qX sg k (a ++ b) = ((qX sg k a).1 ++ (qX sg k b).1, (qX sg k b).2) := by
  have h4 := csFold_pre sg k (qX sg k a).1 b ([], 0, 0)
  simp only [List.append_nil] at h4
  show (a ++ b).foldl _ _ = _
  rw [List.foldl_append]
  show b.foldl _ (qX sg k a) = _
  rw [show qX sg k a = ((qX sg k a).1, (0, 0)) from Prod.ext rfl h3]
  exact h4
 have e1 : Qp sg k a = (qX sg k a).1 := by unfold Qp; rw [h1, if_neg (by omega)]
 rw [e1]
 unfold Qp
 rw [e]
 simp only
 split
 · rw [List.append_assoc]
 · rfl
theorem hex_app (a b : List UInt8) : Qp zo 4 (a ++ b) = Qp zo 4 a ++ Qp zo 4 b := codeL_app zo 4 (by decide) a b (by omega)
theorem u8_cases {P : UInt8 → Prop} (h : ∀ n, n < 256 → P (UInt8.ofNat n)) (c : UInt8) : P c := by
 have := h c.toNat (UInt8.toNat_lt c)
 rwa [UInt8.ofNat_toNat] at this
theorem hex1 (c : UInt8) : Qp zo 4 [c] = zb [c] := u8_cases (P := fun c => Qp zo 4 [c] = zb [c]) (by decide +kernel) c
theorem hex_A (b : List UInt8) : Qp zo 4 b = zb b := by
 induction b with
 | nil => rfl
 | cons c b ih =>
  have := hex_app [c] b
  rw [List.singleton_append] at this
  rw [this, hex1, ih]; rfl
theorem qd6 (h : Hd) (A T : Bs) : qD h (A ++ [32] ++ T) = zs h A T := by
 have e : qD h (A ++ [32] ++ T) = QM ++ ([10] ++ (h.o ++ ([10] ++ ((A ++ [32] ++ T) ++ ([10] ++ (Qp zo 4 h.root ++ ([10] ++ ([] ++ ([10] ++ []))))))))) := rfl
 rw [e, hex_A]
 simp only [zs, rb2, rb1, List.append_assoc, List.nil_append, List.append_nil, List.cons_append]
end
section
open Go.RowKit Go.Sx
theorem eqS {C : Cx} {L : List Ent} {x y : Bs} {a b : Operand} {next : Value → List Ent → Prop} (hP : C.P = Tryz.prog) (hx : x.length = 32) (hy : y.length = 32) (go : next (.bool (decide (x = y))) L) :
 Zb C (do eqGuard .eql 39 a b (Qn x) (Qn y); binOp .eql 39 (Qn x) (Qn y)) L next :=
 eqB (e := 5) (n := 32) (by rw [hP]; kernel_rfl) (by rw [hP]; kernel_rfl) (by rw [hP]; kernel_rfl) (by rw [hP]; kernel_rfl) hx hy go
theorem Z5 (r : Bs) (h : r.length = 32) : (Lib.byteCells r).toArray.size = 32 := by simp [Lib.byteCells_length, h]
theorem int_nat0 (n : Nat) : (((n : Nat) : Int) == 0) = decide (n = 0) := by rw [Bool.eq_iff_iff]; simp
theorem grows_eq (m : Int) (hm : m ≠ 0) (o r : Bs) (ho : o.length = 32) (hr : r.length = 32) (a : Option Addr) (n c : Nat) (w : World) :
 Calls Tryz.prog 48 ([.int .i64 m, Qn o, .int .i64 m, Qn r, .slice a n c] : List Value).toArray w fun e w' => e = .returned (.bool (decide (n = 0) && decide (o = r))) ∧ Below w.heap.size w w' := by
 refine qi qc Tryz.func48 rfl Tryz.ntmps48 rfl (St.start w) ?_
 intro b6 b8
 refine cf (by simpa using hm) ?_
 refine ct (by simp) ?_
 by_cases hn : n = 0
 · subst hn
   refine ct rfl ?_
   refine ldN 0 rfl (Z5 o ho) ?_
   refine ct rfl ?_
   refine ldN 1 rfl (Z5 r hr) ?_
   refine ct rfl ?_
   refine eqS rfl ho hr ?_
   refine ct rfl ?_
   exact rt rfl
 · have e1 : (((n : Nat) : Int) == 0) = false := by rw [int_nat0]; exact decide_eq_false hn
   have e2 : ((((n : Nat) : Int) == 0) == true) = false := by rw [e1]; rfl
   iterate 3 refine cf e2 ?_
   refine cf e1 ?_
   refine rt ?_
   rw [decide_eq_false hn]; rfl
theorem grows_zero (m : Int) (o r : Bs) (ho : o.length = 32) (hr : r.length = 32) (a : Option Addr) (n c : Nat) (w : World) :
 Calls Tryz.prog 48 ([.int .i64 0, Qn o, .int .i64 m, Qn r, .slice a n c] : List Value).toArray w fun e w' => e = .returned (.bool (decide (n = 0) && (decide (0 < m) || decide (o = r)))) ∧ Below w.heap.size w w' := by
 refine qi qc Tryz.func48 rfl Tryz.ntmps48 rfl (St.start w) ?_
 intro b6 b8
 refine ct rfl ?_
 by_cases hn : n = 0
 · subst hn
   by_cases hm : 0 < m
   · have g1 : decide (m > 0) = true := decide_eq_true hm
     have g2 : (decide (m > 0) == false) = false := by rw [g1]; rfl
     iterate 3 refine ct rfl ?_
     iterate 3 refine cf g2 ?_
     refine ct rfl ?_
     refine ct g1 ?_
     refine ct rfl ?_
     refine rt ?_
     rw [decide_eq_true hm]; rfl
   · have g1 : decide (m > 0) = false := decide_eq_false hm
     have g2 : (decide (m > 0) == false) = true := by rw [g1]; rfl
     iterate 3 refine ct rfl ?_
     refine ct g2 ?_
     refine ldN 0 rfl (Z5 o ho) ?_
     refine ct g2 ?_
     refine ldN 1 rfl (Z5 r hr) ?_
     refine ct g2 ?_
     refine eqS rfl ho hr ?_
     refine ct rfl ?_
     refine cf g1 ?_
     refine ct rfl ?_
     refine rt ?_
     rw [decide_eq_false hm]; rfl
 · have e1 : (((n : Nat) : Int) == 0) = false := by rw [int_nat0]; exact decide_eq_false hn
   have e2 : ((((n : Nat) : Int) == 0) == true) = false := by rw [e1]; rfl
   iterate 4 refine cf e2 ?_
   refine cf e1 ?_
   refine rt ?_
   rw [decide_eq_false hn]; rfl
theorem rroot1_any (b c : Nat) (r : Bs) (hr : r.length = 32) (t : TypeId) (w : World) (hw : w.heap[b]? = some (.cells (Lib.byteCells r).toArray t (0, 0))) :
 Calls Tryz.prog 35 ([.slice (some ⟨b, 0, none⟩) 1 c] : List Value).toArray w fun e w' => e = .returned (Qn r) ∧ Below w.heap.size w w' := by
 have hz := Z5 r hr
 refine qi qc Tryz.func35 rfl Tryz.ntmps35 rfl (St.reads1 hw) ?_
 intro b2
 refine cf rfl ?_
 refine ct rfl ?_
 refine ⟨by decide, by decide, ?_⟩
 refine ldN 0 rfl hz ?_
 refine sN 1 rfl (hz.trans (by kernel_rfl)) (qN r) ?_ (by rw [hz]; kernel_rfl)
 refine ldN 1 rfl hz ?_
 exact rt rfl
def Qo : Nat := 2304
theorem qcC (w : World) : Calls Tryz.prog 13 ([] : List Value).toArray w fun e w' => e = .returned (.agg (k32 Qo)) ∧ Below w.heap.size w w' := by
 refine qi qc Tryz.func13 rfl Tryz.ntmps13 rfl (St.start w) ?_
 intro b0
 refine bu (c := k32 Qo) (by kernel_rfl) ?_
 refine sN 0 rfl (by kernel_rfl) (qv _) ?_ (by kernel_rfl)
 refine ldN 0 rfl (qe _) ?_
 exact rt rfl
def logB : Bs := [108, 111, 103]
def sgnH (n : Nat) (h : Hd) (A T : Bs) : Hd := { h with sig := qdt n (zs h A T) }
def hd0 (r : Bs) (n t : Int) : Hd := ⟨logB, n, t, r, List.replicate 64 0⟩
theorem Z7 (n : Nat) (bs : Bs) : (qdt n bs).length = 64 := by unfold qdt; rw [List.length_append, qr, qr]
theorem hd_put (h : Hd) (s : Bs) (hr : h.root.length = 32) (hs : h.sig.length = 64) (hs' : s.length = 64) : ((hdC h).toList.take 35 ++ (Lib.byteCells s).toArray.toList ++ (hdC h).toList.drop (35 + (Lib.byteCells s).toArray.size)).toArray = hdC { h with sig := s } := by
 have e : (hdC h).toList = ([VS h.o, .int .i64 h.size, .int .i64 h.time] ++ Lib.byteCells h.root) ++ Lib.byteCells h.sig := rfl
 have hz : (Lib.byteCells s).toArray.size = 64 := by simp [Lib.byteCells_length, hs']
 rw [hz, e, List.take_left' (by simp [Lib.byteCells_length, hr]), List.drop_of_length_le (by simp [Lib.byteCells_length, hr, hs]), List.append_nil]
 rfl
theorem list32 {P : Bs → Prop} (h : ∀ x0 x1 x2 x3 x4 x5 x6 x7 x8 x9 x10 x11 x12 x13 x14 x15 x16 x17 x18 x19 x20 x21 x22 x23 x24 x25 x26 x27 x28 x29 x30 x31, P [x0, x1, x2, x3, x4, x5, x6, x7, x8, x9, x10, x11, x12, x13, x14, x15, x16, x17, x18, x19, x20, x21, x22, x23, x24, x25, x26, x27, x28, x29, x30, x31]) : ∀ r : Bs, r.length = 32 → P r
 | [x0, x1, x2, x3, x4, x5, x6, x7, x8, x9, x10, x11, x12, x13, x14, x15, x16, x17, x18, x19, x20, x21, x22, x23, x24, x25, x26, x27, x28, x29, x30, x31], _ => h x0 x1 x2 x3 x4 x5 x6 x7 x8 x9 x10 x11 x12 x13 x14 x15 x16 x17 x18 x19 x20 x21 x22 x23 x24 x25 x26 x27 x28 x29 x30 x31
theorem hd_built (r : Bs) (n t : Int) (hr : r.length = 32) : Tryz.prog.built THd [(0, VS logB), (1, .int .i64 n), (2, .int .i64 t), (3, Qn r)] = some (hdC (hd0 r n t)) :=
 list32 (P := fun r => Tryz.prog.built THd [(0, VS logB), (1, .int .i64 n), (2, .int .i64 t), (3, Qn r)] = some (hdC (hd0 r n t))) (fun x0 x1 x2 x3 x4 x5 x6 x7 x8 x9 x10 x11 x12 x13 x14 x15 x16 x17 x18 x19 x20 x21 x22 x23 x24 x25 x26 x27 x28 x29 x30 x31 => by kernel_rfl) r hr
theorem rhead_core (v : Value) (r : Bs) (n : Nat) (t : Int) (A T : Bs) (hr : r.length = 32) (w : World) (hA : A.length ≤ 100) (hT : T.length ≤ 100)
 (hRoot : ∀ w', Below w.heap.size w w' → Calls Tryz.prog 35 ([v] : List Value).toArray w' fun e w'' => e = .returned (Qn r) ∧ Below w'.heap.size w' w'')
 (hv : ∃ a c, v = .slice a n c)
 (hAc : ∀ w', Below w.heap.size w w' → Calls Tryz.prog 91 ([.int .i64 n] : List Value).toArray w' fun e w'' => e = .returned (VS A) ∧ Below w'.heap.size w' w'')
 (hTc : ∀ w', Below w.heap.size w w' → Calls Tryz.prog 91 ([.int .i64 t] : List Value).toArray w' fun e w'' => e = .returned (VS T) ∧ Below w'.heap.size w' w'') :
 Calls Tryz.prog 20 ([v, .int .i64 t] : List Value).toArray w fun e w' => e = .returned (.agg (hdC (sgnH Qo (hd0 r n t) A T))) ∧ Below w.heap.size w w' := by
 obtain ⟨a, c, rfl⟩ := hv
 have hz : (hdC (hd0 r n t)).size = 99 := qH _ hr rfl
 have hz' : (hdC (sgnH Qo (hd0 r n t) A T)).size = 99 := qH _ hr (Z7 _ _)
 have hsz : (Lib.byteCells (qdt Qo (zs (hd0 r n t) A T))).toArray.size = 64 := by simp [Lib.byteCells_length, Z7]
 refine qi qc Tryz.func20 rfl Tryz.ntmps20 rfl (St.start w) ?_
 intro b4
 refine cvs (fun w' hs => hRoot w' hs.below) ?_
 refine bu (c := hdC (hd0 r n t)) (hd_built r n t hr) ?_
 intro b5
 refine sN 1 rfl (hz.trans (by kernel_rfl)) (z6 _) ?_ (by rw [hz]; kernel_rfl)
 refine dr [cl b4 _ THd, cl b5 (hdC (hd0 r n t)) THd] 5 (.t 0 (.t 1 (.n 2 (.n 3 (.t 4 (.n 5 .nil)))))) qc qf (by kernel_rfl) (.cons (.cons .nil)) ?_
 refine cz qcC ?_
 refine ldN 1 rfl hz ?_
 refine cMs (v := fun x : Nat × Nat => .slice (some ⟨x.1, 0, none⟩) (zs (hd0 r n t) A T).length x.2) (es := fun x => [qcI x.1 x.2 (zs (hd0 r n t) A T)]) (fun w' hs => rbody_any (hd0 r n t) A T hA hT hr rfl (by show logB.length ≤ 1000; decide) w' (fun w'' hb => hAc w'' (hs.below.trans (hb.mono hs.below.size))) (fun w'' hb => hTc w'' (hs.below.trans (hb.mono hs.below.size)))) (fun x _ e he k hk => by
  obtain rfl : e = qcI x.1 x.2 (zs (hd0 r n t) A T) := by simpa using he
  simpa using hk) (fun x _ => ?_)
 refine ⟨.cons (.cons .nil), ?_⟩
 have hbl : (zs (hd0 r n t) A T).length ≤ 10000 := by
  rw [← qd6]
  exact Nat.le_trans (qbI _ _ hr (by show logB.length ≤ 1000; decide) (by simp; omega)) (by decide)
 refine cvs (fun w' hs => rsign_any Qo _ (zs (hd0 r n t) A T) w' (Rd.ent hs 2 rfl (by rw [Lib.byteCells_length]) (by have := qbX (zs (hd0 r n t) A T) x.2; rw [szB] at this; exact this)) hbl) ?_
 refine ⟨.cons (.cons .nil), ?_⟩
 refine sP 1 rfl (by rw [hsz, hz]; decide) (qN _) (hd_put (hd0 r n t) _ hr rfl (Z7 _ _)) ?_ (by rw [hsz]; kernel_rfl)
 refine ldN 1 rfl hz' ?_
 refine sN 0 (d := hdC (sgnH Qo (hd0 r n t) A T)) rfl (hz'.trans (by kernel_rfl)) (z6 _) ?_ (by rw [hz']; kernel_rfl)
 refine ldN 0 rfl hz' ?_
 exact rt rfl
end
section
open Go.RowKit Go.Sx
theorem coW {C : Cx} {L : List Ent} {g : FuncId} {vs : List Value} {n z : Nat} {xs : List Value} {e : TypeId} {next : Value → List Ent → Prop} (F : Value → Value)
 (h : ∀ w, St C.M C.B w L → Calls C.P g vs.toArray w fun en w' => ∃ r, en = .returned (F (sv r n)) ∧ Rw z n r xs ∧ Zt w w' r xs e ∧ Below w.heap.size w w')
 (go : ∀ r, Rw z n r xs → next (F (sv r n)) (L ++ [se r xs e])) : zk C g vs L next := by
 refine ⟨fun w hs => (h w hs).mono fun en w' ⟨r, he, hR, ho, hb⟩ => ⟨_, _, he, ?_, go r hR⟩⟩
 cases r with
 | none => exact (hs.call hb).deads
 | some p =>
  obtain ⟨b, c, j⟩ := p
  obtain ⟨h1, h2⟩ := ho b c j rfl
  exact hs.add hb h1 h2
theorem RdS.at {w : World} {b o n c : Nat} {ps : List Bs} (h : RdS w (.slice (some ⟨b, o, none⟩) n c) ps) (i : Nat) (p : Bs) (hp : ps[i]? = some p) : w.rangeAt b (o + 32 * i) (Lib.byteCells p) := by
 obtain ⟨_, a3, c3, g2, _, g3⟩ := h
 obtain ⟨b', o', g4, _, g5⟩ := g3 (fun e => by subst e; simp at hp)
 injection g2 with g2 _ _
 rw [g4] at g2
 injection g2 with g2
 injection g2 with g2 g6
 subst g2 g6
 exact g5 i p hp
theorem bo_at (l : List Bool) (j : List Value) (k : Nat) (h : k < l.length) (q : Int) (hq : q = k) : (boC l ++ j).toArray[nad 0 (nmu q.toNat 1)]? = some (.bool (l.getD k false)) := by
 subst hq
 rw [qk, qj, Nat.zero_add, Nat.mul_one, Int.toNat_natCast, List.getElem?_toArray, List.getElem?_append_left (by rw [qaz]; exact h)]
 unfold boC
 rw [List.getElem?_map, List.getD_eq_getElem?_getD, List.getElem?_eq_getElem h]; rfl
theorem slTail {e z b o n c : Nat} (hn : 1 ≤ n) (hnc : n ≤ c) {next : Value → Prop} {fb : Prop} (go : ∀ a', (1 < c → a' = some ⟨b, o + z, none⟩) → next (.slice a' (n - 1) (c - 1))) :
 SliP (.sl e z) (.slice (some ⟨b, o, none⟩) n c) (some 1) none none next fb := by
 refine ⟨?_⟩
 refine .mk 1 n c rfl rfl rfl hn hnc (Nat.le_refl _) (by simp) ?_
 by_cases h1 : c = 1
 · exact .all h1 (go _ (fun h => by omega))
 · refine .on (by omega) ?_
   rw [qk, qj, Nat.one_mul]
   exact go _ (fun _ => rfl)
structure ExS where
 b7 : Nat
 b8 : Nat
 b13 : Nat
 r : Sx.Own
 a2 : Option Addr
 c2 : Nat
 rs : List Bs
 f : Bs
structure ExOk (a : Option Addr) (c : Nat) (ps : List Bs) (T : List Bool) (old new : Bs) (B : Bool) (x : ExS) : Prop where
 R : Rw 1 T.length x.r (boC T.reverse)
 f : x.f.length = 32
 ln : ∀ p ∈ x.rs, p.length = 32
 ad : x.rs ≠ [] → ∃ b o, x.a2 = some ⟨b, o, none⟩
 rd : ∀ w, RdS w (.slice a ps.length c) ps → RdS w (.slice x.a2 x.rs.length x.c2) x.rs
 B : B = extE T old new x.f x.rs
abbrev exF (a : Option Addr) (c : Nat) (ps : List Bs) (T : List Bool) (old new : Bs) (x : ExS) : Sy := ⟨[(4, .slice x.a2 x.rs.length x.c2), (7, ptr x.b7), (8, ptr x.b8), (11, sv x.r T.length), (13, ptr x.b13)], [rs (rdS a c ps), cl x.b7 (Lib.byteCells old).toArray 39, cl x.b8 (Lib.byteCells new).toArray 39, se x.r (boC T.reverse) TTn, cl x.b13 (Lib.byteCells x.f).toArray 39], []⟩
theorem ext_rest {a : Option Addr} {c : Nat} {ps : List Bs} {T : List Bool} {old new : Bs} {B : Bool} (ho : old.length = 32) (hn : new.length = 32) (hT : T.length ≤ 1048576) (w : World) (x : ExS) (hx : ExOk a c ps T old new B x) :
 CodeP ⟨Tryz.prog, tab, 87, [], w, none⟩ (dropS 5 ((Tryz.f85.body).getD .skip)) (retK ⟨Tryz.prog, tab, 87, [], w, none⟩ Tryz.f85 fun v w' => v = .bool B ∧ Below w.heap.size w w') (exF a c ps T old new x) := by
 obtain ⟨b7, b8, b13, r, a2, c2, rs', f⟩ := x
 obtain ⟨hR, hf, hln, had, hrd, hB⟩ := hx
 simp only at hR hf hln had hrd hB
 obtain ⟨sa, sc, hv⟩ := qdJ hR
 refine Zh qc _ _ _ ?_
 unfold exF
 simp only
 rw [hv]
 unfold extE at hB
 by_cases hl : rs'.length = T.length
 case neg =>
  rw [if_neg hl] at hB
  refine cne (fun _ => ?_) (fun e => absurd e (by omega))
  refine rt ?_
  rw [hB]; rfl
 rw [if_pos hl] at hB
 refine cne (fun e => absurd e (by omega)) (fun _ => ?_)
 have hz := qZ f hf
 have hz2 : (Lib.byteCells f).toArray.size = 32 := hz
 refine cutp (α := Nat × Nat) (fun _ => True) (fun x => ⟨[(4, .slice a2 rs'.length c2), (7, ptr b7), (8, ptr b8), (11, .slice sa T.length sc), (14, ptr x.1), (15, ptr x.2)], [rs (rdS a c ps), cl b7 (Lib.byteCells old).toArray 39, cl b8 (Lib.byteCells new).toArray 39, se r (boC T.reverse) TTn, cl x.1 (Lib.byteCells f).toArray 39, cl x.2 (Lib.byteCells f).toArray 39], []⟩) ?_ ?_
 · refine drs [dead, dead, dead, dead, cl b13 (Lib.byteCells f).toArray 39] [] (.t 0 (.t 1 (.b 2 3 (.n 3 (.n 4 (.n 5 .nil))) (.n 2 (.n 4 (.n 5 .nil)))))) qc qf (by kernel_rfl) (.dead (.dead (.dead (.dead (.cons .nil))))) ?_
   refine ldN 4 rfl hz ?_
   refine ldN 4 rfl hz ?_
   refine ⟨?_, ?_⟩
   · intro b14
     refine ⟨.dead (.dead (.dead (.dead (.cons .nil)))), ?_⟩
     intro b15
     refine ⟨.dead (.dead (.dead (.dead (.cons .nil)))), ?_⟩
     refine sN 5 (d := (Lib.byteCells f).toArray) rfl (hz.trans (by kernel_rfl)) (qN _) ?_ (by rw [hz]; kernel_rfl)
     refine ⟨.dead (.dead (.dead (.dead (.cons .nil)))), ?_⟩
     refine sN 6 (d := (Lib.byteCells f).toArray) rfl (hz.trans (by kernel_rfl)) (qN _) ?_ (by rw [hz]; kernel_rfl)
     refine ⟨.dead (.dead (.dead (.dead (.cons .nil)))), ?_⟩
     exact ⟨(b14, b15), trivial, ⟨rfl, rfl, rfl, rfl, rfl, rfl, trivial⟩, ⟨_, .refl _, .cons (.cons (.cons (.cons (.drop (.cons (.cons .nil))))))⟩, rfl⟩
   · intro b15
     refine ⟨.dead (.dead (.dead (.dead (.cons .nil)))), ?_⟩
     intro b14
     refine ⟨.dead (.dead (.dead (.dead (.cons .nil)))), ?_⟩
     refine sN 6 (d := (Lib.byteCells f).toArray) rfl (hz.trans (by kernel_rfl)) (qN _) ?_ (by rw [hz]; kernel_rfl)
     refine ⟨.dead (.dead (.dead (.dead (.cons .nil)))), ?_⟩
     refine sN 5 (d := (Lib.byteCells f).toArray) rfl (hz.trans (by kernel_rfl)) (qN _) ?_ (by rw [hz]; kernel_rfl)
     refine ⟨.dead (.dead (.dead (.dead (.cons .nil)))), ?_⟩
     exact ⟨(b14, b15), trivial, ⟨rfl, rfl, rfl, rfl, rfl, rfl, trivial⟩, ⟨[rs (rdS a c ps), cl b7 (Lib.byteCells old).toArray 39, cl b8 (Lib.byteCells new).toArray 39, se r (boC T.reverse) TTn, cl b15 (Lib.byteCells f).toArray 39, cl b14 (Lib.byteCells f).toArray 39], .cons _ (.cons _ (.cons _ (.cons _ (.swap _ _ _)))), .cons (.cons (.cons (.cons (.drop (.cons (.cons .nil))))))⟩, rfl⟩
 rintro ⟨b14, b15⟩ _
 refine lp qc (fun x : Nat × Bs × Bs => x.1 ≤ T.length ∧ x.2.1.length = 32 ∧ x.2.2.length = 32 ∧ foldT (T.reverse.drop x.1) (rs'.drop x.1) x.2 = foldT T.reverse rs' (f, f)) (fun x => ⟨[(7, ptr b7), (8, ptr b8), (11, .slice sa T.length sc), (14, ptr b14), (15, ptr b15), (57, .slice a2 rs'.length c2), (58, .int .i64 rs'.length), (59, .int .i64 x.1)], [rs (rdS a c ps), cl b7 (Lib.byteCells old).toArray 39, cl b8 (Lib.byteCells new).toArray 39, se r (boC T.reverse) TTn, cl b14 (Lib.byteCells x.2.1).toArray 39, cl b15 (Lib.byteCells x.2.2).toArray 39], []⟩) (fun x => T.length - x.1) (0, f, f) ⟨Nat.zero_le _, hf, hf, rfl⟩ ⟨⟨rfl, rfl, rfl, rfl, rfl, rfl, rfl, rfl, trivial⟩, .cons (.cons (.cons (.cons (.cons (.cons .nil))))), rfl⟩ ?_
 rintro ⟨i, x, y⟩ ⟨hi, hx, hy, hI⟩
 simp only at hi hx hy hI
 refine cd (fun hlt => ?_) (fun hge => ?_)
 · have hlt' : i < T.length := by (try simp only at hlt); omega
   obtain ⟨b, o, rfl⟩ := had (fun e => by subst e; simp at hl; omega)
   have hri : i < rs'.length := by omega
   obtain ⟨p, hp⟩ : ∃ p, rs'[i]? = some p := ⟨_, List.getElem?_eq_getElem hri⟩
   have hdr : rs'.drop i = p :: rs'.drop (i + 1) := by
    rw [List.drop_eq_getElem_cons hri]; congr 1; rw [List.getElem?_eq_getElem hri] at hp; exact Option.some.inj hp
   have hti : i < T.reverse.length := by simpa using hlt'
   obtain ⟨u, hu⟩ : ∃ u, T.reverse.getD i false = u := ⟨_, rfl⟩
   have hdt : T.reverse.drop i = u :: T.reverse.drop (i + 1) := by
    rw [List.drop_eq_getElem_cons hti]; congr 1; rw [← hu, List.getD_eq_getElem?_getD, List.getElem?_eq_getElem hti]; rfl
   rw [hdr, hdt] at hI
   refine ⟨by omega, by omega, ?_⟩
   have hpl : p.length = 32 := hln p (List.mem_of_getElem? hp)
   have hzp := qZ p hpl
   have hzx := qZ x hx
   have hzy := qZ y hy
   refine .mk (Lib.byteCells p).toArray hzp (fun w1 hs => by rw [qk, qj, Int.toNat_natCast, Nat.mul_comm]; exact RdS.at (hrd w1 (hs.res (k := 0) rfl)) i p hp) ?_
   intro b17
   refine sN 6 (d := (Lib.byteCells p).toArray) rfl (hzp.trans (by kernel_rfl)) (qN _) ?_ (by rw [hzp]; kernel_rfl)
   rcases r with _ | ⟨br, cr', jk⟩
   · have := hR.2; omega
   injection hv with hv1 hv2 hv3
   subst hv1
   refine ⟨by omega, by omega, ?_⟩
   refine ld1 3 rfl (v := .bool u) (by rw [← hu]; exact bo_at T.reverse jk i hti _ rfl) ?_
   cases u with
   | true =>
    refine ct rfl ?_
    refine ldN 5 rfl hzy ?_
    refine ldN 6 rfl hzp ?_
    refine cv (qcZ y p hy hpl) ?_
    have hzn := qZ (zX y p) (zQ _)
    refine sN 5 (d := (Lib.byteCells (zX y p)).toArray) rfl (hzn.trans hzy.symm) (qN _) ?_ (by rw [hzn]; kernel_rfl)
    refine .as ((i + 1 : Nat) : Int) (by simp) (by simp only [mn]; omega) (by simp only [mx]; omega) ?_
    exact ⟨(i + 1, x, zX y p), ⟨hlt', hx, zQ _, hI⟩, by (try simp only); omega, ⟨⟨rfl, rfl, rfl, rfl, rfl, rfl, rfl, rfl, trivial⟩, .cons (.cons (.cons (.cons (.cons (.cons .nil))))), rfl⟩⟩
   | false =>
    refine cf rfl ?_
    refine drs [dead, dead, dead, dead, cl b14 (Lib.byteCells x).toArray 39, cl b15 (Lib.byteCells y).toArray 39, cl b17 (Lib.byteCells p).toArray 39] [6, 7] (.t 0 (.t 1 (.t 2 (.t 3 (.t 4 (.t 5 (.n 6 (.n 7 .nil)))))))) qc qf (by kernel_rfl) (.dead (.dead (.dead (.dead (.cons (.cons (.cons .nil))))))) ?_
    refine ldN 6 rfl hzp ?_
    refine ldN 4 rfl hzx ?_
    refine cz (qcZ p x hpl hx) ?_
    refine ldN 6 rfl hzp ?_
    refine ldN 5 rfl hzy ?_
    refine cz (qcZ p y hpl hy) ?_
    have hzn := qZ (zX p x) (zQ _)
    have hzm := qZ (zX p y) (zQ _)
    refine sN 4 (d := (Lib.byteCells (zX p x)).toArray) rfl (hzn.trans hzx.symm) (qN _) ?_ (by rw [hzn]; kernel_rfl)
    refine sN 5 (d := (Lib.byteCells (zX p y)).toArray) rfl (hzm.trans hzy.symm) (qN _) ?_ (by rw [hzm]; kernel_rfl)
    refine .as ((i + 1 : Nat) : Int) (by simp) (by simp only [mn]; omega) (by simp only [mx]; omega) ?_
    exact ⟨(i + 1, zX p x, zX p y), ⟨hlt', zQ _, zQ _, hI⟩, by (try simp only); omega, ⟨⟨rfl, rfl, rfl, rfl, rfl, rfl, rfl, rfl, trivial⟩, .cons (.cons (.cons (.cons (.cons (.cons .nil))))), rfl⟩⟩
 · have hge' : T.length ≤ i := by (try simp only at hge); omega
   rw [List.drop_of_length_le (by simpa using hge')] at hI
   change (x, y) = _ at hI
   rw [← hI] at hB
   simp only at hB
   have g1 : ∀ (b : Bool), decide (x = old) = b → (decide (x = old) == true) = b := fun b h => by rw [h]; cases b <;> rfl
   refine ldN 4 rfl (qZ x hx) ?_
   refine ldN 1 rfl (qZ old ho) ?_
   refine eqS rfl hx ho ?_
   by_cases hxo : x = old
   · have p1 := g1 _ (decide_eq_true hxo)
     have p2 : decide (x = old) = true := decide_eq_true hxo
     refine ct p1 ?_
     refine ldN 5 rfl (qZ y hy) ?_
     refine ct p1 ?_
     refine ldN 2 rfl (qZ new hn) ?_
     refine ct p1 ?_
     refine eqS rfl hy hn ?_
     refine ct p2 ?_
     refine rt ?_
     rw [hB, p2]; rfl
   · have p1 := g1 _ (decide_eq_false hxo)
     have p2 : decide (x = old) = false := decide_eq_false hxo
     iterate 3 refine cf p1 ?_
     refine cf p2 ?_
     refine rt ?_
     rw [hB, p2]; rfl
theorem extends_any (m n : Int) (old new : Bs) (ho : old.length = 32) (hn : new.length = 32) (ps : List Bs) (a : Option Addr) (c : Nat) (w : World) (h : RdS w (.slice a ps.length c) ps) :
 Calls Tryz.prog 85 ([.int .i64 m, .int .i64 n, Qn old, Qn new, .slice a ps.length c] : List Value).toArray w fun e w' => e = .returned (.bool (extB m n old new ps)) ∧ Below w.heap.size w w' := by
 obtain ⟨B, hB⟩ : ∃ B, B = extB m n old new ps := ⟨_, rfl⟩
 rw [← hB]
 unfold extB at hB
 refine (enterP (c := ((Tryz.f85.body).getD .skip)) qc Tryz.func85 rfl Tryz.ntmps85 rfl (St.rdS h) (R := fun v w' => v = .bool B ∧ Below w.heap.size w w') ?_).mono (fun e w' ⟨u, he, h1, h2⟩ => ⟨by rw [he, h1], h2⟩)
 by_cases hc : n < 1 ∨ 1048576 < n ∨ m < 1 ∨ n < m
 · rw [if_pos hc] at hB
   subst hB
   refine cutS qc (fun _ : Unit => False) (fun _ => ⟨[], [], []⟩) 5 ?_ (fun _ hx => hx.elim)
   intro b7 b8
   by_cases h1 : n < 1
   · have p : decide (n < 1) = true := decide_eq_true h1
     have q : (decide (n < 1) == false) = false := by rw [p]; rfl
     repeat (first | refine cf q ?_ | refine ct q ?_ | refine cf p ?_ | refine ct p ?_ | refine cf rfl ?_ | refine ct rfl ?_)
     exact rt rfl
   have p : decide (n < 1) = false := decide_eq_false h1
   have q : (decide (n < 1) == false) = true := by rw [p]; rfl
   by_cases h2 : n > 1048576
   · have p' : decide (n > 1048576) = true := decide_eq_true h2
     have q' : (decide (n > 1048576) == false) = false := by rw [p']; rfl
     repeat (first | refine cf q' ?_ | refine ct p' ?_ | refine ct q ?_ | refine cf p ?_ | refine cf rfl ?_ | refine ct rfl ?_)
     exact rt rfl
   have p' : decide (n > 1048576) = false := decide_eq_false h2
   have q' : (decide (n > 1048576) == false) = true := by rw [p']; rfl
   by_cases h3 : m < 1
   · have p3 : decide (m < 1) = true := decide_eq_true h3
     have q3 : (decide (m < 1) == false) = false := by rw [p3]; rfl
     repeat (first | refine cf q3 ?_ | refine ct p3 ?_ | refine ct q' ?_ | refine cf p' ?_ | refine ct q ?_ | refine cf p ?_ | refine cf rfl ?_ | refine ct rfl ?_)
     exact rt rfl
   have p3 : decide (m < 1) = false := decide_eq_false h3
   have q3 : (decide (m < 1) == false) = true := by rw [p3]; rfl
   have p4 : decide (m > n) = true := decide_eq_true (by omega)
   repeat (first | refine ct p4 ?_ | refine ct q3 ?_ | refine cf p3 ?_ | refine ct q' ?_ | refine cf p' ?_ | refine ct q ?_ | refine cf p ?_ | refine cf rfl ?_ | refine ct rfl ?_)
   exact rt rfl
 rw [if_neg hc] at hB
 have p : decide (n < 1) = false := decide_eq_false (by omega)
 have q : (decide (n < 1) == false) = true := by rw [p]; rfl
 have p' : decide (n > 1048576) = false := decide_eq_false (by omega)
 have q' : (decide (n > 1048576) == false) = true := by rw [p']; rfl
 have p3 : decide (m < 1) = false := decide_eq_false (by omega)
 have q3 : (decide (m < 1) == false) = true := by rw [p3]; rfl
 have p4 : decide (m > n) = false := decide_eq_false (by omega)
 obtain ⟨m, rfl⟩ : ∃ k : Nat, m = k := ⟨m.toNat, by omega⟩
 obtain ⟨n, rfl⟩ : ∃ k : Nat, n = k := ⟨n.toNat, by omega⟩
 simp only [Int.toNat_natCast] at hB
 have hTl : (zP m n).1.length ≤ 1048576 := Nat.le_trans (stp_len n m n) (by omega)
 have hst := fun w => steps_any m n (by omega) (by omega) (by omega) w
 obtain ⟨T, hT⟩ : ∃ T, T = (zP m n).1 := ⟨_, rfl⟩
 obtain ⟨A, hA⟩ : ∃ A, A = (zP m n).2 := ⟨_, rfl⟩
 rw [← hT] at hB hTl hst
 rw [← hA] at hB hst
 clear hT hA
 have had : ps ≠ [] → ∃ b o, a = some ⟨b, o, none⟩ := fun hne => by
  obtain ⟨_, a', c', e2, _, l3⟩ := h
  injection e2 with e2 _ _
  obtain ⟨b, o, e5, _, _⟩ := l3 hne
  exact ⟨b, o, e2.trans e5⟩
 refine cutS qc (ExOk a c ps T old new B) (exF a c ps T old new) 5 ?_ (fun x hx => ext_rest ho hn hTl w x hx)
 intro b7 b8
 repeat (first | refine cf p4 ?_ | refine ct q3 ?_ | refine cf p3 ?_ | refine ct q' ?_ | refine cf p' ?_ | refine ct q ?_ | refine cf p ?_ | refine cf rfl ?_ | refine ct rfl ?_)
 refine coW (n := T.length) (z := 1) (xs := boC T.reverse) (e := TTn) (fun v => .tuple #[v, .bool A]) (fun w1 hs => hst w1) (fun r hR => ?_)
 refine ldN 1 rfl (qZ old ho) ?_
 intro b13
 refine sN 4 (d := (Lib.byteCells old).toArray) rfl ((qZ old ho).trans (by kernel_rfl)) (qN _) ?_ (by rw [qZ old ho]; kernel_rfl)
 cases A with
 | true =>
  refine cf rfl ?_
  refine ⟨⟨b7, b8, b13, r, a, c, ps, old⟩, ⟨hR, ho, h.1, fun hne => had hne, fun _ h => h, by rw [hB]; rfl⟩, ⟨⟨rfl, rfl, rfl, rfl, rfl, trivial⟩, .cons (.cons (.cons (.cons (.cons .nil)))), rfl⟩⟩
 | false =>
  refine ct rfl ?_
  cases ps with
  | nil =>
   refine ct rfl ?_
   subst hB
   exact rt rfl
  | cons p0 pr =>
   have e0 : (((p0 :: pr).length : Nat) : Int) ≠ 0 := by simp only [List.length_cons]; omega
   have e1 : ((((p0 :: pr).length : Nat) : Int) == 0) = false := by simpa using e0
   refine cf e1 ?_
   obtain ⟨l1, a', c', e2, l2, l3⟩ := h
   injection e2 with e2 e3 e4
   subst e2 e4
   obtain ⟨b, o, e5, l4, l5⟩ := l3 (by simp)
   subst e5
   have hc1 : pr ≠ [] → 1 < c := fun hne => by
    cases pr with
    | nil => exact absurd rfl hne
    | cons x y => simp only [List.length_cons] at l2; omega
   refine drm [3, 4] [rs (rdS (some ⟨b, o, none⟩) c (p0 :: pr)), cl b7 (Lib.byteCells old).toArray 39, cl b8 (Lib.byteCells new).toArray 39, se r (boC T.reverse) TTn, cl b13 (Lib.byteCells old).toArray 39] [5, 6] (.t 0 (.t 1 (.t 2 (.n 5 (.n 6 .nil))))) qc qf (by kernel_rfl) (.cons (.cons (.cons (.cons (.cons .nil))))) ?_
   refine slTail (by simp) l2 (fun a2 ha2 => ?_)
   refine ⟨by decide, by simp only [List.length_cons]; omega, ?_⟩
   refine .mk (Lib.byteCells p0).toArray (qZ _ (l1 _ (by simp))) (fun w1 hs => ?_) ?_
   · have h1 := RdS.at (hs.res (k := 0) rfl) 0 p0 rfl
     rw [qk, qj]; simpa using h1
   refine sN 4 (d := (Lib.byteCells p0).toArray) rfl ((qZ _ (l1 _ (by simp))).trans (qZ old ho).symm) (qN _) ?_ (by rw [qZ _ (l1 _ (by simp))]; kernel_rfl)
   refine ⟨⟨b7, b8, b13, r, a2, c - 1, pr, p0⟩, ⟨hR, l1 _ (by simp), fun q hq => l1 q (by simp [show q ∈ pr from hq]), fun hne => ⟨_, _, ha2 (hc1 hne)⟩, fun w1 h1 => h1.tail a2 _ (fun hne => ha2 (hc1 hne)) ?_, by rw [hB]; rfl⟩, ⟨⟨rfl, rfl, rfl, rfl, rfl, trivial⟩, .cons (.cons (.cons (.cons (.cons .nil)))), rfl⟩⟩
   · show pr.length ≤ c - 1
     simp only [List.length_cons] at l2; omega
end
section
open Go.RowKit Go.Sx
def qd0 (m : Int) (o : Bs) (n : Int) (r : Bs) (ps : List Bs) : Bool :=
 if m = 0 then decide (ps.length = 0) && (decide (0 < n) || decide (o = r)) else if m = n then decide (ps.length = 0) && decide (o = r) else extB m n o r ps
theorem grows_any (m : Int) (o : Bs) (n : Int) (r : Bs) (ho : o.length = 32) (hr : r.length = 32) (ps : List Bs) (a : Option Addr) (c : Nat) (w : World) (h : RdS w (.slice a ps.length c) ps) :
 Calls Tryz.prog 48 ([.int .i64 m, Qn o, .int .i64 n, Qn r, .slice a ps.length c] : List Value).toArray w fun e w' => e = .returned (.bool (qd0 m o n r ps)) ∧ Below w.heap.size w w' := by
 unfold qd0
 by_cases h0 : m = 0
 · subst h0
   rw [if_pos rfl]
   exact grows_zero n o r ho hr a ps.length c w
 rw [if_neg h0]
 by_cases h1 : m = n
 · subst h1
   rw [if_pos rfl]
   exact grows_eq m h0 o r ho hr a ps.length c w
 rw [if_neg h1]
 refine qi qc Tryz.func48 rfl Tryz.ntmps48 rfl (St.rdS h) ?_
 intro b6 b8
 refine cf (by simpa using h0) ?_
 refine cf (by simpa using h1) ?_
 refine ldN 1 rfl (qZ o ho) ?_
 refine ldN 2 rfl (qZ r hr) ?_
 refine cvs (fun w1 hs => extends_any m n o r ho hr ps a c w1 (hs.res (k := 0) rfl)) ?_
 exact rt rfl
end
end Go.Proofs.YtbgefoamhdgnaaaGreatDoor
section
namespace Go.Sx
open Go Go.RowKit
def noJ (K : Exit → Sy → Prop) : Exit → Sy → Prop := fun e s => match e with
 | .goto _ => False
 | e => K e s
theorem scp {C : Cx} (hT : TabOk C.P C.T) (hF : C.F = none) {c : Code} {K : Exit → Sy → Prop} {s : Sy} (h : cx C c (noJ K) s) : CodeP C (.scope c) K s := by
 refine ⟨fun n a w hf hs => ?_⟩
 have h1 := (Zh hT c _ s h).go n a w hf hs
 have hw : C.fence = Fence.wide := by unfold Cx.fence; rw [hF]
 rw [hw] at h1 ⊢
 refine wpIn_wide.2 (wp_scope_straight ?_)
 refine Code.wp_mono ?_ (wpIn_wide.1 h1)
 intro e a' w' hq
 cases e <;> first | exact hq | (obtain ⟨_, _, _, hk⟩ := hq; exact hk.elim)
end Go.Sx
namespace Go.Proofs.YtbgefoamhdgnaaaGreatDoor
open Go.RowKit Go.Sx
theorem ibs_call (s : ByteArray) (c : Nat) (w : World) : (callFunc 266 #[.string s, .int .u8 (c : Int)]).run Tryz.prog w = .ok (.value (.int .i64 (firstIdx s c.toUInt8))) w := by
 rw [run_callFunc_extern Tryz.func266 (by kernel_rfl) (by kernel_rfl) (by kernel_rfl) (e := Extern.BytealgIndexByte.indexByte) (by kernel_rfl), run_indexByte_string]
 rfl
theorem ib_any (s : ByteArray) (c : UInt8) (w : World) : Calls Tryz.prog 204 ([.string s, .int .u8 c.toNat] : List Value).toArray w fun e w' => e = .returned (.int .i64 (firstIdx s c)) ∧ Below w.heap.size w w' := by
 refine qi qc Tryz.func204 rfl Tryz.ntmps204 rfl (St.start w) ?_
 refine inl (C := ⟨Tryz.prog, tab, 8, [], w, none⟩) qc Tryz.func240 rfl Tryz.ntmps240 rfl ?_
 refine qdf rfl rfl rfl (fun w hs => ibs_call s c.toNat w) ?_
 exact bk (rt (by show Value.int .i64 (firstIdx s c.toNat.toUInt8) = _; simp))
def sg4 : Bs := [46, 45, 95, 64]
theorem dec_top (s : Bs) (i : Nat) (h : i < s.length) : (Utf8.decode ⟨s.toArray⟩ i).1 < 1114112 := by
 have hb : ∀ x : UInt8, x.toNat < 256 := fun x => UInt8.toNat_lt x
 unfold Utf8.decode Utf8.runeError Utf8.valid
 simp only [Nat.add_zero, get_str s i h]
 have := hb s[i]
 generalize s[i].toNat = n at *
 repeat' split
 all_goals simp only
 all_goals first | omega | (simp only [Bool.and_eq_true, Bool.or_eq_true, decide_eq_true_eq] at *; omega)
theorem enc_hi (r : Nat) (h : 128 ≤ r) : ∃ (pre : Bs) (c : Nat), 1 ≤ pre.length ∧ pre.length ≤ 3 ∧ Utf8.encode (r : Int) = ⟨(pre ++ [UInt8.ofNat (128 + c % 64)]).toArray⟩ := by
 unfold Utf8.encode
 generalize hc : (if Utf8.valid (r : Int) then ((r : Nat) : Int).toNat else Utf8.runeError) = c
 have h2 : ¬ c < 128 := by
  rw [← hc]; split
  · simp; omega
  · decide
 simp only [if_neg h2]
 split
 · exact ⟨[UInt8.ofNat (192 + c / 64)], c, by simp, by simp, rfl⟩
 · split
   · exact ⟨[UInt8.ofNat (224 + c / 4096), UInt8.ofNat (128 + c / 64 % 64)], c, by simp, by simp, rfl⟩
   · exact ⟨[UInt8.ofNat (240 + c / 262144), UInt8.ofNat (128 + c / 4096 % 64), UInt8.ofNat (128 + c / 64 % 64)], c, by simp, by simp, rfl⟩
theorem cvRune (r : Int) (w : World) : (convert 21 9 (.int .i32 r)).run Tryz.prog w = .ok (.string (Utf8.encode r)) w := by kernel_rfl
theorem fi_hi (l : Bs) (hl : ∀ b ∈ l, b.toNat < 128) (c : UInt8) (hc : 128 ≤ c.toNat) : firstIdx ⟨l.toArray⟩ c = -1 := firstIdx_none _ _ fun b hb e => by
 have := hl b (by simpa using hb)
 rw [e] at this; omega
theorem sg4_lo : ∀ b ∈ sg4, b.toNat < 128 := by decide
theorem valid_any (r : Nat) (w : World) : Calls Tryz.prog 263 ([.int .i32 r] : List Value).toArray w fun e w' => e = .returned (.bool (decide (r < 55296) || decide (57343 < r) && decide (r ≤ 1114111))) ∧ Below w.heap.size w w' := by
 have h0 : decide ((0 : Int) ≤ (r : Int)) = true := decide_eq_true (by omega)
 have h0' : (decide ((0 : Int) ≤ (r : Int)) == true) = true := by rw [h0]; rfl
 refine qi qc Tryz.func263 rfl Tryz.ntmps263 rfl (St.start w) ?_
 iterate 2 refine ct h0' ?_
 refine ct h0 ?_
 refine cd (fun h1 => ?_) (fun h1 => ?_)
 · refine rt ?_
   rw [decide_eq_true (show r < 55296 by omega)]; rfl
 · have e1 : decide (r < 55296) = false := decide_eq_false (by omega)
   by_cases h2 : 57343 < r
   · have g2 : decide ((57343 : Int) < (r : Int)) = true := decide_eq_true (by omega)
     have g2' : (decide ((57343 : Int) < (r : Int)) == true) = true := by rw [g2]; rfl
     iterate 2 refine ct g2' ?_
     refine ct g2 ?_
     refine cd (fun h3 => ?_) (fun h3 => ?_)
     · refine rt ?_
       rw [e1, decide_eq_true h2, decide_eq_true (show r ≤ 1114111 by omega)]; rfl
     · refine rt ?_
       rw [e1, decide_eq_false (show ¬ r ≤ 1114111 by omega), Bool.and_false]; rfl
   · have g2 : decide ((57343 : Int) < (r : Int)) = false := decide_eq_false (by omega)
     have g2' : (decide ((57343 : Int) < (r : Int)) == true) = false := by rw [g2]; rfl
     iterate 2 refine cf g2' ?_
     refine cf g2 ?_
     refine cf rfl ?_
     refine rt ?_
     rw [e1, decide_eq_false h2]; rfl
theorem szC (a : Bs) : (⟨a.toArray⟩ : ByteArray).size = a.length := by simp [ByteArray.size]
theorem sg4_at (i : Nat) (h : i < (⟨sg4.toArray⟩ : ByteArray).size) : (⟨sg4.toArray⟩ : ByteArray)[i].toNat < 128 := sg4_lo _ (List.getElem_mem (l := sg4) (n := i) (by rw [szC] at h; exact h))
theorem last_at (pre : Bs) (x : UInt8) (h : pre.length < (⟨(pre ++ [x]).toArray⟩ : ByteArray).size) : (⟨(pre ++ [x]).toArray⟩ : ByteArray)[pre.length] = x := by
 show (pre ++ [x]).toArray[pre.length] = x
 simp
theorem idxr_hi (r : Nat) (hr : 128 ≤ r) (hr2 : r < 1114112) (w : World) : Calls Tryz.prog 239 ([VS sg4, .int .i32 r] : List Value).toArray w fun e w' => e = .returned (.int .i64 (-1)) ∧ Below w.heap.size w w' := by
 have h0 : decide ((0 : Int) ≤ (r : Int)) = true := decide_eq_true (by omega)
 have h0' : (decide ((0 : Int) ≤ (r : Int)) == true) = true := by rw [h0]; rfl
 have h1 : decide ((r : Int) < 128) = false := decide_eq_false (by omega)
 refine qi qc Tryz.func239 rfl Tryz.ntmps239 rfl (St.start w) ?_
 iterate 2 refine ct h0' ?_
 refine ct h0 ?_
 refine cf h1 ?_
 refine cq (fun he => ?_) (fun he => ?_)
 · refine rngS qcu (fun b => ?_)
   refine lp qc (fun i : Nat => i ≤ 4) (fun i => ⟨[(175, ptr b)], [siE b ⟨sg4.toArray⟩ i], []⟩) (fun i => 4 - i) 0 (by decide) ⟨⟨rfl, trivial⟩, .cons .nil, rfl⟩ ?_
   intro i hi
   refine nxtS 0 rfl (fun h => ?_) (fun h => ?_)
   · refine cf rfl ?_
     exact rt rfl
   · have hi4 : i < sg4.length := h
     have hi5 : i < 4 := h
     have hlo := sg4_lo _ (List.getElem_mem hi4)
     rw [dec_lo sg4 i hi4 hlo]
     refine ct rfl ?_
     refine cf (by simp only [beq_eq_false_iff_ne]; omega) ?_
     exact ⟨i + 1, by omega, by omega, ⟨⟨rfl, trivial⟩, .cons .nil, rfl⟩⟩
 · refine cv (valid_any r) ?_
   generalize (decide (r < 55296) || decide (57343 < r) && decide (r ≤ 1114111)) = v
   cases v with
   | false =>
    refine ct rfl ?_
    exact rt rfl
   | true =>
    refine cf rfl ?_
    refine scp qc rfl ?_
    refine semV (fun w _ => cvRune r w) ?_
    obtain ⟨pre, c, p1, p2, hen⟩ := enc_hi r hr
    rw [hen]
    have hx : 128 ≤ (UInt8.ofNat (128 + c % 64)).toNat := by simp; omega
    generalize UInt8.ofNat (128 + c % 64) = x at *
    have hsz : (⟨(pre ++ [x]).toArray⟩ : ByteArray).size = pre.length + 1 := by rw [szC]; simp
    have hla := last_at pre x (by omega)
    refine .as ((pre.length : Nat) : Int) (by rw [hsz]; simp) (by simp only [mn]; omega) (by simp only [mx]; omega) ?_
    refine lp qc (fun _ : Unit => True) (fun _ => ⟨[(0, VS sg4), (7, VS (pre ++ [x])), (8, .int .i64 pre.length), (9, .int .i64 pre.length)], [], []⟩) (fun _ => 0) () trivial ⟨⟨rfl, rfl, rfl, rfl, trivial⟩, .nil, rfl⟩ ?_
    intro _ _
    refine ct (decide_eq_true (by show (pre.length : Int) < 4; omega)) ?_
    refine scp qc rfl ?_
    refine dr [] 99 (.t 0 (.t 1 (.t 2 (.t 3 (.t 4 (.t 5 (.t 6 .nil))))))) qc qf (by kernel_rfl) .nil ?_
    refine ⟨by omega, by rw [Int.toNat_natCast]; show pre.length < 4; omega, ?_⟩
    refine ⟨by omega, by rw [Int.toNat_natCast, hsz]; omega, ?_⟩
    refine cne (fun _ => ?_) (fun hq => ?_)
    · refine dr [] 99 (.t 0 (.t 1 (.t 2 (.t 3 (.t 4 (.t 5 (.t 6 (.t 7 (.t 8 .nil))))))))) qc qf (by kernel_rfl) .nil ?_
      refine .as ((pre.length + 1 : Nat) : Int) (by simp) (by simp only [mn]; omega) (by simp only [mx]; omega) ?_
      refine slFF (s := sg4) (pre.length + 1) (by show pre.length + 1 ≤ 4; omega) rfl ?_
      refine ⟨by omega, by rw [Int.toNat_natCast, hsz]; omega, ?_⟩
      simp only [Int.toNat_natCast, hla]
      refine cz (fun w => ib_any ⟨(sg4.drop (pre.length + 1)).toArray⟩ x w) ?_
      rw [fi_hi _ (fun b hb => sg4_lo b (List.mem_of_mem_drop hb)) x hx]
      refine ct rfl ?_
      exact rt rfl
    · exfalso
      simp only [Int.toNat_natCast, hla] at hq
      have := sg4_at pre.length (by show pre.length < 4; omega)
      omega
end Go.Proofs.YtbgefoamhdgnaaaGreatDoor
end
namespace Go.Proofs.YtbgefoamhdgnaaaGreatDoor
section
open Go.RowKit Go.Sx
def fourB (c : Nat) : Bool := decide (c = 46) || decide (c = 45) || decide (c = 95) || decide (c = 64)
theorem four_tab : ∀ c, c < 128 → decide (firstIdx ⟨sg4.toArray⟩ (UInt8.ofNat c) ≥ 0) = fourB c := by decide +kernel
theorem idxr_lo (c : Nat) (hc : c < 128) (w : World) : Calls Tryz.prog 239 ([VS sg4, .int .i32 c] : List Value).toArray w fun e w' => e = .returned (.int .i64 (firstIdx ⟨sg4.toArray⟩ (UInt8.ofNat c))) ∧ Below w.heap.size w w' := by
 have h0 : decide ((0 : Int) ≤ (c : Int)) = true := decide_eq_true (by omega)
 have h0' : (decide ((0 : Int) ≤ (c : Int)) == true) = true := by rw [h0]; rfl
 have h1 : decide ((c : Int) < 128) = true := decide_eq_true (by omega)
 refine qi qc Tryz.func239 rfl Tryz.ntmps239 rfl (St.start w) ?_
 iterate 2 refine ct h0' ?_
 refine ct h0 ?_
 refine ct h1 ?_
 refine .as (((UInt8.ofNat c).toNat : Nat) : Int) (by simp; omega) (by simp only [mn]; omega) (by have := UInt8.toNat_lt (UInt8.ofNat c); simp only [mx]; omega) ?_
 refine cv (fun w => ib_any ⟨sg4.toArray⟩ (UInt8.ofNat c) w) ?_
 exact rt rfl
theorem qbW (c : Nat) (hc : c < 1114112) (w : World) : Calls Tryz.prog 203 ([VS sg4, .int .i32 c] : List Value).toArray w fun e w' => e = .returned (.bool (fourB c)) ∧ Below w.heap.size w w' := by
 refine qi qc Tryz.func203 rfl Tryz.ntmps203 rfl (St.start w) ?_
 by_cases h : c < 128
 · refine cv (idxr_lo c h) ?_
   exact rt (congrArg Value.bool (four_tab c h))
 · refine cv (idxr_hi c (by omega) hc) ?_
   refine rt (congrArg Value.bool ?_)
   unfold fourB
   rw [decide_eq_false (show ¬ c = 46 by omega), decide_eq_false (show ¬ c = 45 by omega), decide_eq_false (show ¬ c = 95 by omega), decide_eq_false (show ¬ c = 64 by omega)]
   rfl
theorem odd_any (c : Nat) (hc : c < 1114112) (w : World) : Calls Tryz.prog 202 ([.int .i32 c] : List Value).toArray w fun e w' => e = .returned (.bool (qcY c)) ∧ Below w.heap.size w w' := by
 by_cases hl : 97 ≤ c ∧ c ≤ 122
 · have := qcX c hl.1 hl.2 w
   rwa [show qcY c = false by unfold qcY; rw [decide_eq_true hl]; rfl]
 refine qi qc Tryz.func202 rfl Tryz.ntmps202 rfl (St.start w) ?_
 by_cases hd : 48 ≤ c ∧ c ≤ 57
 · have ho : qcY c = false := by unfold qcY; rw [decide_eq_true hd, Bool.or_true]; rfl
   rw [ho]
   have a1 : decide ((c : Int) < 97) = true := decide_eq_true (by omega)
   have a2 : decide ((c : Int) > 122) = false := decide_eq_false (by omega)
   have a3 : decide ((c : Int) < 48) = false := decide_eq_false (by omega)
   have a4 : decide ((c : Int) > 57) = false := decide_eq_false (by omega)
   refine cf (by first | rfl | (rw [a1]; rfl)) ?_
   refine cf (by first | rfl | (rw [a1]; rfl)) ?_
   refine ct (by first | rfl | exact a1) ?_
   refine ct (by first | rfl | (rw [a1]; rfl)) ?_
   refine ct (by first | rfl | (rw [a1]; rfl)) ?_
   refine ct (by first | rfl | (rw [a1]; rfl)) ?_
   refine ct (by first | rfl | (rw [a3]; rfl)) ?_
   refine ct (by first | rfl | (rw [a3]; rfl)) ?_
   refine ct (by first | rfl | (rw [a1]; rfl)) ?_
   refine cf (by first | rfl | exact a3) ?_
   refine ct (by first | rfl | exact a1) ?_
   iterate 3 refine cf (by rw [a4]; rfl) ?_
   refine cf a4 ?_
   exact rt rfl
 · have ho : qcY c = !fourB c := by unfold qcY fourB; rw [decide_eq_false hl, decide_eq_false hd]; rfl
   rw [ho]
   rcases (show c < 48 ∨ (57 < c ∧ c < 97) ∨ 122 < c by omega) with h | h | h
   · have a1 : decide ((c : Int) < 97) = true := decide_eq_true (by omega)
     have a2 : decide ((c : Int) > 122) = false := decide_eq_false (by omega)
     have a3 : decide ((c : Int) < 48) = true := decide_eq_true (by omega)
     have a4 : decide ((c : Int) > 57) = false := decide_eq_false (by omega)
     refine cf (by first | rfl | (rw [a1]; rfl)) ?_
     refine cf (by first | rfl | (rw [a1]; rfl)) ?_
     refine ct (by first | rfl | exact a1) ?_
     refine ct (by first | rfl | (rw [a1]; rfl)) ?_
     refine ct (by first | rfl | (rw [a1]; rfl)) ?_
     refine ct (by first | rfl | (rw [a1]; rfl)) ?_
     refine cf (by first | rfl | (rw [a3]; rfl)) ?_
     refine cf (by first | rfl | (rw [a3]; rfl)) ?_
     refine ct (by first | rfl | (rw [a1]; rfl)) ?_
     refine ct (by first | rfl | exact a3) ?_
     refine ct (by first | rfl | exact a1) ?_
     refine ct (by first | rfl | (rw [a3]; rfl)) ?_
     refine ct (by first | rfl | (rw [a3]; rfl)) ?_
     refine cv (qbW c hc) ?_
     refine ct (by first | rfl | (rw [a3]; rfl)) ?_
     refine ct (by first | rfl | exact a3) ?_
     exact rt rfl
   · have a1 : decide ((c : Int) < 97) = true := decide_eq_true (by omega)
     have a2 : decide ((c : Int) > 122) = false := decide_eq_false (by omega)
     have a3 : decide ((c : Int) < 48) = false := decide_eq_false (by omega)
     have a4 : decide ((c : Int) > 57) = true := decide_eq_true (by omega)
     refine cf (by first | rfl | (rw [a1]; rfl)) ?_
     refine cf (by first | rfl | (rw [a1]; rfl)) ?_
     refine ct (by first | rfl | exact a1) ?_
     refine ct (by first | rfl | (rw [a1]; rfl)) ?_
     refine ct (by first | rfl | (rw [a1]; rfl)) ?_
     refine ct (by first | rfl | (rw [a1]; rfl)) ?_
     refine ct (by first | rfl | (rw [a3]; rfl)) ?_
     refine ct (by first | rfl | (rw [a3]; rfl)) ?_
     refine ct (by first | rfl | (rw [a1]; rfl)) ?_
     refine cf (by first | rfl | exact a3) ?_
     refine ct (by first | rfl | exact a1) ?_
     refine ct (by first | rfl | (rw [a4]; rfl)) ?_
     refine ct (by first | rfl | (rw [a4]; rfl)) ?_
     refine cv (qbW c hc) ?_
     refine ct (by first | rfl | (rw [a4]; rfl)) ?_
     refine ct (by first | rfl | exact a4) ?_
     exact rt rfl
   · have a1 : decide ((c : Int) < 97) = false := decide_eq_false (by omega)
     have a2 : decide ((c : Int) > 122) = true := decide_eq_true (by omega)
     have a3 : decide ((c : Int) < 48) = false := decide_eq_false (by omega)
     have a4 : decide ((c : Int) > 57) = true := decide_eq_true (by omega)
     refine ct (by first | rfl | (rw [a1]; rfl)) ?_
     refine ct (by first | rfl | (rw [a1]; rfl)) ?_
     refine cf (by first | rfl | exact a1) ?_
     refine ct (by first | rfl | (rw [a2]; rfl)) ?_
     refine ct (by first | rfl | (rw [a2]; rfl)) ?_
     refine ct (by first | rfl | (rw [a2]; rfl)) ?_
     refine ct (by first | rfl | (rw [a3]; rfl)) ?_
     refine ct (by first | rfl | (rw [a3]; rfl)) ?_
     refine ct (by first | rfl | (rw [a2]; rfl)) ?_
     refine cf (by first | rfl | exact a3) ?_
     refine ct (by first | rfl | exact a2) ?_
     refine ct (by first | rfl | (rw [a4]; rfl)) ?_
     refine ct (by first | rfl | (rw [a4]; rfl)) ?_
     refine cv (qbW c hc) ?_
     refine ct (by first | rfl | (rw [a4]; rfl)) ?_
     refine ct (by first | rfl | exact a4) ?_
     exact rt rfl
theorem cfuncN_any (s : Bs) (w : World) : Calls Tryz.prog 195 ([VS s, oddF] : List Value).toArray w fun e w' => e = .returned (.bool (s.any fun c => qcY c.toNat)) ∧ Below w.heap.size w w' :=
 qd3 s qcY (fun c hc => by unfold qcY; rw [decide_eq_false (by omega), decide_eq_false (by omega), decide_eq_false (by omega), decide_eq_false (by omega), decide_eq_false (by omega), decide_eq_false (by omega)]; rfl) (fun i hi w => odd_any _ (dec_top s i hi) w) w
theorem qdU (s : Bs) (w : World) : Calls Tryz.prog 146 ([VS s] : List Value).toArray w fun e w' => e = .returned (.bool (Zl s)) ∧ Below w.heap.size w w' := by
 refine qi qc Tryz.func146 rfl Tryz.ntmps146 rfl (St.start w) ?_
 have e1 : (!((ByteArray.mk s.toArray).toList == (ByteArray.mk #[]).toList)) = decide (1 ≤ s.length) := by
  rw [show (#[] : Array UInt8) = ([] : Bs).toArray from rfl, qam]
  cases s <;> simp
 have e2 : decide (((⟨s.toArray⟩ : ByteArray).size : Int) ≤ 64) = decide (s.length ≤ 64) := by rw [szC]; exact decide_eq_decide.2 (by omega)
 unfold Zl
 by_cases h1 : 1 ≤ s.length
 · rw [decide_eq_true h1] at e1 ⊢
   iterate 3 refine ct (by rw [e1]; rfl) ?_
   refine ct e1 ?_
   by_cases h2 : s.length ≤ 64
   · rw [decide_eq_true h2] at e2 ⊢
     iterate 3 refine ct (by rw [e2]; rfl) ?_
     refine cv (cfuncN_any s) ?_
     refine ct (by rw [e2]; rfl) ?_
     refine ct e2 ?_
     exact rt rfl
   · rw [decide_eq_false h2] at e2 ⊢
     iterate 4 refine cf (by rw [e2]; rfl) ?_
     refine cf e2 ?_
     exact rt rfl
 · rw [decide_eq_false h1] at e1 ⊢
   iterate 3 refine cf (by rw [e1]; rfl) ?_
   refine cf e1 ?_
   iterate 4 refine cf rfl ?_
   refine cf rfl ?_
   exact rt rfl
theorem qc0 (s : Bs) (h : Zl s = true) : zJ s := fun w => by have := qdU s w; rwa [h] at this
theorem own_gen (s : Bs) (g : Value) (w : World) :
 Calls Tryz.prog 101 ([.agg (Zp 4 3 s g)] : List Value).toArray w fun e w' => e = .returned (.bool (Zl s)) ∧ Below w.heap.size w w' := by
 refine qi qc Tryz.func101 rfl Tryz.ntmps101 rfl (St.start w) ?_
 intro b
 repeat (first | refine ct rfl ?_ | refine cf rfl ?_ | refine ld1 0 rfl rfl ?_ | refine cv (qdU s) ?_ | exact rt rfl | refine bk ?_)
theorem check_no (s : Bs) (hn : Zl s = false) (g : Value) (w : World) : Calls Tryz.prog 72 ([.agg (Zp 4 3 s g)] : List Value).toArray w fun e w' => e = .returned (ErrN 11) ∧ Below w.heap.size w w' := by
 refine qi qc Tryz.func72 rfl Tryz.ntmps72 rfl (St.start w) ?_
 have ho := fun w => own_gen s g w
 rw [hn] at ho
 intro b1
 refine dr [cl b1 (Zp 4 3 s g) TEn] 99 (.t 0 (.n 1 (.t 2 (.t 3 (.t 4 (.t 5 (.n 6 (.t 7 (.t 8 (.t 9 (.t 10 (.t 12 (.t 13 (.t 14 (.t 15 (.t 16 (.n 11 (.n 17 (.t 18 (.t 19 .nil)))))))))))))))))))) qc qf (by kernel_rfl) (.cons .nil) ?_
 refine ldN 0 rfl rfl ?_
 refine cv ho ?_
 refine ⟨.cons .nil, ?_⟩
 repeat (first | refine ct rfl ?_ | refine cf rfl ?_ | exact rt rfl)
theorem keysIs_gen (s : Bs) (w : World) : Calls Tryz.prog 41 ([VS (idP ++ s)] : List Value).toArray w fun e w' => e = .returned (.bool (Zl s)) ∧ Below w.heap.size w w' := by
 cases hn : Zl s with
 | true => exact qaP s (qc0 s hn) w
 | false =>
  refine qi qc Tryz.func41 rfl Tryz.ntmps41 rfl (St.start w) ?_
  refine cv (cutp_any idP s) ?_
  refine ct rfl ?_
  refine bu (c := Qs) (by kernel_rfl) ?_
  refine .mk Qs TSg (fun w => bsSg w) (fun bn => ?_)
  refine bu (c := Zp 4 3 s (sg1 bn 1)) (by kernel_rfl) ?_
  intro b5
  refine sN 1 rfl rfl rfl ?_ (by kernel_rfl)
  refine ldN 1 rfl rfl ?_
  refine cv (check_no s hn _) ?_
  exact rt rfl
def ZD (h : Hd) : Bool := Zl h.o && decide (0 ≤ h.size) && decide (h.size ≤ 1048576) && decide (0 ≤ h.time) && decide (h.time ≤ 9007199254740991)
theorem sound_gen (h : Hd) (hl : h.o.length ≤ 1000000) (w : World) :
 Calls Tryz.prog 115 ([.agg (hdC h)] : List Value).toArray w fun e w' => e = .returned (.bool (ZD h)) ∧ Below w.heap.size w w' := by
 have hk := fun w => keysIs_gen h.o w
 by_cases hg : ZD h = true
 · rw [hg]
   simp only [ZD, Bool.and_eq_true, decide_eq_true_eq] at hg
   exact qdH h hl (qc0 _ hg.1.1.1.1) hg.1.1.1.2 hg.1.1.2 hg.1.2 hg.2 w
 · rw [show ZD h = false by simpa using hg]
   refine qi qc Tryz.func115 rfl Tryz.ntmps115 rfl (St.start w) ?_
   intro b1
   refine ld1 0 rfl rfl ?_
   refine cv (qbM h.o hl) ?_
   cases hn : Zl h.o with
   | false =>
    rw [hn] at hk
    refine cv hk ?_
    iterate 4
     iterate 3 refine cf rfl ?_
     refine cf rfl ?_
    exact rt rfl
   | true =>
    rw [hn] at hk
    refine cv hk ?_
    simp only [ZD, Bool.and_eq_true, decide_eq_true_eq, hn, true_and] at hg
    by_cases c1 : 0 ≤ h.size
    · by_cases c2 : h.size ≤ 1048576
      · by_cases c3 : 0 ≤ h.time
        · have e1 : decide (h.size ≥ 0) = true := decide_eq_true (by omega)
          have e2 : decide (h.size ≤ 1048576) = true := decide_eq_true (by omega)
          have e3 : decide (h.time ≥ 0) = true := decide_eq_true (by omega)
          have e4 : decide (h.time ≤ 9007199254740991) = false := decide_eq_false (by omega)
          refine ct (by rfl) ?_
          refine ct (by rfl) ?_
          refine ld1 0 rfl rfl ?_
          refine ct (by rfl) ?_
          refine ct (by rfl) ?_
          refine ct (by first | rfl | (rw [e1]; rfl)) ?_
          refine ct (by first | rfl | (rw [e1]; rfl)) ?_
          refine ld1 0 rfl rfl ?_
          refine ct (by first | rfl | (rw [e1]; rfl)) ?_
          refine ct (by first | rfl | exact e1) ?_
          refine ct (by first | rfl | (rw [e2]; rfl)) ?_
          refine ct (by first | rfl | (rw [e2]; rfl)) ?_
          refine ld1 0 rfl rfl ?_
          refine ct (by first | rfl | (rw [e2]; rfl)) ?_
          refine ct (by first | rfl | exact e2) ?_
          refine ct (by first | rfl | (rw [e3]; rfl)) ?_
          refine ct (by first | rfl | (rw [e3]; rfl)) ?_
          refine ld1 0 rfl rfl ?_
          refine ct (by first | rfl | (rw [e3]; rfl)) ?_
          refine ct (by first | rfl | exact e3) ?_
          exact rt (congrArg Value.bool e4)
        · have e1 : decide (h.size ≥ 0) = true := decide_eq_true (by omega)
          have e2 : decide (h.size ≤ 1048576) = true := decide_eq_true (by omega)
          have e3 : decide (h.time ≥ 0) = false := decide_eq_false (by omega)
          refine ct (by rfl) ?_
          refine ct (by rfl) ?_
          refine ld1 0 rfl rfl ?_
          refine ct (by rfl) ?_
          refine ct (by rfl) ?_
          refine ct (by first | rfl | (rw [e1]; rfl)) ?_
          refine ct (by first | rfl | (rw [e1]; rfl)) ?_
          refine ld1 0 rfl rfl ?_
          refine ct (by first | rfl | (rw [e1]; rfl)) ?_
          refine ct (by first | rfl | exact e1) ?_
          refine ct (by first | rfl | (rw [e2]; rfl)) ?_
          refine ct (by first | rfl | (rw [e2]; rfl)) ?_
          refine ld1 0 rfl rfl ?_
          refine ct (by first | rfl | (rw [e2]; rfl)) ?_
          refine ct (by first | rfl | exact e2) ?_
          refine cf (by first | rfl | (rw [e3]; rfl)) ?_
          refine cf (by first | rfl | (rw [e3]; rfl)) ?_
          refine cf (by first | rfl | (rw [e3]; rfl)) ?_
          refine cf (by first | rfl | exact e3) ?_
          exact rt rfl
      · have e1 : decide (h.size ≥ 0) = true := decide_eq_true (by omega)
        have e2 : decide (h.size ≤ 1048576) = false := decide_eq_false (by omega)
        refine ct (by rfl) ?_
        refine ct (by rfl) ?_
        refine ld1 0 rfl rfl ?_
        refine ct (by rfl) ?_
        refine ct (by rfl) ?_
        refine ct (by first | rfl | (rw [e1]; rfl)) ?_
        refine ct (by first | rfl | (rw [e1]; rfl)) ?_
        refine ld1 0 rfl rfl ?_
        refine ct (by first | rfl | (rw [e1]; rfl)) ?_
        refine ct (by first | rfl | exact e1) ?_
        refine cf (by first | rfl | (rw [e2]; rfl)) ?_
        refine cf (by first | rfl | (rw [e2]; rfl)) ?_
        refine cf (by first | rfl | (rw [e2]; rfl)) ?_
        refine cf (by first | rfl | exact e2) ?_
        refine cf (by rfl) ?_
        refine cf (by rfl) ?_
        refine cf (by rfl) ?_
        refine cf (by rfl) ?_
        exact rt rfl
    · have e1 : decide (h.size ≥ 0) = false := decide_eq_false (by omega)
      refine ct (by rfl) ?_
      refine ct (by rfl) ?_
      refine ld1 0 rfl rfl ?_
      refine ct (by rfl) ?_
      refine ct (by rfl) ?_
      refine cf (by first | rfl | (rw [e1]; rfl)) ?_
      refine cf (by first | rfl | (rw [e1]; rfl)) ?_
      refine cf (by first | rfl | (rw [e1]; rfl)) ?_
      refine cf (by first | rfl | exact e1) ?_
      refine cf (by rfl) ?_
      refine cf (by rfl) ?_
      refine cf (by rfl) ?_
      refine cf (by rfl) ?_
      refine cf (by rfl) ?_
      refine cf (by rfl) ?_
      refine cf (by rfl) ?_
      refine cf (by rfl) ?_
      exact rt rfl
end
section
open Go.RowKit Go.Sx
def Laid (w : World) : Prop := Lib.TabIs Tryz.prog w "internal/strconv.uint64pow10" .u64 Lib.pow10Tab
theorem pow_at : ∃ g, Tryz.prog.globalNamed "internal/strconv.uint64pow10" = some g := Option.isSome_iff_exists.1 (by kernel_rfl)
theorem Laid.below {w w' : World} {B : Nat} (h : Laid w) (hB : w.heap.size ≤ B) (hb : Below B w w') : Laid w' := by
 obtain ⟨g, hg⟩ := pow_at
 have hlt : g < w.heap.size := World.block_lt_of_cell? w _ (Lib.TabIs.cell h hg 0 (by decide))
 unfold Laid Lib.TabIs World.var? at *
 rw [hg] at h ⊢
 simp only [Option.bind_some] at h ⊢
 rw [hb.block _ (by omega)]
 exact h
theorem itoa_any (n : Int) (h0 : -9223372036854775808 ≤ n) (h1 : n ≤ 9223372036854775807) (w : World) (hl : Laid w) : Calls Tryz.prog 116 ([.int .i64 n] : List Value).toArray w fun e w' => e = .returned (VS (Lib.itoa n)) ∧ Below w.heap.size w w' := by
 refine (Tryz.strconv_Itoa n h0 h1 w hl).mono ?_
 rintro e w' ⟨he, k, os, rfl⟩
 refine ⟨he, rfl, rfl, rfl, by simp [Sort.grow, World.drewN], fun j hj => ?_⟩
 simp [Sort.grow, World.drewN, Array.getElem?_append, hj]
def ze (h : Hd) : Bs := Lib.itoa h.size ++ [32] ++ Lib.itoa h.time
def qaM (h : Hd) (p : Nat) (o : Bs) : Nat := if ZD h then (if h.o = o then (if ZM p h.sig (qD h (ze h)) then 0 else 7) else 11) else 1
theorem qbQ {h : Hd} (hg : ZD h = true) : Zl h.o = true ∧ 0 ≤ h.size ∧ h.size ≤ 1048576 ∧ 0 ≤ h.time ∧ h.time ≤ 9007199254740991 := by
 simp only [ZD, Bool.and_eq_true, decide_eq_true_eq] at hg
 exact ⟨hg.1.1.1.1, hg.1.1.1.2, hg.1.1.2, hg.1.2, hg.2⟩
theorem body_no (h : Hd) (hk : zK h) (hl : h.o.length ≤ 1000) (hg : ZD h = false) (w : World) :
 Calls Tryz.prog 83 ([.agg (hdC h)] : List Value).toArray w fun e w' => e = .returned (.tuple #[.slice none 0 0, ErrN 1]) ∧ Below w.heap.size w w' := by
 have hs := fun w => sound_gen h (by omega) w
 rw [hg] at hs
 refine qi qc Tryz.func83 rfl Tryz.ntmps83 rfl (St.start w) ?_
 intro b1
 refine ldN 0 rfl (qH h hk.1 hk.2) ?_
 refine cv hs ?_
 refine ct rfl ?_
 exact rt rfl
theorem body_yes (h : Hd) (hk : zK h) (hl : h.o.length ≤ 1000) (hg : ZD h = true) (w : World) (hw : Laid w) :
 Calls Tryz.prog 83 ([.agg (hdC h)] : List Value).toArray w fun e w' => ∃ x : Nat × Nat, True ∧ e = .returned (.tuple #[.slice (some ⟨x.1, 0, none⟩) (qD h (ze h)).length x.2, .nilIface]) ∧ St [] w w' [qcI x.1 x.2 (qD h (ze h))] := by
 obtain ⟨hn, h0, h1, h2, h3⟩ := qbQ hg
 have l1 := Lib.itoa_length_le h.size (by omega) (by omega)
 have l2 := Lib.itoa_length_le h.time (by omega) (by omega)
 exact body_any h (Lib.itoa h.size) (Lib.itoa h.time) hk.1 hk.2 hl (qc0 _ hn) h0 h1 h2 h3 (by omega) (by omega) w (fun w' hb => itoa_any _ (by omega) (by omega) w' (hw.below (Nat.le_refl _) hb)) (fun w' hb => itoa_any _ (by omega) (by omega) w' (hw.below (Nat.le_refl _) hb))
theorem nums_len {h : Hd} (hg : ZD h = true) : (ze h).length ≤ 300 := by
 obtain ⟨hn, h0, h1, h2, h3⟩ := qbQ hg
 have l1 := Lib.itoa_length_le h.size (by omega) (by omega)
 have l2 := Lib.itoa_length_le h.time (by omega) (by omega)
 simp only [ze, List.length_append, List.length_cons, List.length_nil]; omega
theorem nright_gen (h : Hd) (p : Nat) (o : Bs) (hp : p < 115792089237316195423570985008687907853269984665640564039457584007913129639936) (hk : zK h) (hl : h.o.length ≤ 1000) (w : World) (hw : Laid w) :
 Calls Tryz.prog 47 ([.agg (hdC h), .agg (k32 p), VS o] : List Value).toArray w fun e w' => e = .returned (Zo (qaM h p o)) ∧ Below w.heap.size w w' := by
 have hsz := qH h hk.1 hk.2
 refine qi qc Tryz.func47 rfl Tryz.ntmps47 rfl (St.start w) ?_
 intro b3 b4
 refine ldN 0 rfl hsz ?_
 unfold qaM
 cases hg : ZD h with
 | false =>
  refine cv (body_no h hk hl hg) ?_
  refine ct rfl ?_
  exact rt rfl
 | true =>
  refine cMs (v := fun x : Nat × Nat => .tuple #[.slice (some ⟨x.1, 0, none⟩) (qD h (ze h)).length x.2, .nilIface]) (es := fun x => [qcI x.1 x.2 (qD h (ze h))]) (fun w' hs => body_yes h hk hl hg w' (hw.below (Nat.le_refl _) hs.below)) (fun x _ e he k hk => by
   obtain rfl : e = qcI x.1 x.2 (qD h (ze h)) := by simpa using he
   simpa using hk) (fun x _ => ?_)
  refine cf rfl ?_
  refine ld1 0 rfl rfl ?_
  have hoo : (!(ByteArray.mk h.o.toArray).toList == (ByteArray.mk o.toArray).toList) = !decide (h.o = o) := by rw [qam]
  rw [if_pos rfl]
  by_cases ho : h.o = o
  · rw [decide_eq_true ho] at hoo
    rw [if_pos ho]
    refine cf hoo ?_
    refine ldN 1 rfl (qe _) ?_
    refine ldP 0 (d := (Lib.byteCells h.sig).toArray) rfl (by simp [Lib.byteCells_length, hk.2]) (hd_sig h hk.1 hk.2) ?_
    refine .mk #[.slice (some ⟨x.1, 0, none⟩) (qD h (ze h)).length x.2] 48 (fun w => bss1 _ _ _ w) (fun bn => ?_)
    have hbl := qbI h (ze h) hk.1 hl (nums_len hg)
    refine cvs (v := .bool (ZM p h.sig (qD h (ze h)))) (fun w' hs => ?_) ?_
    · have hrd : Rd w' (.slice (some ⟨x.1, 0, none⟩) (qD h (ze h)).length x.2) (Lib.byteCells (qD h (ze h))) := Rd.ent hs 2 rfl (by rw [Lib.byteCells_length]) (by have := qbX (qD h (ze h)) x.2; rw [szB] at this; exact this)
      have hP := Parts.made (bs := qD h (ze h)) hs 3 (vs := [.slice (some ⟨x.1, 0, none⟩) (qD h (ze h)).length x.2]) [Lib.byteCells (qD h (ze h))] 1 rfl rfl rfl (List.append_nil _) (fun i v xs hv hx => by
       cases i with
       | zero => injection hv with hv; injection hx with hx; subst hv; subst hx; exact hrd
       | succ i => simp at hv) (by simp)
      exact qdP p hp h.sig hk.2 _ (qD h (ze h)) w' hP (by omega)
    cases ZM p h.sig (qD h (ze h)) with
    | true =>
     refine cf rfl ?_
     exact rt rfl
    | false =>
     refine ct rfl ?_
     exact rt rfl
  · rw [decide_eq_false ho] at hoo
    rw [if_neg ho]
    refine ct hoo ?_
    exact rt rfl
theorem right_gen (S : AuS) (h : Hd) (hp : S.p < 115792089237316195423570985008687907853269984665640564039457584007913129639936) (hk : zK h) (hl : h.o.length ≤ 1000) (w : World) (hw : Laid w) : Zs S h (qaM h S.p S.o) w := fun w' hb =>
 nright_gen h S.p S.o hp hk hl w' (hw.below (Nat.le_refl _) hb)
end
section
open Go.RowKit Go.Sx
abbrev TOp23 : Nat := 50
abbrev TOps23 : Nat := 27
structure Op23 where
 kind : Int
 hd : Hd
 rh : Hd
 ri : Int
 rl : Bs
 ra : Option Addr
 rn : Nat
 rc : Nat
 a : Option Addr
 c : Nat
 ps : List Bs
 ta : Option Addr
 tn : Nat
 tc : Nat
 at' : Int
instance : Inhabited Hd := ⟨⟨[], 0, 0, [], []⟩⟩
instance : Inhabited Op23 := ⟨⟨0, default, default, 0, [], none, 0, 0, none, 0, [], none, 0, 0, 0⟩⟩
def Op23.cA (q : Op23) : List Value := .int .i64 q.kind :: (hdC q.hd).toList
def Op23.cB (q : Op23) : List Value := (hdC q.rh).toList ++ (.int .i64 q.ri :: (Lib.byteCells q.rl ++ [.slice q.ra q.rn q.rc]))
def Op23.cE (q : Op23) : List Value := [.slice q.a q.ps.length q.c, .slice q.ta q.tn q.tc, .int .i64 q.at']
def Op23.cs (q : Op23) : Array Value := (q.cA ++ (q.cB ++ q.cE)).toArray
structure qdB (q : Op23) : Prop where
 h : zK q.hd
 r : zK q.rh
 l : q.rl.length = 32
theorem Op23.lA {q : Op23} (h : qdB q) : q.cA.length = 100 := by
 have := qH q.hd h.h.1 h.h.2
 simp only [Op23.cA, List.length_cons, Array.length_toList, this]
theorem Op23.lB {q : Op23} (h : qdB q) : q.cB.length = 133 := by
 have := qH q.rh h.r.1 h.r.2
 simp only [Op23.cB, List.length_append, List.length_cons, List.length_nil, Array.length_toList, this, Lib.byteCells_length, h.l]
theorem Op23.size {q : Op23} (h : qdB q) : q.cs.size = 236 := by
 simp only [Op23.cs, List.size_toArray, List.length_append, Op23.lA h, Op23.lB h]; rfl
theorem Op23.end_ {q : Op23} (h : qdB q) (k : Nat) : q.cs[233 + k]? = q.cE[k]? := by
 unfold Op23.cs
 rw [List.getElem?_toArray, List.getElem?_append_right (by rw [Op23.lA h]; omega), List.getElem?_append_right (by rw [Op23.lA h, Op23.lB h]; omega), Op23.lA h, Op23.lB h, show 233 + k - 100 - 133 = k by omega]
theorem Op23.mid {q : Op23} (h : qdB q) (k : Nat) (hk : k < 133) : q.cs[100 + k]? = q.cB[k]? := by
 unfold Op23.cs
 rw [List.getElem?_toArray, List.getElem?_append_right (by rw [Op23.lA h]; omega), Op23.lA h, List.getElem?_append_left (by rw [Op23.lB h]; omega), show 100 + k - 100 = k by omega]
theorem Op23.path {q : Op23} (h : qdB q) : q.cs[232]? = some (.slice q.ra q.rn q.rc) := by
 rw [show 232 = 100 + 132 from rfl, Op23.mid h _ (by decide)]
 have h1 : (hdC q.rh).toList.length = 99 := by rw [Array.length_toList]; exact qH q.rh h.r.1 h.r.2
 unfold Op23.cB
 rw [List.getElem?_append_right (by omega), h1]
 show (Lib.byteCells q.rl ++ [Value.slice q.ra q.rn q.rc])[32]? = _
 rw [List.getElem?_append_right (by rw [Lib.byteCells_length, h.l]; decide), Lib.byteCells_length, h.l]; rfl
theorem Op23.rorg {q : Op23} (h : qdB q) : q.cs[100]? = some (VS q.rh.o) := by
 rw [show 100 = 100 + 0 from rfl, Op23.mid h _ (by decide)]; rfl
theorem Op23.org (q : Op23) : q.cs[1]? = some (VS q.hd.o) := rfl
theorem Op23.head {q : Op23} (h : qdB q) : q.cs.extract 1 (1 + 99) = hdC q.hd := by
 apply Array.ext'
 have h1 : (hdC q.hd).toList.length = 99 := by rw [Array.length_toList]; exact qH q.hd h.h.1 h.h.2
 unfold Op23.cs
 rw [List.extract_toArray, List.extract_eq_take_drop]
 show List.take 99 ((hdC q.hd).toList ++ _) = _
 rw [List.take_left' h1]
theorem Op23.one (q : Op23) : q.cs.toList.all (·.oneCell') = true := by
 have hb : ∀ l : Bs, (Lib.byteCells l).all (·.oneCell') = true := fun l => by have := qN l; simpa using this
 unfold Op23.cs Op23.cA Op23.cB Op23.cE
 simp only [List.all_append, List.all_cons, z6, hb, List.all_nil, Bool.and_true, Bool.true_and]
 rfl
structure Act23 (w : World) (a : Option Addr) (i : Nat) (q : Op23) : Prop where
 ad : ∃ b o, a = some ⟨b, o, none⟩ ∧ b < w.heap.size ∧ ∀ j u, q.cs[j]? = some u → w.cell? ⟨b, o + i * 236 + j, none⟩ = some u
 ok : qdB q
 rd : RdS w (.slice q.a q.ps.length q.c) q.ps
def Scr23 (w : World) (v : Value) (n : Nat) (O : Nat → Op23) : Prop := n ≤ maxLen ∧ ∃ a c, v = .slice a n c ∧ ∀ i, i < n → Act23 w a i (O i)
theorem Act23.below {w w' : World} {a : Option Addr} {i : Nat} {q : Op23} (hb : Below w.heap.size w w') (h : Act23 w a i q) : Act23 w' a i q := by
 obtain ⟨⟨b, o, e, hl, hc⟩, h2, h3⟩ := h
 exact ⟨⟨b, o, e, Nat.lt_of_lt_of_le hl hb.size, fun j u hu => (hb.cell (p := ⟨b, o + i * 236 + j, none⟩) hl).trans (hc j u hu)⟩, h2, h3.below hb⟩
def SmO (q : Op23) : Prop := q.ps.length ≤ 60 ∧ q.rn ≤ 60 ∧ q.tn ≤ 5000 ∧ q.hd.o.length ≤ 300 ∧ q.rh.o.length ≤ 300
def Sm23 (O : Nat → Op23) (n : Nat) : Prop := n ≤ 13 ∧ ∀ i, i < n → SmO (O i)
end
section
open Go.RowKit Go.Sx
theorem ldoM {P : Program} {T : Sx.Tab} {N : Nat} {F : Option Nat} {B : World} {L : List Ent} {b o n : Nat} {d : Array Value} {next : Value → Prop} (h : ∀ j u, d[j]? = some u → B.cell? ⟨b, o + j, none⟩ = some u) (hb : b < B.heap.size) (hn : d.size = n) (go : next (.agg d)) : LdN ⟨P, T, N, [], B, F⟩ L b o n next :=
 ⟨d, hn, fun w hs j v hv => (hs.below.cell (p := ⟨b, o + j, none⟩) hb).trans (h j v (by simpa using hv)), go⟩
theorem qb5 (v : Value) (n : Nat) (O : Nat → Op23) (b : Bool) (hb : b = true ↔ ¬ Sm23 O n) (w : World) (hS : Scr23 w v n O) : Calls Tryz.prog 10 ([v] : List Value).toArray w fun e w' => e = .returned (.bool b) ∧ Below w.heap.size w w' := by
 obtain ⟨hn, a, c, rfl, hS⟩ := hS
 have hmx : maxLen ≤ 9223372036854775807 := by decide
 refine qi qc Tryz.func10 rfl Tryz.ntmps10 rfl (St.start w) ?_
 refine lp qc (fun i : Nat => i ≤ n ∧ Sm23 O i) (fun i => ⟨[(5, .slice a n c), (6, .int .i64 n), (7, .int .i64 i)], [], []⟩) (fun i => n - i) 0 ⟨Nat.zero_le _, Nat.zero_le _, fun i hi => by omega⟩ ⟨⟨rfl, rfl, rfl, trivial⟩, .nil, rfl⟩ ?_
 rintro i ⟨hi, hsm⟩
 refine cd (fun h => ?_) (fun h => ?_)
 · have hil : i < n := by omega
   have hact := hS i hil
   have hyes : ¬ Sm23 O n → b = true := fun h => hb.2 h
   obtain ⟨q, hq⟩ : ∃ q, q = O i := ⟨_, rfl⟩
   rw [← hq] at hact
   obtain ⟨⟨bo, off, rfl, hbl, hc⟩, hok, hrd⟩ := hact
   refine ⟨by omega, by omega, ?_⟩
   refine ldoM (d := q.cs) (fun j u hu => by rw [qk, qj, Int.toNat_natCast]; exact hc j u hu) hbl (Op23.size hok) ?_
   intro b4
   have hz := Op23.size hok
   refine sN 0 (d := q.cs) rfl (hz.trans (by kernel_rfl)) q.one ?_ (by rw [hz]; kernel_rfl)
   have c233 : q.cs[233]? = some (.slice q.a q.ps.length q.c) := (Op23.end_ hok 0).trans rfl
   have c234 : q.cs[234]? = some (.slice q.ta q.tn q.tc) := (Op23.end_ hok 1).trans rfl
   have c232 := Op23.path hok
   have c100 := Op23.rorg hok
   have c1 := q.org
   generalize q.cs = C at *
   by_cases h0 : 12 < i
   · have p0 : decide ((i : Int) > 12) = true := decide_eq_true (by omega)
     have q0 : (decide ((i : Int) > 12) == false) = false := by rw [p0]; rfl
     repeat (first | refine cf q0 ?_ | refine ct p0 ?_ | refine ld1 0 rfl (by exact c233) ?_ | refine ld1 0 rfl (by exact c232) ?_ | refine ld1 0 rfl (by exact c234) ?_ | refine ld1 0 rfl (by exact c1) ?_ | refine ld1 0 rfl (by exact c100) ?_ | refine cf rfl ?_ | refine ct rfl ?_)
     exact rt (congrArg Value.bool (hyes fun h => by have := h.1; omega).symm)
   have p0 : decide ((i : Int) > 12) = false := decide_eq_false (by omega)
   have q0 : (decide ((i : Int) > 12) == false) = true := by rw [p0]; rfl
   by_cases h1 : 60 < q.ps.length
   · have p1 : decide (((q.ps.length : Nat) : Int) > 60) = true := decide_eq_true (by omega)
     have q1 : (decide (((q.ps.length : Nat) : Int) > 60) == false) = false := by rw [p1]; rfl
     repeat (first | refine ct q0 ?_ | refine cf p0 ?_ | refine cf q1 ?_ | refine ct p1 ?_ | refine ld1 0 rfl (by exact c233) ?_ | refine ld1 0 rfl (by exact c232) ?_ | refine ld1 0 rfl (by exact c234) ?_ | refine ld1 0 rfl (by exact c1) ?_ | refine ld1 0 rfl (by exact c100) ?_ | refine cf rfl ?_ | refine ct rfl ?_)
     exact rt (congrArg Value.bool (hyes fun h => by have := h.2 i hil; rw [← hq] at this; unfold SmO at this; omega).symm)
   have p1 : decide (((q.ps.length : Nat) : Int) > 60) = false := decide_eq_false (by omega)
   have q1 : (decide (((q.ps.length : Nat) : Int) > 60) == false) = true := by rw [p1]; rfl
   by_cases h2 : 60 < q.rn
   · have p2 : decide (((q.rn : Nat) : Int) > 60) = true := decide_eq_true (by omega)
     have q2 : (decide (((q.rn : Nat) : Int) > 60) == false) = false := by rw [p2]; rfl
     repeat (first | refine ct q0 ?_ | refine cf p0 ?_ | refine ct q1 ?_ | refine cf p1 ?_ | refine cf q2 ?_ | refine ct p2 ?_ | refine ld1 0 rfl (by exact c233) ?_ | refine ld1 0 rfl (by exact c232) ?_ | refine ld1 0 rfl (by exact c234) ?_ | refine ld1 0 rfl (by exact c1) ?_ | refine ld1 0 rfl (by exact c100) ?_ | refine cf rfl ?_ | refine ct rfl ?_)
     exact rt (congrArg Value.bool (hyes fun h => by have := h.2 i hil; rw [← hq] at this; unfold SmO at this; omega).symm)
   have p2 : decide (((q.rn : Nat) : Int) > 60) = false := decide_eq_false (by omega)
   have q2 : (decide (((q.rn : Nat) : Int) > 60) == false) = true := by rw [p2]; rfl
   by_cases h3 : 5000 < q.tn
   · have p3 : decide (((q.tn : Nat) : Int) > 5000) = true := decide_eq_true (by omega)
     have q3 : (decide (((q.tn : Nat) : Int) > 5000) == false) = false := by rw [p3]; rfl
     repeat (first | refine ct q0 ?_ | refine cf p0 ?_ | refine ct q1 ?_ | refine cf p1 ?_ | refine ct q2 ?_ | refine cf p2 ?_ | refine cf q3 ?_ | refine ct p3 ?_ | refine ld1 0 rfl (by exact c233) ?_ | refine ld1 0 rfl (by exact c232) ?_ | refine ld1 0 rfl (by exact c234) ?_ | refine ld1 0 rfl (by exact c1) ?_ | refine ld1 0 rfl (by exact c100) ?_ | refine cf rfl ?_ | refine ct rfl ?_)
     exact rt (congrArg Value.bool (hyes fun h => by have := h.2 i hil; rw [← hq] at this; unfold SmO at this; omega).symm)
   have p3 : decide (((q.tn : Nat) : Int) > 5000) = false := decide_eq_false (by omega)
   have q3 : (decide (((q.tn : Nat) : Int) > 5000) == false) = true := by rw [p3]; rfl
   by_cases h4 : 300 < q.hd.o.length
   · have p4 : decide (((q.hd.o.length : Nat) : Int) > 300) = true := decide_eq_true (by omega)
     have q4 : (decide (((q.hd.o.length : Nat) : Int) > 300) == false) = false := by rw [p4]; rfl
     repeat (first | refine ct q0 ?_ | refine cf p0 ?_ | refine ct q1 ?_ | refine cf p1 ?_ | refine ct q2 ?_ | refine cf p2 ?_ | refine ct q3 ?_ | refine cf p3 ?_ | refine cf q4 ?_ | refine ct p4 ?_ | refine ld1 0 rfl (by exact c233) ?_ | refine ld1 0 rfl (by exact c232) ?_ | refine ld1 0 rfl (by exact c234) ?_ | refine ld1 0 rfl (by exact c1) ?_ | refine ld1 0 rfl (by exact c100) ?_ | refine cf rfl ?_ | refine ct rfl ?_)
     exact rt (congrArg Value.bool (hyes fun h => by have := h.2 i hil; rw [← hq] at this; unfold SmO at this; omega).symm)
   have p4 : decide (((q.hd.o.length : Nat) : Int) > 300) = false := decide_eq_false (by omega)
   have q4 : (decide (((q.hd.o.length : Nat) : Int) > 300) == false) = true := by rw [p4]; rfl
   by_cases h5 : 300 < q.rh.o.length
   · have p5 : decide (((q.rh.o.length : Nat) : Int) > 300) = true := decide_eq_true (by omega)
     have q5 : (decide (((q.rh.o.length : Nat) : Int) > 300) == false) = false := by rw [p5]; rfl
     repeat (first | refine ct q0 ?_ | refine cf p0 ?_ | refine ct q1 ?_ | refine cf p1 ?_ | refine ct q2 ?_ | refine cf p2 ?_ | refine ct q3 ?_ | refine cf p3 ?_ | refine ct q4 ?_ | refine cf p4 ?_ | refine cf q5 ?_ | refine ct p5 ?_ | refine ld1 0 rfl (by exact c233) ?_ | refine ld1 0 rfl (by exact c232) ?_ | refine ld1 0 rfl (by exact c234) ?_ | refine ld1 0 rfl (by exact c1) ?_ | refine ld1 0 rfl (by exact c100) ?_ | refine cf rfl ?_ | refine ct rfl ?_)
     exact rt (congrArg Value.bool (hyes fun h => by have := h.2 i hil; rw [← hq] at this; unfold SmO at this; omega).symm)
   have p5 : decide (((q.rh.o.length : Nat) : Int) > 300) = false := decide_eq_false (by omega)
   have q5 : (decide (((q.rh.o.length : Nat) : Int) > 300) == false) = true := by rw [p5]; rfl
   repeat (first | refine ct q0 ?_ | refine cf p0 ?_ | refine ct q1 ?_ | refine cf p1 ?_ | refine ct q2 ?_ | refine cf p2 ?_ | refine ct q3 ?_ | refine cf p3 ?_ | refine ct q4 ?_ | refine cf p4 ?_ | refine ct q5 ?_ | refine cf p5 ?_ | refine ld1 0 rfl (by exact c233) ?_ | refine ld1 0 rfl (by exact c232) ?_ | refine ld1 0 rfl (by exact c234) ?_ | refine ld1 0 rfl (by exact c1) ?_ | refine ld1 0 rfl (by exact c100) ?_ | refine cf rfl ?_ | refine ct rfl ?_)
   refine .as ((i + 1 : Nat) : Int) (by omega) (by simp only [mn]; omega) (by simp only [mx]; omega) ?_
   refine ⟨i + 1, ⟨hil, by omega, fun k hk => ?_⟩, by omega, ⟨⟨rfl, rfl, rfl, trivial⟩, .nil, rfl⟩⟩
   by_cases e : k = i
   · subst e; rw [← hq]; exact ⟨by omega, by omega, by omega, by omega, by omega⟩
   · exact hsm.2 k (by omega)
 · obtain rfl : i = n := by omega
   have hbf : b = false := by cases b with | false => rfl | true => exact absurd hsm (hb.1 rfl)
   exact rt (congrArg Value.bool hbf.symm)
end
section
open Go.RowKit Go.Sx
theorem qag (l : List Int) : (Zn l).length = l.length := by simp [Zn]
theorem intC_at {l : List Int} {i : Nat} (h : i < l.length) : (Zn l)[i]? = some (.int .i64 l[i]) := by simp [Zn, h]
theorem take_ne (a b : List Int) (i : Nat) (ha : i < a.length) (hb : i < b.length) (hp : a.take i = b.take i) (h : a[i] ≠ b[i]) : a ≠ b := by
 rintro rfl; exact h rfl
theorem ints_any (va vb : Value) (a b : List Int) (w : World) (ha : Rd w va (Zn a)) (hb : Rd w vb (Zn b)) (hl : a.length ≤ 1000000) : Calls Tryz.prog 40 ([va, vb] : List Value).toArray w fun e w' => e = .returned (.bool (decide (a = b))) ∧ Below w.heap.size w w' := by
 have ha0 := ha
 have hb0 := hb
 obtain ⟨aa, ca, rfl, _⟩ := ha
 obtain ⟨ab, cb, rfl, _⟩ := hb
 rw [qag] at ha0 hb0 ⊢
 rw [qag]
 refine qi qc Tryz.func40 rfl Tryz.ntmps40 rfl (St.start w) ?_
 refine cne (fun h => ?_) (fun h => ?_)
 · refine rt ?_
   rw [decide_eq_false (by rintro rfl; exact h rfl)]; rfl
 · have hlen : a.length = b.length := by omega
   refine lp qc (fun i : Nat => i ≤ a.length ∧ a.take i = b.take i) (fun i => ⟨[(0, .slice aa a.length ca), (1, .slice ab b.length cb), (12, .int .i64 a.length), (13, .int .i64 i)], [], []⟩) (fun i => a.length - i) 0 ⟨Nat.zero_le _, rfl⟩ ⟨⟨rfl, rfl, rfl, rfl, trivial⟩, .nil, rfl⟩ ?_
   rintro i ⟨hi, hp⟩
   refine cd (fun h => ?_) (fun h => ?_)
   · have hia : i < a.length := by omega
     have hib : i < b.length := by omega
     obtain ⟨b1, o1, c1, e1, l1, r1⟩ := rd_at ha0 (by intro h; have := congrArg List.length h; rw [qag] at this; simp only [List.length_nil] at this; omega)
     obtain ⟨b2, o2, c2, e2, l2, r2⟩ := rd_at hb0 (by intro h; have := congrArg List.length h; rw [qag] at this; simp only [List.length_nil] at this; omega)
     injection e1 with f1 f2 f3
     injection e2 with g1 g2 g3
     subst f1 f3 g1 g3
     have r1 := r1 i _ (intC_at hia)
     have r2 := r2 i _ (intC_at hib)
     refine dr [] 99 (.t 0 (.t 1 (.t 2 (.t 3 (.t 4 (.t 5 (.t 6 (.t 7 (.t 8 .nil))))))))) qc qf (by kernel_rfl) .nil ?_
     refine ⟨by omega, by omega, ?_⟩
     refine ldo (v := .int .i64 a[i]) (by rw [qk, qj]; simpa using r1) l1 ?_
     refine ⟨by omega, by omega, ?_⟩
     refine ldo (v := .int .i64 b[i]) (by rw [qk, qj]; simpa using r2) l2 ?_
     refine cne (fun hne => ?_) (fun he => ?_)
     · refine rt ?_
       rw [decide_eq_false (take_ne a b i hia hib hp hne)]; rfl
     · refine .as ((i + 1 : Nat) : Int) (by simp) (by simp only [mn]; omega) (by simp only [mx]; omega) ?_
       refine ⟨i + 1, ⟨by omega, ?_⟩, by omega, ⟨⟨rfl, rfl, rfl, rfl, trivial⟩, .nil, rfl⟩⟩
       rw [List.take_succ_eq_append_getElem hia, List.take_succ_eq_append_getElem hib, hp, he]
   · obtain rfl : i = a.length := by omega
     have hab : a = b := by
      rw [List.take_length, hlen, List.take_length] at hp
      exact hp
     refine rt ?_
     rw [decide_eq_true hab]; rfl
def QK (x : UInt8) : Bs := x :: List.replicate 31 0
theorem undSs : Tryz.prog.underlying 22 = some (.slice 39) := by kernel_rfl
theorem infoSs : (Tryz.prog.info? 39).map (fun i => (i.zero, i.size, i.bytes)) = some (some (.agg Z32), 32, 32) := by kernel_rfl
theorem bsS1 (x : UInt8) (w : World) : (Instr.buildSlice 22 1 #[(0, Qn (QK x))]).run Tryz.prog w = .ok (.slice (some ⟨w.heap.size, 0, none⟩) 1 1) (w.alloc (.cells (Lib.byteCells (QK x)).toArray 39)) := by
 obtain ⟨i, hi, hz, hs, hb⟩ := Qc infoSs
 exact run_buildSlice w _ _ 1 _ (Lib.byteCells (QK x)).toArray i (.agg Z32) undSs hi hz (by rw [hs]; decide) (by rw [hs]; decide) (by rw [hs]; kernel_rfl)
theorem undIs : Tryz.prog.underlying 54 = some (.slice 3) := by kernel_rfl
theorem infoIn : (Tryz.prog.info? 3).map (fun i => (i.zero, i.size, i.bytes)) = some (some (.int .i64 0), 1, 8) := by kernel_rfl
theorem bsI1 (x : Int) (w : World) : (Instr.buildSlice 54 1 #[(0, .int .i64 x)]).run Tryz.prog w = .ok (.slice (some ⟨w.heap.size, 0, none⟩) 1 1) (w.alloc (.cells #[.int .i64 x] 3)) := by
 obtain ⟨i, hi, hz, hs, hb⟩ := Qc infoIn
 exact run_buildSlice w _ _ 1 _ #[.int .i64 x] i (.int .i64 0) undIs hi hz (by rw [hs]; decide) (by rw [hs]; decide) (by rw [hs]; kernel_rfl)
def exH (x : UInt8) : Hd := sgnH Qo (hd0 (QK x) 1 0) [49] [48]
theorem exH_ok (x : UInt8) : zK (exH x) := ⟨by show (QK x).length = 32; simp [QK], Z7 _ _⟩
theorem rhead_ex (x : UInt8) (b c : Nat) (t : TypeId) (w : World) (hw : w.heap[b]? = some (.cells (Lib.byteCells (QK x)).toArray t (0, 0))) :
 Calls Tryz.prog 20 ([.slice (some ⟨b, 0, none⟩) 1 c, .int .i64 0] : List Value).toArray w fun e w' => e = .returned (.agg (hdC (exH x))) ∧ Below w.heap.size w w' :=
 rhead_core _ (QK x) 1 0 [49] [48] (by simp [QK]) w (by decide) (by decide)
  (fun w' hb => rroot1_any b c (QK x) (by simp [QK]) t w' ((hb.block b (Array.getElem?_eq_some_iff.1 hw).1).trans hw)) ⟨_, _, rfl⟩ (fun w' _ => rnum_fig 1 (by decide) w') (fun w' _ => rnum_fig 0 (by decide) w')
theorem qbK : zJ logB := fun w => qdx logB (by decide) (by decide) (by decide) w
theorem pubN_lt (n : Nat) : QQ n < 115792089237316195423570985008687907853269984665640564039457584007913129639936 := by unfold QQ; exact keyP_lt _
theorem nbody_sig (h : Hd) (s N : Bs) : qD { h with sig := s } N = qD h N := rfl
theorem sgn_body (n : Nat) (h : Hd) (A T N : Bs) : qD (sgnH n h A T) N = qD h N := nbody_sig h _ N
theorem sgn_right (n : Nat) (h : Hd) (A T : Bs) : ZM (QQ n) (sgnH n h A T).sig (qD (sgnH n h A T) (A ++ [32] ++ T)) = true := by
 rw [sgn_body, qd6]
 exact right_sig n (zs h A T)
theorem sgn_rightC (n : Nat) (h : Hd) (A T : Bs) (S : AuS) (hr : h.root.length = 32) (hl : h.o.length ≤ 1000) (hn : zJ h.o) (h0 : 0 ≤ h.size) (h1 : h.size ≤ 1048576) (h2 : 0 ≤ h.time) (h3 : h.time ≤ 9007199254740991) (hAl : A.length ≤ 100) (hTl : T.length ≤ 100) (hp : S.p = QQ n) (ho : S.o = h.o) (w : World)
 (hA : ∀ w', Below w.heap.size w w' → Calls Tryz.prog 116 ([.int .i64 h.size] : List Value).toArray w' fun e w'' => e = .returned (VS A) ∧ Below w'.heap.size w' w'')
 (hT : ∀ w', Below w.heap.size w w' → Calls Tryz.prog 116 ([.int .i64 h.time] : List Value).toArray w' fun e w'' => e = .returned (VS T) ∧ Below w'.heap.size w' w'') : Zs S (sgnH n h A T) 0 w := fun w' hb => by
 rw [hp, ho]
 exact nright_any (sgnH n h A T) A T (QQ n) (pubN_lt n) hr (Z7 _ _) hl hn h0 h1 h2 h3 hAl hTl w' (fun w'' hb' => hA w'' (hb.trans (hb'.mono hb.size))) (fun w'' hb' => hT w'' (hb.trans (hb'.mono hb.size))) (sgn_right n h A T)
theorem ex_right (x : UInt8) (S : AuS) (hp : S.p = QQ Qo) (ho : S.o = logB) (w : World) : Zs S (exH x) 0 w :=
 sgn_rightC Qo (hd0 (QK x) 1 0) [49] [48] S (by show (QK x).length = 32; simp [QK]) (by show logB.length ≤ 1000; decide) qbK (by show (0 : Int) ≤ 1; decide) (by show (1 : Int) ≤ 1048576; decide) (by show (0 : Int) ≤ 0; decide) (by show (0 : Int) ≤ 9007199254740991; decide) (by decide) (by decide) hp ho w (fun w'' _ => itoa_fig 1 (by decide) w'') (fun w'' _ => itoa_fig 0 (by decide) w'')
theorem leaf_ne : QK 1 ≠ QK 2 := by decide
theorem ex_grows (w : World) : Calls Tryz.prog 48 ([.int .i64 (exH 1).size, Qn (exH 1).root, .int .i64 (exH 2).size, Qn (exH 2).root, .slice none 0 0] : List Value).toArray w fun e w' => e = .returned (.bool false) ∧ Below w.heap.size w w' := by
 have h := grows_eq 1 (by decide) (QK 1) (QK 2) (by decide) (by decide) none 0 0 w
 rw [decide_eq_false leaf_ne] at h
 exact h
theorem alive_any (w : World) : Calls Tryz.prog 9 ([] : List Value).toArray w fun e w' => e = .returned (.bool true) ∧ Below w.heap.size w w' := by
 refine qi qc Tryz.func9 rfl Tryz.ntmps9 rfl (St.start w) ?_
 refine cv qcC ?_
 refine cv (Z9 Qo) ?_
 refine cM (r' := fun x : Nat × Nat => auR (au0 (QQ Qo) logB x)) (fun w' hs => (qea (QQ Qo) logB (by decide) qbK w').mono fun e w'' ⟨x, h0, h1, h2, h3, h4, h5⟩ => ⟨x, h0, h1, h2, h3, h4, fun k hk => (h5 k hk).elim⟩) (fun x _ => ?_)
 iterate 2 refine ct rfl ?_
 iterate 2 refine cf rfl ?_
 refine bu (c := (Lib.byteCells (QK 1)).toArray) (by kernel_rfl) ?_
 refine .mk (Lib.byteCells (QK 1)).toArray 39 (fun w => bsS1 1 w) (fun bn => ?_)
 refine cvs (fun w' hs => rhead_ex 1 bn 1 _ w' (hs.nth (k := 1) rfl)) ?_
 refine cT 0 (α := Nat) (Φ := fun _ => True) (v := fun _ => .nilIface) (r' := fun b => auR ((au0 (QQ Qo) logB x).put (exH 1) b)) rfl (fun w' hs => (take_one (au0 (QQ Qo) logB x) (exH 1) none 0 0 0 rfl (exH_ok 1) w' (hs.res (k := 0) rfl) (ex_right 1 (au0 (QQ Qo) logB x) rfl rfl w') rfl rfl (by show (0 : Int) ≤ 1 ∧ (1 : Int) ≤ 1048576; decide)).mono fun e w'' ⟨h1, b, h2⟩ => ⟨b, trivial, h1, h2⟩) (fun b1 _ => ?_)
 refine bu (c := (Lib.byteCells (QK 2)).toArray) (by kernel_rfl) ?_
 refine .mk (Lib.byteCells (QK 2)).toArray 39 (fun w => bsS1 2 w) (fun bn2 => ?_)
 refine cvs (fun w' hs => rhead_ex 2 bn2 1 _ w' (hs.nth (k := 2) rfl)) ?_
 refine cT 0 (α := Unit) (Φ := fun _ => True) (v := fun _ => Zo 13) (r' := fun _ => auR ((au0 (QQ Qo) logB x).put (exH 1) b1)) rfl (fun w' hs => (qcx ((au0 (QQ Qo) logB x).put (exH 1) b1) (exH 2) none 0 0 0 (exH 1) rfl (exH_ok 2) w' (hs.res (k := 0) rfl) (ex_right 2 ((au0 (QQ Qo) logB x).put (exH 1) b1) rfl rfl w') rfl (by show (1 : Int) ≤ 1; decide) (by show (0 : Int) ≤ 0; decide) (fun w'' _ => ex_grows w'')).mono fun e w'' ⟨h1, h2⟩ => ⟨(), trivial, h1, h2⟩) (fun _ _ => ?_)
 iterate 2 refine ct rfl ?_
 refine cv (errIs_any 13 13) ?_
 iterate 3 refine ct rfl ?_
 refine coV (n := 1) (z := 1) (xs := Zn [1]) (e := 3) id (fun w' hs => qao ((au0 (QQ Qo) logB x).put (exH 1) b1) w' (hs.res (k := 0) rfl) (by show 1 ≤ 1000000; decide)) (fun r hR => ?_)
 refine ct rfl ?_
 refine .mk #[.int .i64 1] 3 (fun w => bsI1 1 w) (fun bi => ?_)
 refine ct rfl ?_
 refine cvs (v := .bool true) (fun w' hs => ints_any _ _ [1] [1] w' (Rd.own hs 3 rfl hR) (Rd.ent hs 4 (n := 1) rfl rfl rfl) (by decide)) ?_
 refine ct rfl ?_
 exact rt rfl
end
section
open Go.RowKit Go.Sx
def Zc (S : AuS) (x : Hd) (ps : List Bs) : Nat := S.takeB x ps.length (qaM x S.p S.o) (match S.last with | some l => qd0 l.size l.root x.size x.root ps | none => true)
def TkS (S : AuS) (x : Hd) (k : Nat) (S' : AuS) : Prop := if k = 0 then ∃ b, S' = S.put x b else S' = S
theorem rightE_nums {h : Hd} {p : Nat} {o : Bs} (h0 : qaM h p o = 0) : 0 ≤ h.size ∧ h.size ≤ 1048576 := by
 unfold qaM at h0
 by_cases hg : ZD h = true
 · obtain ⟨_, h1, h2, _⟩ := qbQ hg; exact ⟨h1, h2⟩
 · rw [if_neg hg] at h0; cases h0
theorem takeX_any (S : AuS) (x : Hd) (ps : List Bs) (a : Option Addr) (c : Nat) (hp : S.p < 115792089237316195423570985008687907853269984665640564039457584007913129639936) (hx : zK x) (hl : x.o.length ≤ 1000) (w : World) (hw : Laid w) (h : AuP S w) (hr : RdS w (.slice a ps.length c) ps) :
 Calls Tryz.prog 15 ([ptr S.bA, .agg (hdC x), .slice a ps.length c] : List Value).toArray w fun e w' => ∃ S', TkS S x (Zc S x ps) S' ∧ e = .returned (Zo (Zc S x ps)) ∧ Turns w w' (auR S) (auR S') := by
 have hR := right_gen S x hp hx hl w hw
 have bad : ∀ k, k ≠ 0 → Zc S x ps = k → (Calls Tryz.prog 15 ([ptr S.bA, .agg (hdC x), .slice a ps.length c] : List Value).toArray w fun e w' => e = .returned (Zo k) ∧ Turns w w' (auR S) (auR S)) → Calls Tryz.prog 15 ([ptr S.bA, .agg (hdC x), .slice a ps.length c] : List Value).toArray w fun e w' => ∃ S', TkS S x (Zc S x ps) S' ∧ e = .returned (Zo (Zc S x ps)) ∧ Turns w w' (auR S) (auR S') := by
  intro k hk he hc
  rw [he]
  exact hc.mono fun e w' ⟨h1, h2⟩ => ⟨S, by unfold TkS; rw [if_neg hk], h1, h2⟩
 have good : Zc S x ps = 0 → (Calls Tryz.prog 15 ([ptr S.bA, .agg (hdC x), .slice a ps.length c] : List Value).toArray w fun e w' => e = .returned .nilIface ∧ ∃ b, Turns w w' (auR S) (auR (S.put x b))) → Calls Tryz.prog 15 ([ptr S.bA, .agg (hdC x), .slice a ps.length c] : List Value).toArray w fun e w' => ∃ S', TkS S x (Zc S x ps) S' ∧ e = .returned (Zo (Zc S x ps)) ∧ Turns w w' (auR S) (auR S') := by
  intro he hc
  rw [he]
  exact hc.mono fun e w' ⟨h1, b, h2⟩ => ⟨S.put x b, by unfold TkS; rw [if_pos rfl]; exact ⟨b, rfl⟩, h1, h2⟩
 obtain ⟨r, hr0⟩ : ∃ r, r = qaM x S.p S.o := ⟨_, rfl⟩
 rw [← hr0] at hR
 have ht : Zc S x ps = S.takeB x ps.length r (match S.last with | some l => qd0 l.size l.root x.size x.root ps | none => true) := by rw [hr0]; rfl
 unfold AuS.takeB at ht
 by_cases h1 : r = 0
 case neg =>
  rw [if_pos h1] at ht
  exact bad r h1 ht (take_bad S x a _ c r hx w h hR h1)
 have hz := rightE_nums (hr0.symm.trans h1)
 rw [if_neg (by omega)] at ht
 cases hS : S.last with
 | none =>
  rw [hS] at ht
  simp only at ht
  by_cases hn : 0 < ps.length
  · rw [if_pos hn] at ht
    exact bad 13 (by decide) ht (take_first S x a _ c r hS hx w h hR h1 hn)
  · rw [if_neg hn] at ht
    exact good ht (take_one S x a _ c r hS hx w h hR h1 (by omega) hz)
 | some l =>
  rw [hS] at ht
  simp only at ht
  by_cases h2 : x.size < l.size
  · rw [if_pos (.inl h2)] at ht
    exact bad 2 (by decide) ht (take_size S x a _ c r l hS hx w h hR h1 h2)
  by_cases h3 : x.time < l.time
  · rw [if_pos (.inr h3)] at ht
    exact bad 2 (by decide) ht (take_time S x a _ c r l hS hx w h hR h1 (by omega) h3)
  rw [if_neg (by omega)] at ht
  have hG : ∀ g, qd0 l.size l.root x.size x.root ps = g → GrowsC l x (.slice a ps.length c) g w := fun g hg w' hb => by
   rw [← hg]
   exact grows_any l.size l.root x.size x.root (h.hk l hS).1 hx.1 ps a c w' (hr.below hb)
  cases hg : qd0 l.size l.root x.size x.root ps with
  | false =>
   rw [if_pos hg] at ht
   exact bad 13 (by decide) ht (qcx S x a _ c r l hS hx w h hR h1 (by omega) (by omega) (hG _ hg))
  | true =>
   rw [if_neg (by rw [hg]; decide)] at ht
   exact good ht (take_next S x a _ c r l hS hx w h hR h1 (by omega) (by omega) hz (hG _ hg))
structure SInv (S : AuS) (i : Nat) : Prop where
 hk : ∀ x, S.last = some x → zK x
 kl : ∀ x, S.last = some x → (S.fs.map (·.1)).getLast? = some x.size
 gt : ∀ x, S.last = some x → ZY x.size S.fs = some (Qn x.root)
 ln : S.fs.length ≤ i
theorem getS_same (k : Int) (v : Value) (clk : Nat) (es : Es Int) : ZY k (zC k v clk es) = some v := by
 induction es with
 | nil => simp [zC, qbR]
 | cons e l ih =>
  unfold zC
  by_cases hk : k = e.1
  · rw [if_pos hk, qbR, if_pos rfl]
  · rw [if_neg hk, qbR, if_neg hk, ih]
theorem setS_len (k : Int) (v : Value) (clk : Nat) (es : Es Int) : (zC k v clk es).length ≤ es.length + 1 := by
 have := congrArg List.length (qdI k v clk es)
 rw [List.length_map] at this
 rw [this]
 split
 · rw [List.length_map]; omega
 · simp
theorem SInv.step {S S' : AuS} {x : Hd} {i k : Nat} {w : World} (h : SInv S i) (hx : zK x) (ht : TkS S x k S') (hp : AuP S' w) : SInv S' (i + 1) ∧ S'.p = S.p ∧ S'.o = S.o ∧ S'.bA = S.bA := by
 unfold TkS at ht
 by_cases hk : k = 0
 · rw [if_pos hk] at ht
   obtain ⟨b, rfl⟩ := ht
   refine ⟨⟨hp.hk, hp.kl, fun y hy => ?_, ?_⟩, rfl, rfl, rfl⟩
   · obtain rfl : x = y := Option.some.inj hy
     exact getS_same _ _ _ _
   · have := setS_len x.size (Qn x.root) S.clk S.fs
     have := h.ln
     show (zC x.size (Qn x.root) S.clk S.fs).length ≤ i + 1
     omega
 · rw [if_neg hk] at ht
   subst ht
   exact ⟨⟨h.hk, h.kl, h.gt, Nat.le_succ_of_le h.ln⟩, rfl, rfl, rfl⟩
theorem take_rise {S : AuS} {x : Hd} {ps : List Bs} (h : Zc S x ps = 0) : ∀ l, S.last = some l → l.size ≤ x.size ∧ l.time ≤ x.time := by
 intro l hl
 unfold Zc AuS.takeB at h
 rw [hl] at h
 split at h
 · omega
 · simp only at h
   split at h
   · cases h
   · omega
end
section
open Go.RowKit Go.Sx
theorem qai {P : Program} (w : World) {d : Nat} {xs ys : Array Value} {f : Field} {fs : List Field} {x y : Value} {r : Bool} (hn : (f.name == "_") = false) (px : (part f.type xs f.offset).run P w = .ok x w) (py : (part f.type ys f.offset).run P w = .ok y w) (he : (Op.equalIn d f.type x y).run P w = .ok r w) :
 (Op.eqFields d xs ys (f :: fs)).run P w = if r then (Op.eqFields d xs ys fs).run P w else .ok false w := by
 have hn' : f.name ≠ "_" := by simpa using hn
 simp only [Op.eqFields, if_pos hn', Sem.run_bind, px, py, he, Result.andThen_ok, Sem.run_ite]
 cases r <;> rfl
theorem zL {P : Program} {t off : Nat} {c : Array Value} {v : Value} (ha : ∀ w, (isAgg t).run P w = .ok false w) (hc : c[off]? = some v) (w : World) : (part t c off).run P w = .ok v w := by
 simp only [part, Sem.run_bind, ha, Result.andThen_ok, Bool.false_eq_true, if_false, hc, Sem.run_pure]
theorem qa4 {P : Program} {t off n : Nat} {c d : Array Value} (ha : ∀ w, (isAgg t).run P w = .ok true w) (hz : QN P t n = true) (hc : c.extract off (off + n) = d) (w : World) : (part t c off).run P w = .ok (.agg d) w := by
 simp only [part, Sem.run_bind, ha, Result.andThen_ok, if_true, Go.Sx.run_sizeOf (QZ hz), hc, Sem.run_pure]
theorem hd_flds : (Tryz.prog.fieldsOf THd).toList.map (fun f => (f.name == "_", f.type, f.offset)) = [(false, 9, 0), (false, 3, 1), (false, 3, 2), (false, 39, 3), (false, 41, 35)] := by kernel_rfl
theorem und_hd : Tryz.prog.underlying THd = some (.struct (Tryz.prog.fieldsOf THd)) := by kernel_rfl
theorem agg_str (w : World) : (isAgg 9).run Tryz.prog w = .ok false w := by
 simp [isAgg, run_underlying (show Tryz.prog.underlying 9 = some .string by kernel_rfl)]
theorem qcq (w : World) : (isAgg 3).run Tryz.prog w = .ok false w := by
 simp [isAgg, run_underlying (show Tryz.prog.underlying 3 = some (.int .i64) by kernel_rfl)]
theorem agg_sum (w : World) : (isAgg 39).run Tryz.prog w = .ok true w := by
 simp [isAgg, run_underlying (show Tryz.prog.underlying 39 = some (.array 32 5) by kernel_rfl)]
theorem agg_wide (w : World) : (isAgg 41).run Tryz.prog w = .ok true w := by
 simp [isAgg, run_underlying (show Tryz.prog.underlying 41 = some (.array 64 5) by kernel_rfl)]
theorem qbl (n t : Nat) (ht : Tryz.prog.underlying t = some (.array n 5)) (x : Bs) (hx : x.length = n) (k : Nat) (w : World) : (Op.equalIn (k + 2) t (.agg (Lib.byteCells x).toArray) (.agg (Lib.byteCells x).toArray)).run Tryz.prog w = .ok true w := by
 have h0 := eql_ints t 5 n .u8 ht (by kernel_rfl) (by kernel_rfl) (Lib.byteCells x).toArray (Lib.byteCells x).toArray (fun i => ((x.getD i 0).toNat : Int)) (fun i => ((x.getD i 0).toNat : Int))
  (fun i hi => by simp [Lib.byteCells, List.getD, hx, hi]) (fun i hi => by simp [Lib.byteCells, List.getD, hx, hi]) k w
 have h1 : ((List.range n).all fun i => ((x.getD i 0).toNat : Int) == ((x.getD i 0).toNat : Int)) = true := by simp
 rw [h0, h1]
theorem qcj (h : Hd) (hh : zK h) (w : World) : (Op.equalIn 10000 THd (.agg (hdC h)) (.agg (hdC h))).run Tryz.prog w = .ok true w := by
 rw [run_equalIn_struct w 9999 THd _ _ und_hd (by kernel_rfl)]
 have hf := hd_flds
 generalize (Tryz.prog.fieldsOf THd).toList = fs at hf
 rcases fs with _ | ⟨f0, _ | ⟨f1, _ | ⟨f2, _ | ⟨f3, _ | ⟨f4, _ | ⟨f5, l⟩⟩⟩⟩⟩⟩ <;> simp only [List.map_cons, List.map_nil, List.cons.injEq, reduceCtorEq, and_false, and_true, Prod.mk.injEq] at hf
 obtain ⟨⟨a0, b0, c0⟩, ⟨a1, b1, c1⟩, ⟨a2, b2, c2⟩, ⟨a3, b3, c3⟩, ⟨a4, b4, c4⟩⟩ := hf
 rw [qai w a0 (x := VS h.o) (y := VS h.o) (r := true) (by rw [b0, c0]; exact zL agg_str rfl w) (by rw [b0, c0]; exact zL agg_str rfl w) (by
  rw [b0, run_equalIn_string (P := Tryz.prog) w 9998 9 _ _ (by kernel_rfl), beq_self_eq_true])]
 rw [if_pos rfl, qai w a1 (x := .int .i64 h.size) (y := .int .i64 h.size) (r := true) (by rw [b1, c1]; exact zL qcq rfl w) (by rw [b1, c1]; exact zL qcq rfl w) (by rw [b1, run_equalIn_int w 9998 _ _ .i64 _ _ (by kernel_rfl), beq_self_eq_true])]
 rw [if_pos rfl, qai w a2 (x := .int .i64 h.time) (y := .int .i64 h.time) (r := true) (by rw [b2, c2]; exact zL qcq rfl w) (by rw [b2, c2]; exact zL qcq rfl w) (by rw [b2, run_equalIn_int w 9998 _ _ .i64 _ _ (by kernel_rfl), beq_self_eq_true])]
 rw [if_pos rfl, qai w a3 (by rw [b3, c3]; exact qa4 agg_sum (by kernel_rfl) (zf h hh.1) w) (by rw [b3, c3]; exact qa4 agg_sum (by kernel_rfl) (zf h hh.1) w) (by rw [b3]; exact qbl 32 _ (by kernel_rfl) h.root hh.1 9997 w)]
 rw [if_pos rfl, qai w a4 (by rw [b4, c4]; exact qa4 agg_wide (by kernel_rfl) (hd_sig h hh.1 hh.2) w) (by rw [b4, c4]; exact qa4 agg_wide (by kernel_rfl) (hd_sig h hh.1 hh.2) w) (by rw [b4]; exact qbl 64 _ (by kernel_rfl) h.sig hh.2 9997 w)]
 rw [if_pos rfl]; rfl
end
section
open Go.RowKit Go.Sx
theorem Scr23.below {w w' : World} {v : Value} {n : Nat} {O : Nat → Op23} (h : Scr23 w v n O) (hb : Below w.heap.size w w') : Scr23 w' v n O := by
 obtain ⟨h1, a, c, h2, h3⟩ := h
 exact ⟨h1, a, c, h2, fun i hi => (h3 i hi).below hb⟩
theorem H0_ok : zK H0 := ⟨by simp [H0], by simp [H0]⟩
theorem last_ok {S : AuS} {i : Nat} (h : SInv S i) : zK (S.last.getD H0) := by
 cases hl : S.last with
 | none => exact H0_ok
 | some x => exact h.hk x hl
theorem qc9 {l : List Int} {m : Int} (h : l.getLast? = some m) (jk : List Value) : ∀ {q : Int} {n : Nat}, n = l.length → q = ((n - 1 : Nat) : Int) → (Zn l ++ jk).toArray[nad 0 (nmu q.toNat 1)]? = some (.int .i64 m) := by
 rintro q n rfl rfl
 obtain ⟨p, rfl⟩ := List.getLast?_eq_some_iff.1 h
 rw [qk, qj, Int.toNat_natCast, Nat.zero_add, Nat.mul_one, List.getElem?_toArray, List.getElem?_append_left (by rw [qag]; simp)]
 have hi : (p ++ [m]).length - 1 < (p ++ [m]).length := by simp
 rw [intC_at hi]
 simp
structure RiOk (S0 : AuS) (n : Nat) (y : Nat × AuS) : Prop where
 le : y.1 ≤ n
 inv : SInv y.2 y.1
 p : y.2.p = S0.p
 o : y.2.o = S0.o
 bA : y.2.bA = S0.bA
theorem law_rises (v : Value) (n : Nat) (O : Nat → Op23) (w : World) (hw : Laid w) (hS : Scr23 w v n O) : Calls Tryz.prog 4 ([v] : List Value).toArray w fun e w' => e = .returned (.bool true) ∧ Below w.heap.size w w' := by
 have hS0 := hS
 obtain ⟨hn, a, c, rfl, hA⟩ := hS0
 have hmx : maxLen ≤ 9223372036854775807 := by decide
 refine qi qc Tryz.func4 rfl Tryz.ntmps4 rfl (St.start w) ?_
 refine cv alive_any ?_
 refine cf rfl ?_
 by_cases hsm : Sm23 O n
 case neg =>
  refine cvs (fun w1 hs => qb5 _ n O true ⟨fun _ => hsm, fun _ => rfl⟩ w1 (hS.below hs.below)) ?_
  refine ct rfl ?_
  exact rt rfl
 refine cvs (fun w1 hs => qb5 _ n O false ⟨fun h => (by cases h), fun h => absurd hsm h⟩ w1 (hS.below hs.below)) ?_
 refine cf rfl ?_
 refine cv qcC ?_
 refine cv (Z9 Qo) ?_
 refine cM (r' := fun x : Nat × Nat => auR (au0 (QQ Qo) logB x)) (fun w' hs => (qea (QQ Qo) logB (by decide) qbK w').mono fun e w'' ⟨x, h0, h1, h2, h3, h4, h5⟩ => ⟨x, h0, h1, h2, h3, h4, fun k hk => (h5 k hk).elim⟩) (fun x _ => ?_)
 refine cf rfl ?_
 refine cvs (fun w1 hs => last_any (au0 (QQ Qo) logB x) w1 (hs.res (k := 0) rfl)) ?_
 intro b5
 have hzH := qH H0 H0_ok.1 H0_ok.2
 refine sN 1 (d := hdC H0) rfl (hzH.trans (by kernel_rfl)) (z6 _) ?_ (by rw [hzH]; kernel_rfl)
 refine lp qc (RiOk (au0 (QQ Qo) logB x) n) (fun y => ⟨[(3, ptr x.1), (5, ptr b5), (6, .bool y.2.last.isSome), (32, .slice a n c), (33, .int .i64 n), (34, .int .i64 y.1)], [rs (auR y.2), cl b5 (hdC (y.2.last.getD H0)) THd], []⟩) (fun y => n - y.1) (0, au0 (QQ Qo) logB x) ⟨Nat.zero_le _, ⟨fun x h => (by cases h), fun x h => (by cases h), fun x h => (by cases h), Nat.le_refl _⟩, rfl, rfl, rfl⟩ ⟨⟨rfl, rfl, rfl, rfl, rfl, rfl, trivial⟩, .cons (.cons .nil), rfl⟩ ?_
 rintro ⟨i, S⟩ ⟨hi, hI, hSp, hSo, hSb⟩
 simp only at hi hI hSp hSo hSb
 have hSb' : S.bA = x.1 := hSb
 refine cd (fun hlt => ?_) (fun hge => ?_)
 case refine_2 =>
  exact rt rfl
 have hil : i < n := by (try simp only at hlt); omega
 have hact := hA i hil
 have hsmi := hsm.2 i hil
 obtain ⟨q, hq⟩ : ∃ q, q = O i := ⟨_, rfl⟩
 rw [← hq] at hact hsmi
 obtain ⟨⟨bo, off, rfl, hbl, hc⟩, hok, hrd⟩ := hact
 refine ⟨by omega, by omega, ?_⟩
 refine ldoM (d := q.cs) (fun j u hu => by rw [qk, qj, Int.toNat_natCast]; exact hc j u hu) hbl (Op23.size hok) ?_
 intro b8
 have hz := Op23.size hok
 have hzq := qH q.hd hok.h.1 hok.h.2
 refine sN 2 (d := q.cs) rfl (hz.trans (by kernel_rfl)) q.one ?_ (by rw [hz]; kernel_rfl)
 refine ldP 2 (d := hdC q.hd) rfl hzq (Op23.head hok) ?_
 have c233 : q.cs[233]? = some (.slice q.a q.ps.length q.c) := (Op23.end_ hok 0).trans rfl
 refine ld1 2 rfl (by exact c233) ?_
 refine cT 0 (α := AuS) (Φ := fun S' => TkS S q.hd (Zc S q.hd q.ps) S' ∧ SInv S' (i + 1) ∧ S'.p = S.p ∧ S'.o = S.o ∧ S'.bA = S.bA) (v := fun _ => Zo (Zc S q.hd q.ps)) (r' := fun S' => auR S') rfl (fun w' hs => by
  have h1 := takeX_any S q.hd q.ps q.a q.c (by rw [hSp]; exact pubN_lt _) hok.h (by have := hsmi.2.2.2.1; omega) w' (hw.below (Nat.le_refl _) hs.below) (hs.res (k := 0) rfl) (hrd.below hs.below)
  rw [hSb'] at h1
  exact h1.mono fun e w'' ⟨S', k1, k2, k3⟩ => ⟨S', ⟨k1, hI.step hok.h k1 k3.ok⟩, k2, k3⟩) (fun S' ⟨hT, hI', hp', ho', hb'⟩ => ?_)
 have hb2 : S'.bA = x.1 := hb'.trans hSb'
 refine cvs (v := lastT S'.last) (fun w1 hs => by have := last_any S' w1 (hs.res (k := 0) rfl); rwa [hb2] at this) ?_
 intro b10
 have hk3 := last_ok hI'
 have hz3 := qH _ hk3.1 hk3.2
 have hk1 := last_ok hI
 have hz1 := qH _ hk1.1 hk1.2
 refine sN 3 (d := hdC (S'.last.getD H0)) rfl (hz3.trans (by kernel_rfl)) (z6 _) ?_ (by rw [hz3]; kernel_rfl)
 unfold TkS at hT
 by_cases hk : Zc S q.hd q.ps = 0
 · rw [if_pos hk] at hT
   rw [hk]
   obtain ⟨b, hT⟩ := hT
   have hlast : S'.last = some q.hd := by rw [hT]; rfl
   have hrt : qcL (q.hd).size S'.fs = .tuple #[Qn (q.hd).root, .nilIface] := by unfold qcL; rw [hI'.gt _ hlast]; rfl
   have hkl := hI'.kl _ hlast
   have hln := hI'.ln
   have hn13 := hsm.1
   have hl1 : 1 ≤ S'.fs.length := by
    cases hf : S'.fs with
    | nil => rw [hf] at hkl; cases hkl
    | cons u v => simp
   rw [hlast] at hz3 hk3 ⊢
   simp only [Option.getD_some] at hz3 hk3
   have hr := take_rise hk
   cases hl : S.last with
   | none =>
    rw [hl] at hz1
    repeat (first | refine cf rfl ?_ | refine ct rfl ?_ | refine ld1 3 rfl rfl ?_ | refine ld1 1 rfl rfl ?_ | refine ldN 3 rfl hz3 ?_ | refine ldN 1 rfl hz1 ?_ | refine ldP 2 (d := hdC q.hd) rfl hzq (Op23.head hok) ?_ | refine neR (by rfl) (by kernel_rfl) (qcj _ hk3) ?_)
    refine sN 1 (d := hdC q.hd) rfl (hz3.trans hz1.symm) (z6 _) ?_ (by rw [hz3]; kernel_rfl)
    refine cf rfl ?_
    refine ld1 3 rfl rfl ?_
    refine cvs (v := .tuple #[Qn (q.hd).root, .nilIface]) (fun w1 hs => by have := qcK S' (q.hd).size w1 (hs.res (k := 0) rfl); rw [hb2, hrt] at this; exact this) ?_
    intro b12
    have hzr := qZ _ hk3.1
    refine sN 4 (d := (Lib.byteCells (q.hd).root).toArray) rfl (hzr.trans (by kernel_rfl)) (qN _) ?_ (by rw [hzr]; kernel_rfl)
    repeat (first | refine cf rfl ?_ | refine ct rfl ?_ | refine ldN 4 rfl hzr ?_ | refine ldP 3 (d := (Lib.byteCells (q.hd).root).toArray) rfl hzr (zf _ hk3.1) ?_ | refine neR (by rfl) (by kernel_rfl) (qbl 32 _ (by kernel_rfl) _ hk3.1 9998) ?_)
    refine coV (n := S'.fs.length) (z := 1) (xs := Zn (S'.fs.map (·.1))) (e := 3) (fun v => v) (fun w' hs => by have := qao S' w' (hs.res (k := 0) rfl) (by omega); rw [hb2] at this; exact this) (fun r hR => ?_)
    rcases r with _ | ⟨br, cr', jk⟩
    · have := hR.2; omega
    refine drs [dead, dead, dead, cl b10 (hdC q.hd) THd, dead, cl br (Zn (S'.fs.map (·.1)) ++ jk).toArray 3] [] (.t 0 (.t 1 (.t 2 (.t 3 (.t 4 (.t 5 (.t 6 (.t 7 (.t 8 .nil))))))))) qc qf (by kernel_rfl) (.dead (.dead (.dead (.cons (.dead (.cons .nil)))))) ?_
    refine .as ((S'.fs.length - 1 : Nat) : Int) (by omega) (by simp only [mn]; omega) (by simp only [mx]; omega) ?_
    refine ⟨by omega, by omega, ?_⟩
    refine ld1 5 rfl (v := .int .i64 (q.hd).size) (qc9 hkl jk (by simp) rfl) ?_
    refine ld1 3 rfl rfl ?_
    refine cne (fun h => absurd rfl h) (fun _ => ?_)
    refine .as ((i + 1 : Nat) : Int) (by simp) (by simp only [mn]; omega) (by simp only [mx]; omega) ?_
    refine ⟨(i + 1, S'), ⟨by (try simp only); omega, hI', hp'.trans hSp, ho'.trans hSo, hb'.trans hSb⟩, by (try simp only); omega, ?_⟩
    simp only [hlast]
    exact ⟨⟨rfl, rfl, rfl, rfl, rfl, rfl, trivial⟩, .cons (.cons .nil), rfl⟩
   | some l =>
    obtain ⟨r1, r2⟩ := hr l hl
    rw [hl] at hz1
    have p1 : decide (q.hd.size < l.size) = false := decide_eq_false (by omega)
    have q1 : (decide (q.hd.size < l.size) == false) = true := by rw [p1]; rfl
    have p2 : decide (q.hd.time < l.time) = false := decide_eq_false (by omega)
    have q2 : (decide (q.hd.time < l.time) == false) = true := by rw [p2]; rfl
    repeat (first | refine ct q1 ?_ | refine cf p1 ?_ | refine ct q2 ?_ | refine cf p2 ?_ | refine cf rfl ?_ | refine ct rfl ?_ | refine ld1 3 rfl rfl ?_ | refine ld1 1 rfl rfl ?_ | refine ldN 3 rfl hz3 ?_ | refine ldN 1 rfl hz1 ?_ | refine ldP 2 (d := hdC q.hd) rfl hzq (Op23.head hok) ?_ | refine neR (by rfl) (by kernel_rfl) (qcj _ hk3) ?_)
    refine sN 1 (d := hdC q.hd) rfl (hz3.trans hz1.symm) (z6 _) ?_ (by rw [hz3]; kernel_rfl)
    refine cf rfl ?_
    refine ld1 3 rfl rfl ?_
    refine cvs (v := .tuple #[Qn (q.hd).root, .nilIface]) (fun w1 hs => by have := qcK S' (q.hd).size w1 (hs.res (k := 0) rfl); rw [hb2, hrt] at this; exact this) ?_
    intro b12
    have hzr := qZ _ hk3.1
    refine sN 4 (d := (Lib.byteCells (q.hd).root).toArray) rfl (hzr.trans (by kernel_rfl)) (qN _) ?_ (by rw [hzr]; kernel_rfl)
    repeat (first | refine cf rfl ?_ | refine ct rfl ?_ | refine ldN 4 rfl hzr ?_ | refine ldP 3 (d := (Lib.byteCells (q.hd).root).toArray) rfl hzr (zf _ hk3.1) ?_ | refine neR (by rfl) (by kernel_rfl) (qbl 32 _ (by kernel_rfl) _ hk3.1 9998) ?_)
    refine coV (n := S'.fs.length) (z := 1) (xs := Zn (S'.fs.map (·.1))) (e := 3) (fun v => v) (fun w' hs => by have := qao S' w' (hs.res (k := 0) rfl) (by omega); rw [hb2] at this; exact this) (fun r hR => ?_)
    rcases r with _ | ⟨br, cr', jk⟩
    · have := hR.2; omega
    refine drs [dead, dead, dead, cl b10 (hdC q.hd) THd, dead, cl br (Zn (S'.fs.map (·.1)) ++ jk).toArray 3] [] (.t 0 (.t 1 (.t 2 (.t 3 (.t 4 (.t 5 (.t 6 (.t 7 (.t 8 .nil))))))))) qc qf (by kernel_rfl) (.dead (.dead (.dead (.cons (.dead (.cons .nil)))))) ?_
    refine .as ((S'.fs.length - 1 : Nat) : Int) (by omega) (by simp only [mn]; omega) (by simp only [mx]; omega) ?_
    refine ⟨by omega, by omega, ?_⟩
    refine ld1 5 rfl (v := .int .i64 (q.hd).size) (qc9 hkl jk (by simp) rfl) ?_
    refine ld1 3 rfl rfl ?_
    refine cne (fun h => absurd rfl h) (fun _ => ?_)
    refine .as ((i + 1 : Nat) : Int) (by simp) (by simp only [mn]; omega) (by simp only [mx]; omega) ?_
    refine ⟨(i + 1, S'), ⟨by (try simp only); omega, hI', hp'.trans hSp, ho'.trans hSo, hb'.trans hSb⟩, by (try simp only); omega, ?_⟩
    simp only [hlast]
    exact ⟨⟨rfl, rfl, rfl, rfl, rfl, rfl, trivial⟩, .cons (.cons .nil), rfl⟩
 · rw [if_neg hk] at hT
   subst hT
   rw [errVs _ hk]
   cases hl : S'.last with
   | none =>
    rw [hl] at hz3 hk3 hz1
    repeat (first | refine cf rfl ?_ | refine ct rfl ?_ | refine ld1 3 rfl rfl ?_ | refine ld1 1 rfl rfl ?_ | refine ldN 3 rfl hz3 ?_ | refine ldN 1 rfl hz1 ?_ | refine ldP 2 (d := hdC q.hd) rfl hzq (Op23.head hok) ?_ | refine neR (by rfl) (by kernel_rfl) (qcj _ hk3) ?_)
    refine sN 1 (d := hdC H0) rfl (hzH.trans hzH.symm) (z6 _) ?_ (by rw [hzH]; kernel_rfl)
    refine ct rfl ?_
    refine .as ((i + 1 : Nat) : Int) (by simp) (by simp only [mn]; omega) (by simp only [mx]; omega) ?_
    refine ⟨(i + 1, S'), ⟨by (try simp only); omega, hI', hSp, hSo, hSb⟩, by (try simp only); omega, ?_⟩
    simp only [hl]
    exact ⟨⟨rfl, rfl, rfl, rfl, rfl, rfl, trivial⟩, .cons (.cons .nil), rfl⟩
   | some l =>
    have hlast := hl
    have hrt : qcL (l).size S'.fs = .tuple #[Qn (l).root, .nilIface] := by unfold qcL; rw [hI'.gt _ hlast]; rfl
    have hkl := hI'.kl _ hlast
    have hln := hI'.ln
    have hn13 := hsm.1
    have hl1 : 1 ≤ S'.fs.length := by
     cases hf : S'.fs with
     | nil => rw [hf] at hkl; cases hkl
     | cons u v => simp
    rw [hl] at hz3 hk3 hz1
    simp only [Option.getD_some] at hz3 hk3
    have p1 : decide (l.size < l.size) = false := decide_eq_false (by omega)
    have q1 : (decide (l.size < l.size) == false) = true := by rw [p1]; rfl
    have p2 : decide (l.time < l.time) = false := decide_eq_false (by omega)
    have q2 : (decide (l.time < l.time) == false) = true := by rw [p2]; rfl
    repeat (first | refine ct q1 ?_ | refine cf p1 ?_ | refine ct q2 ?_ | refine cf p2 ?_ | refine cf rfl ?_ | refine ct rfl ?_ | refine ld1 3 rfl rfl ?_ | refine ld1 1 rfl rfl ?_ | refine ldN 3 rfl hz3 ?_ | refine ldN 1 rfl hz1 ?_ | refine ldP 2 (d := hdC q.hd) rfl hzq (Op23.head hok) ?_ | refine neR (by rfl) (by kernel_rfl) (qcj _ hk3) ?_)
    refine sN 1 (d := hdC l) rfl (hz3.trans hz1.symm) (z6 _) ?_ (by rw [hz3]; kernel_rfl)
    refine cf rfl ?_
    refine ld1 3 rfl rfl ?_
    refine cvs (v := .tuple #[Qn (l).root, .nilIface]) (fun w1 hs => by have := qcK S' (l).size w1 (hs.res (k := 0) rfl); rw [hb2, hrt] at this; exact this) ?_
    intro b12
    have hzr := qZ _ hk3.1
    refine sN 4 (d := (Lib.byteCells (l).root).toArray) rfl (hzr.trans (by kernel_rfl)) (qN _) ?_ (by rw [hzr]; kernel_rfl)
    repeat (first | refine cf rfl ?_ | refine ct rfl ?_ | refine ldN 4 rfl hzr ?_ | refine ldP 3 (d := (Lib.byteCells (l).root).toArray) rfl hzr (zf _ hk3.1) ?_ | refine neR (by rfl) (by kernel_rfl) (qbl 32 _ (by kernel_rfl) _ hk3.1 9998) ?_)
    refine coV (n := S'.fs.length) (z := 1) (xs := Zn (S'.fs.map (·.1))) (e := 3) (fun v => v) (fun w' hs => by have := qao S' w' (hs.res (k := 0) rfl) (by omega); rw [hb2] at this; exact this) (fun r hR => ?_)
    rcases r with _ | ⟨br, cr', jk⟩
    · have := hR.2; omega
    refine drs [dead, dead, dead, cl b10 (hdC l) THd, dead, cl br (Zn (S'.fs.map (·.1)) ++ jk).toArray 3] [] (.t 0 (.t 1 (.t 2 (.t 3 (.t 4 (.t 5 (.t 6 (.t 7 (.t 8 .nil))))))))) qc qf (by kernel_rfl) (.dead (.dead (.dead (.cons (.dead (.cons .nil)))))) ?_
    refine .as ((S'.fs.length - 1 : Nat) : Int) (by omega) (by simp only [mn]; omega) (by simp only [mx]; omega) ?_
    refine ⟨by omega, by omega, ?_⟩
    refine ld1 5 rfl (v := .int .i64 (l).size) (qc9 hkl jk (by simp) rfl) ?_
    refine ld1 3 rfl rfl ?_
    refine cne (fun h => absurd rfl h) (fun _ => ?_)
    refine .as ((i + 1 : Nat) : Int) (by simp) (by simp only [mn]; omega) (by simp only [mx]; omega) ?_
    refine ⟨(i + 1, S'), ⟨by (try simp only); omega, hI', hp'.trans hSp, ho'.trans hSo, hb'.trans hSb⟩, by (try simp only); omega, ?_⟩
    simp only [hlast]
    exact ⟨⟨rfl, rfl, rfl, rfl, rfl, rfl, trivial⟩, .cons (.cons .nil), rfl⟩
end
section
open Go.ChangeShapes Go.WideShapes Go.ChangeAt Go.RowKit Go.Sx
theorem own : ownKnob Tryz.prog.godebug = none := by kernel_rfl
theorem laidOut : laidOutB Tryz.prog = true := by kernel_rfl
theorem cellsU8 : Tryz.prog.cellsOf 5 = 1 := by kernel_rfl
theorem bytes_of (f : Nat → Int) (n : Nat) (h : ∀ i, i < n → 0 ≤ f i ∧ f i < 256) : ∃ bs : List UInt8, bs.length = n ∧ ∀ i, i < n → (Lib.byteCells bs)[i]? = some (.int .u8 (f i)) := by
 refine ⟨(List.range n).map fun i => UInt8.ofNat (f i).toNat, by simp, fun i hi => ?_⟩
 have := h i hi
 simp [Lib.byteCells, hi]
 omega
end
section
theorem jLaid : laidOutB Tryz.prog = true := by kernel_rfl
theorem jMaps : mapsRowed Tryz.prog = true := by kernel_rfl
theorem jStops : Tryz.prog.stopsHeard = true := by kernel_rfl
theorem jMay : Tryz.prog.mayEnter = true := by kernel_rfl
end
section
open Go.ChangeShapes Go.WideShapes Go.ChangeAt Go.RowKit Go.Sx
theorem qd5 : Tryz.prog.cellsOf TOp23 = 236 := by kernel_rfl
theorem cellsHd : Tryz.prog.cellsOf THd = 99 := by kernel_rfl
theorem cellsRc : Tryz.prog.cellsOf 47 = 133 := by kernel_rfl
theorem qdm : Tryz.prog.cellsOf 39 = 32 := by kernel_rfl
theorem cellsWd : Tryz.prog.cellsOf 41 = 64 := by kernel_rfl
theorem cellsI : Tryz.prog.cellsOf 3 = 1 := by kernel_rfl
theorem cellsStr : Tryz.prog.cellsOf 9 = 1 := by kernel_rfl
theorem cellsSs : Tryz.prog.cellsOf 22 = 1 := by kernel_rfl
theorem cellsBt : Tryz.prog.cellsOf 48 = 1 := by kernel_rfl
theorem Qq {α : Type} (l : List α) (i n : Nat) : l.drop i = (l.drop i).take n ++ l.drop (i + n) := by
 have := (List.take_append_drop n (l.drop i)).symm
 rwa [List.drop_drop] at this
section
variable {H : Type} {enc : TypeId × Value → H} {w : World} {base : Nat} {spare : Nat → Bool} {held : Bool}
theorem Zd {fuel t n : Nat} {cs : List Value} {x : DataW H × List MemPlace} (ht : Tryz.prog.underlying t = some (.array n 5)) (hl : cs.length = n) (h : DataW.trod enc Tryz.prog w base spare held fuel t cs = some x) :
 ∃ bs : List UInt8, bs.length = n ∧ cs = Lib.byteCells bs := by
 obtain ⟨xs, m, _, _, _, hxl, hel⟩ := DataW.trod_array ht h
 have hz : ∀ i : Nat, ∃ z : Int, i < n → cs[i]? = some (.int .u8 z) ∧ (Lit.int .u8 z).wf = true := by
  intro i
  by_cases hi : i < n
  · have hE := hel i hi
    rw [cellsU8, Nat.mul_one, List.getElem?_eq_getElem (by omega)] at hE
    obtain ⟨z, e1, _, e3⟩ := DataW.trod_int Tryz.underlying5 hE
    refine ⟨z, fun _ => ⟨?_, e3⟩⟩
    have h0 : ((cs.drop i).take 1)[0]? = some (.int .u8 z) := by rw [e1]; rfl
    simpa using h0
  · exact ⟨0, fun h => absurd h hi⟩
 obtain ⟨f, hf2⟩ := Classical.skolem.1 hz
 obtain ⟨bs, hbs, hd⟩ := bytes_of f n (fun i hi => by
  have := bounds_u8 (hf2 i hi).2
  omega)
 refine ⟨bs, hbs, List.ext_getElem? fun i => ?_⟩
 by_cases hi : i < n
 · rw [(hf2 i hi).1, hd i hi]
 · rw [List.getElem?_eq_none (by omega), List.getElem?_eq_none (by rw [Lib.byteCells_length]; omega)]
theorem open_hd {fuel : Nat} {cs : List Value} {x : DataW H × List MemPlace} (hl : cs.length = 99) (h : DataW.trod enc Tryz.prog w base spare held fuel THd cs = some x) : ∃ g : Hd, zK g ∧ cs = (hdC g).toList := by
 obtain ⟨xs, k, _, _, _, hxl, hfs⟩ := DataW.trod_struct Tryz.underlying43 h
 match xs, hxl with
 | [y0, y1, y2, y3, y4], _ =>
  have g0 : DataW.trod enc Tryz.prog w base spare held k 9 ((cs.drop 0).take (Tryz.prog.cellsOf 9)) = some y0 := hfs 0 _ rfl
  have g1 : DataW.trod enc Tryz.prog w base spare held k 3 ((cs.drop 1).take (Tryz.prog.cellsOf 3)) = some y1 := hfs 1 _ rfl
  have g2 : DataW.trod enc Tryz.prog w base spare held k 3 ((cs.drop 2).take (Tryz.prog.cellsOf 3)) = some y2 := hfs 2 _ rfl
  have g3 : DataW.trod enc Tryz.prog w base spare held k 39 ((cs.drop 3).take (Tryz.prog.cellsOf 39)) = some y3 := hfs 3 _ rfl
  have g4 : DataW.trod enc Tryz.prog w base spare held k 41 ((cs.drop 35).take (Tryz.prog.cellsOf 41)) = some y4 := hfs 4 _ rfl
  rw [cellsStr] at g0
  rw [cellsI] at g1 g2
  rw [qdm] at g3
  rw [cellsWd] at g4
  obtain ⟨s0, e0, _, _⟩ := DataW.trod_string Tryz.underlying9 g0
  obtain ⟨n1, e1, _, _⟩ := DataW.trod_int Tryz.underlying3 g1
  obtain ⟨n2, e2, _, _⟩ := DataW.trod_int Tryz.underlying3 g2
  obtain ⟨b3, l3, e3⟩ := Zd (n := 32) Tryz.underlying39 (by simp [hl]) g3
  obtain ⟨b4, l4, e4⟩ := Zd (n := 64) Tryz.underlying41 (by simp [hl]) g4
  refine ⟨⟨s0.data.toList, n1, n2, b3, b4⟩, ⟨l3, l4⟩, ?_⟩
  have h0 := Qq cs 0 1
  have hend : cs.drop (0 + 1 + 1 + 1 + 32 + 64) = [] := List.drop_of_length_le (by omega)
  rw [e0, Qq cs (0 + 1) 1, e1, Qq cs (0 + 1 + 1) 1, e2, Qq cs (0 + 1 + 1 + 1) 32, e3, Qq cs (0 + 1 + 1 + 1 + 32) 64, e4, hend, List.drop_zero] at h0
  rw [h0]
  simp [hdC]
theorem open_sums {fuel : Nat} {cs : List Value} {x : DataW H × List MemPlace} (h : DataW.trod enc Tryz.prog w base spare held fuel 22 cs = some x) : ∃ a c ps, cs = [.slice a (ps : List Bs).length c] ∧ RdS w (.slice a ps.length c) ps := by
 rcases Go.Deep.open_slice Tryz.underlying22 h with ⟨hcs, _⟩ | ⟨a, len, cap, m, n, D, Pl, hcs, _, hl, hm, hmm, hxe, hx⟩
 · refine ⟨none, 0, [], hcs, ?_⟩
   unfold RdS
   exact ⟨fun p hp => (List.not_mem_nil hp).elim, none, 0, rfl, Nat.le_refl _, fun hn => absurd rfl hn⟩
 · have hlm : len ≤ m := by rw [hmm]; split <;> omega
   have each : ∀ i, i < len → ∃ p : Bs, p.length = 32 ∧ ∀ j u, (Lib.byteCells p)[j]? = some u → w.cell? ((a.add (i * 32)).add j) = some u := by
    intro i hi
    obtain ⟨cs', h1, h2⟩ := hx i (by omega)
    rw [qdm] at h1
    obtain ⟨_, hlen, hcell⟩ := World.cells?_some h1
    obtain ⟨p, hp, e⟩ := Zd (n := 32) Tryz.underlying39 hlen h2
    refine ⟨p, hp, fun j u hu => ?_⟩
    rw [hcell j (by have := (List.getElem?_eq_some_iff.1 hu).1; rwa [Lib.byteCells_length, hp] at this), e, hu]
   obtain ⟨F, hF⟩ := Go.Deep.choose_lt each
   refine ⟨some a, cap, (List.range len).map F, by rw [hcs]; simp, ?_⟩
   unfold RdS
   refine ⟨fun p hp => ?_, some a, cap, rfl, by simp; omega, fun hne => ?_⟩
   · obtain ⟨i, hi, rfl⟩ := List.mem_map.1 hp
     exact (hF i (List.mem_range.1 hi)).1
   · have h0 : 0 < len := by
      rcases Nat.eq_zero_or_pos len with h | h
      · subst h; exact absurd rfl hne
      · exact h
     obtain ⟨p0, hc0⟩ := hF 0 h0
     have hu0 := hc0 0 _ (List.getElem?_eq_getElem (by rw [Lib.byteCells_length, p0]; decide))
     obtain ⟨b, o, sp⟩ := a
     have hsp : sp = none := by
      have := World.cell?_spot hu0
      simpa [Addr.add] using this
     subst hsp
     refine ⟨b, o, rfl, World.block_lt_of_cell? w _ (by simpa [qY] using hu0), fun i p hp j u hu => ?_⟩
     rw [List.getElem?_map, Option.map_eq_some_iff] at hp
     obtain ⟨k, hk, rfl⟩ := hp
     have hi : i < len := by have := (List.getElem?_eq_some_iff.1 hk).1; simpa using this
     obtain rfl : i = k := by rw [List.getElem?_range hi] at hk; exact Option.some.inj hk
     have := (hF i hi).2 j u hu
     rwa [qY, qY, Nat.mul_comm] at this
end
end
section
open Go.ChangeShapes Go.WideShapes Go.ChangeAt Go.RowKit Go.Sx
section
variable {H : Type} {enc : TypeId × Value → H} {w : World} {base : Nat} {spare : Nat → Bool} {held : Bool}
theorem qdT {fuel t e : Nat} {cs : List Value} {x : DataW H × List MemPlace} (ht : Tryz.prog.underlying t = some (.slice e)) (h : DataW.trod enc Tryz.prog w base spare held fuel t cs = some x) : ∃ a n c, cs = [.slice a n c] := by
 rcases Go.Deep.open_slice ht h with ⟨hcs, _⟩ | ⟨a, len, cap, _, _, _, _, hcs, _⟩
 · exact ⟨_, _, _, hcs⟩
 · exact ⟨_, _, _, hcs⟩
theorem open_rc {fuel : Nat} {cs : List Value} {x : DataW H × List MemPlace} (hl : cs.length = 133) (h : DataW.trod enc Tryz.prog w base spare held fuel 47 cs = some x) : ∃ (g : Hd) (i : Int) (l : Bs) (a : Option Addr) (n c : Nat), zK g ∧ l.length = 32 ∧ cs = (hdC g).toList ++ (.int .i64 i :: (Lib.byteCells l ++ [.slice a n c])) := by
 obtain ⟨xs, k, _, _, _, hxl, hfs⟩ := DataW.trod_struct Tryz.underlying47 h
 match xs, hxl with
 | [y0, y1, y2, y3], _ =>
  have g0 : DataW.trod enc Tryz.prog w base spare held k THd ((cs.drop 0).take (Tryz.prog.cellsOf THd)) = some y0 := hfs 0 _ rfl
  have g1 : DataW.trod enc Tryz.prog w base spare held k 3 ((cs.drop 99).take (Tryz.prog.cellsOf 3)) = some y1 := hfs 1 _ rfl
  have g2 : DataW.trod enc Tryz.prog w base spare held k 39 ((cs.drop 100).take (Tryz.prog.cellsOf 39)) = some y2 := hfs 2 _ rfl
  have g3 : DataW.trod enc Tryz.prog w base spare held k 22 ((cs.drop 132).take (Tryz.prog.cellsOf 22)) = some y3 := hfs 3 _ rfl
  rw [cellsHd] at g0
  rw [cellsI] at g1
  rw [qdm] at g2
  rw [cellsSs] at g3
  obtain ⟨g, hg, e0⟩ := open_hd (by simp [hl]) g0
  obtain ⟨n1, e1, _, _⟩ := DataW.trod_int Tryz.underlying3 g1
  obtain ⟨b2, l2, e2⟩ := Zd (n := 32) Tryz.underlying39 (by simp [hl]) g2
  obtain ⟨a, n, c, e3⟩ := qdT Tryz.underlying22 g3
  refine ⟨g, n1, b2, a, n, c, hg, l2, ?_⟩
  have h0 := Qq cs 0 99
  have hend : cs.drop (0 + 99 + 1 + 32 + 1) = [] := List.drop_of_length_le (by omega)
  rw [e0, Qq cs (0 + 99) 1, e1, Qq cs (0 + 99 + 1) 32, e2, Qq cs (0 + 99 + 1 + 32) 1, e3, hend, List.drop_zero] at h0
  rw [h0]
  simp
theorem qdw {r : Reach} {b0 : Nat} {v : Value} {d : DataW H} {p : List MemPlace} (hv : Value.okWide Tryz.prog w r b0 TOps23 v) (h : DataW.Trod enc Tryz.prog w base spare held TOps23 v d p) : ∃ n O, Scr23 w v n O := by
 obtain ⟨a0, len0, cap0, rfl⟩ := okWide_slice Tryz.underlying27 hv
 obtain ⟨fuel, hf⟩ := h
 rcases Go.Deep.open_slice Tryz.underlying27 hf with ⟨hcs, _⟩ | ⟨a, len, cap, m, n, D, Pl, hcs, _, hl, hm, hmm, hxe, hx⟩
 · have e : Value.slice a0 len0 cap0 = .slice none 0 0 := by simpa [Value.cells] using hcs
   exact ⟨0, fun _ => default, Nat.zero_le _, none, 0, e, fun i hi => by omega⟩
 · have e : Value.slice a0 len0 cap0 = .slice (some a) len cap := by simpa [Value.cells] using hcs
   rw [e]
   have hlm : len ≤ m := by rw [hmm]; split <;> omega
   have each : ∀ i, i < len → ∃ q : Op23, Act23 w (some a) i q := by
    intro i hi
    obtain ⟨cs, h1, h2⟩ := hx i (by omega)
    rw [qd5] at h1
    obtain ⟨_, hlen, hcell⟩ := World.cells?_some h1
    obtain ⟨xs, k, _, _, _, hxl, hfs⟩ := DataW.trod_struct Tryz.underlying50 h2
    match xs, hxl with
    | [y0, y1, y2, y3, y4, y5], _ =>
     have g0 : DataW.trod enc Tryz.prog w base spare held k 3 ((cs.drop 0).take (Tryz.prog.cellsOf 3)) = some y0 := hfs 0 _ rfl
     have g1 : DataW.trod enc Tryz.prog w base spare held k THd ((cs.drop 1).take (Tryz.prog.cellsOf THd)) = some y1 := hfs 1 _ rfl
     have g2 : DataW.trod enc Tryz.prog w base spare held k 47 ((cs.drop 100).take (Tryz.prog.cellsOf 47)) = some y2 := hfs 2 _ rfl
     have g3 : DataW.trod enc Tryz.prog w base spare held k 22 ((cs.drop 233).take (Tryz.prog.cellsOf 22)) = some y3 := hfs 3 _ rfl
     have g4 : DataW.trod enc Tryz.prog w base spare held k 48 ((cs.drop 234).take (Tryz.prog.cellsOf 48)) = some y4 := hfs 4 _ rfl
     have g5 : DataW.trod enc Tryz.prog w base spare held k 3 ((cs.drop 235).take (Tryz.prog.cellsOf 3)) = some y5 := hfs 5 _ rfl
     rw [cellsI] at g0 g5
     rw [cellsHd] at g1
     rw [cellsRc] at g2
     rw [cellsSs] at g3
     rw [cellsBt] at g4
     obtain ⟨n0, e0, _, _⟩ := DataW.trod_int Tryz.underlying3 g0
     obtain ⟨hd, hdo, e1⟩ := open_hd (by simp [hlen]) g1
     obtain ⟨rh, ri, rl, ra, rn, rc, rho, rll, e2⟩ := open_rc (by simp [hlen]) g2
     obtain ⟨pa, pc, ps, e3, hrd⟩ := open_sums g3
     obtain ⟨ta, tn, tc, e4⟩ := qdT Tryz.underlying48 g4
     obtain ⟨n5, e5, _, _⟩ := DataW.trod_int Tryz.underlying3 g5
     have h0 := Qq cs 0 1
     have hend : cs.drop (0 + 1 + 99 + 133 + 1 + 1 + 1) = [] := List.drop_of_length_le (by omega)
     rw [e0, Qq cs (0 + 1) 99, e1, Qq cs (0 + 1 + 99) 133, e2, Qq cs (0 + 1 + 99 + 133) 1, e3, Qq cs (0 + 1 + 99 + 133 + 1) 1, e4, Qq cs (0 + 1 + 99 + 133 + 1 + 1) 1, e5, hend, List.drop_zero] at h0
     have hq : cs = (Op23.mk n0 hd rh ri rl ra rn rc pa pc ps ta tn tc n5).cs.toList := by
      rw [h0]
      simp [Op23.cs, Op23.cA, Op23.cB, Op23.cE]
     have hok : qdB (Op23.mk n0 hd rh ri rl ra rn rc pa pc ps ta tn tc n5) := ⟨hdo, rho, rll⟩
     obtain ⟨q, hqq⟩ : ∃ q, q = Op23.mk n0 hd rh ri rl ra rn rc pa pc ps ta tn tc n5 := ⟨_, rfl⟩
     have hrd' : RdS w (.slice q.a q.ps.length q.c) q.ps := by rw [hqq]; exact hrd
     rw [← hqq] at hq hok
     have c0 := hcell 0 (by omega)
     rw [List.getElem?_eq_getElem (by omega)] at c0
     obtain ⟨b, o, sp⟩ := a
     have hsp : sp = none := by
      obtain ⟨cs0, h10, _⟩ := hx 0 (by omega)
      rw [qd5] at h10
      have := World.cell?_spot ((World.cells?_some h10).2.2 0 (by omega) |>.trans (List.getElem?_eq_getElem (by rw [(World.cells?_some h10).2.1]; omega)))
      simpa [Addr.add] using this
     subst hsp
     refine ⟨q, ⟨⟨b, o, rfl, World.block_lt_of_cell? w _ (by simpa [qY] using c0), fun j u hu => ?_⟩, hok, hrd'⟩⟩
     have hj : j < 236 := by have := (Array.getElem?_eq_some_iff.1 hu).1; rwa [Op23.size hok] at this
     have cj := hcell j hj
     rw [qY, qY] at cj
     rw [cj, hq, ← hu, Array.getElem?_toList]
   obtain ⟨O, hO⟩ := Go.Deep.choose_lt each
   exact ⟨len, O, by omega, some a, cap, rfl, hO⟩
end
end
end Go.Proofs.YtbgefoamhdgnaaaGreatDoor
