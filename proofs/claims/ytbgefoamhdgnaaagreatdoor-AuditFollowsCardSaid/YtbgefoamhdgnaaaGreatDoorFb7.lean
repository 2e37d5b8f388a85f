/- For all texts, steps and numbers the law AuditFollows returns true, and they read as they did; no condition. -/
import Derived.Test.YtbgefoamhdgnaaaGreatDoorRows
import Derived.WalkKit
import Derived.ProofKit
import Derived.OpenShut
import Derived.ShutString
import Derived.ChangeOld
import Derived.Below
import Derived.Lib.UnsafeStr
import Derived.Test.YtbgefoamhdgnaaaGreatDoorFb6
set_option maxRecDepth 100000
set_option maxHeartbeats 16000000
set_option linter.unusedVariables false
set_option linter.unusedSimpArgs false
namespace Go.Proofs.YtbgefoamhdgnaaaGreatDoor
section
open Go.RowKit Go.Sx
structure Fol (LS : List Bs) (bA : Nat) (S : AuS) (k size : Nat) (last : Int) : Prop where
 p : S.p = zb Qu
 o : S.o = logB
 b : S.bA = bA
 n : size ≤ LS.length
 st : (S.last = none ∧ size = 0 ∧ last = -1) ∨ ∃ h, S.last = some h ∧ h.size = (size : Nat) ∧ h.root = qz (LS.take size) ∧ h.time ≤ (k : Nat) ∧ last = (size : Nat)
 inv : SInv S k
def folP (LS : List Bs) (size size' : Nat) (last : Int) : List Bs := if 0 < last ∧ last < (size' : Nat) then qZ size (LS.take size') else []
theorem fol_take {LS : List Bs} {bA : Nat} {S : AuS} {k size size' : Nat} {last : Int} (h : Fol LS bA S k size last) (h1 : size ≤ size') (h2 : size' ≤ LS.length) (hn : LS.length ≤ 40) (hk : k ≤ 100) : qaD S (hdR (LS.take size') k) (folP LS size size' last) = 0 := by
 have hl : (LS.take size').length = size' := by rw [List.length_take]; omega
 unfold qaD AuS.takeB
 rw [h.p, h.o, qcx _ _ (by omega) (by omega), if_neg (by omega)]
 rcases h.st with ⟨e, e2, e3⟩ | ⟨x, e, e2, e3, e4, e5⟩
 · rw [e]
   have : folP LS size size' last = [] := if_neg (by omega)
   rw [this]
   rfl
 · rw [e]
   simp only
   have hs : (hdR (LS.take size') k).size = (size' : Nat) := by show (((LS.take size').length : Nat) : Int) = _; rw [hl]
   have ht : (hdR (LS.take size') k).time = (k : Nat) := rfl
   have hr : (hdR (LS.take size') k).root = qz (LS.take size') := rfl
   rw [if_neg (by omega)]
   have hg : qab (size : Nat) (qz (LS.take size)) (size' : Nat) (qz (LS.take size')) (folP LS size size' last) = true := by
    unfold folP
    by_cases h3 : 0 < last ∧ last < (size' : Nat)
    · rw [if_pos h3]
      have := grow_ok size (LS.take size') (by omega) (by omega) (by omega)
      rw [hl, List.take_take, Nat.min_eq_left h1] at this
      exact this
    · rw [if_neg h3]
      unfold qab
      by_cases h4 : (size : Int) = 0
      · rw [if_pos h4]
        have : size = 0 := by omega
        subst this
        by_cases h5 : size' = 0
        · subst h5; simp
        · simp; left; omega
      · rw [if_neg h4, if_pos (by omega)]
        have : size = size' := by omega
        subst this
        simp
   have hg' : qab x.size x.root (hdR (LS.take size') k).size (hdR (LS.take size') k).root (folP LS size size' last) = true := by rw [hs, hr, e2, e3]; exact hg
   exact if_neg (by rw [hg']; decide)
theorem qd5 {LS : List Bs} {bA : Nat} {S S' : AuS} {k size size' : Nat} {last : Int} {w : World} (h : Fol LS bA S k size last) (hl : S32 LS) (h2 : size' ≤ LS.length) (ht : TkS S (hdR (LS.take size') k) 0 S') (hp : AuP S' w) : Fol LS bA S' (k + 1) size' (size' : Nat) ∧ S'.last = some (hdR (LS.take size') k) := by
 have hlen : (LS.take size').length = size' := by rw [List.length_take]; omega
 obtain ⟨a, b, c, d⟩ := h.inv.step (qbr _ _ (qE hl _)) ht hp
 unfold TkS at ht
 rw [if_pos rfl] at ht
 obtain ⟨y, rfl⟩ := ht
 exact ⟨⟨b.trans h.p, c.trans h.o, d.trans h.b, h2, .inr ⟨_, rfl, by show (((LS.take size').length : Nat) : Int) = _; rw [hlen], rfl, by show ((k : Nat) : Int) ≤ ((k + 1 : Nat) : Int); omega, rfl⟩, a⟩, rfl⟩
theorem qcD {LS : List Bs} {S : AuS} {k n i : Nat} {t : Bs} (hS : S.last = some (hdR (LS.take n) k)) (h2 : n ≤ LS.length) (hn : LS.length ≤ 40) (hi : i < n) (ht : LS[i]? = some (qJ t)) : qaZ S t (i : Nat) (QD (n + 1) i (LS.take n)) = 0 := by
 have hl : (LS.take n).length = n := by rw [List.length_take]; omega
 unfold qaZ
 rw [hS]
 have hs : (hdR (LS.take n) k).size = (n : Nat) := by show (((LS.take n).length : Nat) : Int) = _; rw [hl]
 have hr : (hdR (LS.take n) k).root = qz (LS.take n) := rfl
 have := holds_ok i (LS.take n) (qJ t) (by omega) (by rw [List.getElem?_take_of_lt hi]; exact ht)
 rw [hl] at this
 simp only
 rw [hs, hr, if_neg (by omega), if_pos this]
theorem hdR_good (ps : List Bs) (t : Nat) (hn : ps.length ≤ 1048576) (ht : t ≤ 9007199254740991) : zE (hdR ps t) = true := by
 have h := qcx ps t hn ht
 unfold zP at h
 by_cases hg : zE (hdR ps t) = true
 · exact hg
 · rw [if_neg hg] at h; cases h
theorem qaP {LS : List Bs} {S : AuS} {k n i : Nat} {x : Bs} (hp : S.p = zb Qu) (ho : S.o = logB) (hS : S.last = some (hdR (LS.take n) k)) (h2 : n ≤ LS.length) (hn : LS.length ≤ 40) (hi : i < n) (hx : LS[i]? = some x) (a : Option Addr) (c : Nat) :
 ZE S ⟨hdR (LS.take (i + 1)) 0, (i : Nat), x, QD (i + 2) i (LS.take (i + 1)), a, c⟩ (qZ (i + 1) (LS.take n)) = 0 := by
 have hl : (LS.take n).length = n := by rw [List.length_take]; omega
 have hm : (LS.take (i + 1)).length = i + 1 := by rw [List.length_take]; omega
 have hxm : (LS.take (i + 1))[i]? = some x := by rw [List.getElem?_take_of_lt (Nat.lt_succ_self i)]; exact hx
 have hsm : (hdR (LS.take (i + 1)) 0).size = ((i + 1 : Nat) : Int) := by show (((LS.take (i + 1)).length : Nat) : Int) = _; rw [hm]
 have hrm : (hdR (LS.take (i + 1)) 0).root = qz (LS.take (i + 1)) := rfl
 have hsn : (hdR (LS.take n) k).size = (n : Nat) := by show (((LS.take n).length : Nat) : Int) = _; rw [hl]
 have hrn : (hdR (LS.take n) k).root = qz (LS.take n) := rfl
 have hpl : (QD (i + 2) i (LS.take (i + 1))).length ≤ 20 := by
  have := (path_ok (i + 2) i (LS.take (i + 1)) x (by omega) (by omega) hxm).1
  rw [this, hm]
  exact Nat.le_trans (pth_log 6 i (i + 1) (by omega) (by omega)) (by decide)
 have hh := holds_ok i (LS.take (i + 1)) x (by omega) hxm
 rw [hm] at hh
 have hw : qb9 ⟨hdR (LS.take (i + 1)) 0, (i : Nat), x, QD (i + 2) i (LS.take (i + 1)), a, c⟩ = true := by
  unfold qb9
  simp only [hdR_good _ _ (show (LS.take (i + 1)).length ≤ 1048576 by omega) (show 0 ≤ 9007199254740991 by decide), hsm, Bool.true_and, Bool.and_eq_true, decide_eq_true_eq]
  omega
 have hr : zV ⟨hdR (LS.take (i + 1)) 0, (i : Nat), x, QD (i + 2) i (LS.take (i + 1)), a, c⟩ S.p S.o = 0 := by
  unfold zV
  rw [hw, if_pos rfl, hp, ho]
  simp only
  rw [qcx _ _ (by omega) (by decide), if_pos rfl, hsm, hrm, if_pos hh]
 unfold ZE
 rw [hr, if_pos rfl, hS]
 simp only
 have hg := grow_ok (i + 1) (LS.take n) (by omega) (by omega) (by omega)
 rw [hl, List.take_take, Nat.min_eq_left (by omega)] at hg
 rw [hsm, hrm, hsn, hrn, if_neg (by omega), if_pos hg]
end
section
open Go.RowKit Go.Sx
structure TxIn (w : World) (a : Option Addr) (c : Nat) (ts : List Bs) : Prop where
 cap : ts.length ≤ c
 at_ : ∀ (i : Nat) t, ts[i]? = some t → ∃ b o ua uc, a = some ⟨b, o, none⟩ ∧ b < w.heap.size ∧ w.cell? ⟨b, o + i, none⟩ = some (.slice ua t.length uc) ∧ Rd w (.slice ua t.length uc) (Lib.byteCells t)
theorem bsS0 (w : World) : (Instr.buildSlice 22 0 #[]).run Tryz.prog w = .ok (.slice (some ⟨w.heap.size, 0, none⟩) 0 0) (w.alloc (.cells #[] TSq)) := by
 obtain ⟨i, hi, hz, hs, hb⟩ := Qg infoSs
 simp [Instr.buildSlice, run_underlying undSs, sizeOf, typeInfo, hi, newRow, Instr.fill]
 exact congrArg (fun c => w.alloc (.cells c TSq)) (Array.ext' (by simp))
def lvs (ts : List Bs) : List Bs := ts.map qJ
theorem lvs_32 (ts : List Bs) : S32 (lvs ts) := fun p hp => by obtain ⟨t, _, rfl⟩ := List.mem_map.1 hp; exact qI _
theorem lvs_len (ts : List Bs) : (lvs ts).length = ts.length := by simp [lvs]
theorem lvs_snoc {ts : List Bs} {k : Nat} {t : Bs} (h : ts[k]? = some t) : lvs (ts.take (k + 1)) = lvs (ts.take k) ++ [qJ t] := by
 have hk := (List.getElem?_eq_some_iff.1 h).1
 unfold lvs
 rw [List.take_succ_eq_append_getElem hk, List.map_append, (List.getElem?_eq_some_iff.1 h).2]; rfl
theorem law_follows (ta : Option Addr) (tc : Nat) (ts : List Bs) (va : Option Addr) (vc : Nat) (zs : List Int) (rc : Int) (hzb : ∀ z ∈ zs, -9223372036854775808 ≤ z ∧ z ≤ 9223372036854775807) (hrc : -9223372036854775808 ≤ rc ∧ rc ≤ 9223372036854775807) (hzl : zs.length ≤ maxLen) (htl : ts.length ≤ maxLen) (w : World) (hw : Laid w)
 (hT : TxIn w ta tc ts) (hZ : Rd w (.slice va zs.length vc) (ZI zs)) :
 Calls Tryz.prog 5 ([.slice ta ts.length tc, .slice va zs.length vc, .int .i64 rc] : List Value).toArray w fun e w' => e = .returned (.bool true) ∧ Below w.heap.size w w' := by
 have hmx : maxLen ≤ 9223372036854775807 := by decide
 refine qj qc Tryz.func5 rfl Tryz.ntmps5 rfl (St.start w) ?_
 refine cv alive_any ?_
 refine cf rfl ?_
 by_cases hn : 40 < ts.length
 · have p0 : decide (((ts.length : Nat) : Int) > 40) = true := decide_eq_true (by omega)
   have q0 : (decide (((ts.length : Nat) : Int) > 40) == false) = false := by rw [p0]; rfl
   repeat (first | refine cf q0 ?_ | refine ct p0 ?_ | refine cf rfl ?_ | refine ct rfl ?_)
   exact rt rfl
 have p0 : decide (((ts.length : Nat) : Int) > 40) = false := decide_eq_false (by omega)
 have q0 : (decide (((ts.length : Nat) : Int) > 40) == false) = true := by rw [p0]; rfl
 by_cases hz : 8 < zs.length
 · have p1 : decide (((zs.length : Nat) : Int) > 8) = true := decide_eq_true (by omega)
   repeat (first | refine ct q0 ?_ | refine cf p0 ?_ | refine ct p1 ?_ | refine cf rfl ?_ | refine ct rfl ?_)
   exact rt rfl
 have p1 : decide (((zs.length : Nat) : Int) > 8) = false := decide_eq_false (by omega)
 repeat (first | refine ct q0 ?_ | refine cf p0 ?_ | refine cf p1 ?_ | refine cf rfl ?_ | refine ct rfl ?_)
 refine .mk _ _ bsS0 (fun b0 => ?_)
 refine lp qc (fun y : Nat × Sx.Own => y.1 ≤ ts.length ∧ (∀ j t, j < y.1 → ts[j]? = some t → t.length ≤ 1000) ∧ Rw 32 (lvs (ts.take y.1)).length y.2 (suC (lvs (ts.take y.1)))) (fun y => ⟨[(0, .slice ta ts.length tc), (1, .slice va zs.length vc), (2, .int .i64 rc), (7, sv y.2 (lvs (ts.take y.1)).length), (32, .slice ta ts.length tc), (33, .int .i64 ts.length), (34, .int .i64 y.1)], [se y.2 (suC (lvs (ts.take y.1))) TSq], []⟩) (fun y => ts.length - y.1) (0, some (b0, 0, []))
  ⟨Nat.zero_le _, fun j t hj => absurd hj (Nat.not_lt_zero _), rfl, Nat.le_refl _, by unfold maxLen; omega, rfl⟩ ⟨⟨rfl, rfl, rfl, rfl, rfl, rfl, rfl, trivial⟩, .cons .nil, rfl⟩ ?_
 rintro ⟨k, r⟩ ⟨hk, hsm, hR⟩
 simp only at hk hsm hR
 refine cd (fun hlt => ?_) (fun hge => ?_)
 · have hkl : k < ts.length := by (try simp only at hlt); omega
   obtain ⟨t, ht⟩ : ∃ t, ts[k]? = some t := ⟨_, List.getElem?_eq_getElem hkl⟩
   obtain ⟨tb, tq, ua, uc, rfl, htb, hcell, hrd⟩ := hT.at_ k t ht
   have hcp := hT.cap
   refine ⟨by (try simp only); omega, by (try simp only); omega, ?_⟩
   refine ldo (v := .slice ua t.length uc) (by rw [qi, qh, Nat.mul_one, Int.toNat_natCast]; exact hcell) htb ?_
   refine cd (fun h1 => ?_) (fun h1 => ?_)
   · exact rt rfl
   have htl2 : t.length ≤ 1000 := by omega
   refine cvs (fun w' hs => rleaf_any _ t w' (hrd.below hs.below) (by omega)) ?_
   refine .mk _ _ (qe4 _ (qI _)) (fun bn => ?_)
   have hll : (lvs (ts.take k)).length ≤ 40 := by rw [lvs_len, List.length_take]; omega
   refine apS 0 1 rfl qc rfl rfl (lvs_32 _) (qI _) hR rfl (by (try simp only); omega) (fun r2 hr2 => ?_)
   refine .as ((k + 1 : Nat) : Int) (by simp) (by simp only [mn]; omega) (by simp only [mx]; omega) ?_
   rw [show lvs (ts.take k) ++ [qen (0 :: t)] = lvs (ts.take (k + 1)) from (lvs_snoc ht).symm] at hr2 ⊢
   refine ⟨(k + 1, r2), ⟨hkl, fun j t' hj ht' => ?_, hr2⟩, by (try simp only); omega, ?_⟩
   · by_cases hjk : j = k
     · subst hjk; rw [ht] at ht'; rw [← Option.some.inj ht']; exact htl2
     · exact hsm j t' (by (try simp only at hj); omega) ht'
   exact ⟨⟨rfl, rfl, rfl, rfl, rfl, rfl, rfl, trivial⟩, .cons .nil, rfl⟩
 obtain rfl : k = ts.length := by (try simp only at hge); omega
 simp only [List.take_of_length_le (Nat.le_refl ts.length)] at hR ⊢
 refine cv qds ?_
 refine cv (qaF Qu) ?_
 intro b10
 refine sN 1 rfl (qf _) (qv _) ?_ (by kernel_rfl)
 refine ldN 1 rfl (qf _) ?_
 refine cM (r' := fun x : Nat × Nat => auR (au0 (zb Qu) logB x)) (fun w' hs => (qfa (zb Qu) logB (by decide) qct w').mono fun e w'' ⟨x, h0, h1, h2, h3, h4, h5⟩ => ⟨x, h0, h1, h2, h3, h4, fun k hk => (h5 k hk).elim⟩) (fun x _ => ?_)
 refine cf rfl ?_
 have hLl := lvs_len ts
 have h32 := lvs_32 ts
 have hget : ∀ i t, ts[i]? = some t → (lvs ts)[i]? = some (qJ t) := fun i t h => by unfold lvs; rw [List.getElem?_map, h]; rfl
 generalize hLS0 : lvs ts = LS at *
 obtain ⟨ra, rcp, hrv, hra, hcp2⟩ : ∃ ra rcp, sv r LS.length = .slice ra LS.length rcp ∧ (∀ a, ra = some a → a.spot = none) ∧ LS.length ≤ rcp := by
  rcases r with _ | ⟨b, c, j⟩
  · exact ⟨none, 0, by rw [show LS.length = 0 from hR.2]; rfl, fun a h => (by cases h), by rw [show LS.length = 0 from hR.2]; exact Nat.le_refl _⟩
  · exact ⟨_, c, rfl, fun a h => by injection h with h; subst h; rfl, hR.2.1⟩
 rw [hrv]
 have hLS : ∀ {w' : World} {L : List Ent}, St [] w w' L → L[0]? = some (se r (suC LS) TSq) → RdS w' (.slice ra LS.length rcp) LS := fun hs h => by rw [← hrv]; exact RdS.own hs 0 h32 h hR
 refine lp qc (fun y : Nat × Nat × Int × AuS => y.1 ≤ zs.length ∧ Fol LS x.1 y.2.2.2 y.1 y.2.1 y.2.2.1) (fun y => ⟨[(0, .slice ta ts.length tc), (1, .slice va zs.length vc), (2, .int .i64 rc), (7, .slice ra LS.length rcp), (11, ptr x.1), (13, .int .i64 y.2.1), (14, .int .i64 y.2.2.1), (56, .slice va zs.length vc), (57, .int .i64 zs.length), (58, .int .i64 y.1)], [se r (suC LS) TSq, dead, rs (auR y.2.2.2)], []⟩) (fun y => zs.length - y.1) (0, 0, -1, au0 (zb Qu) logB x)
  ⟨Nat.zero_le _, ⟨rfl, rfl, rfl, Nat.zero_le _, .inl ⟨rfl, rfl, rfl⟩, ⟨fun x h => (by cases h), fun x h => (by cases h), fun x h => (by cases h), Nat.le_refl _⟩⟩⟩ ⟨⟨rfl, rfl, rfl, rfl, rfl, rfl, rfl, rfl, rfl, rfl, trivial⟩, .cons (.dead (.cons .nil)), rfl⟩ ?_
 rintro ⟨k, sz, last, S⟩ ⟨hk, hF⟩
 simp only at hk hF
 refine cd (fun hlt => ?_) (fun hge => ?_)
 case refine_2 =>
  have hfs := hF.inv.ln
  refine co (fun w' hs => by have := qeC S w' (hs.res (k := 2) rfl) (by omega); rw [hF.b] at this; exact this) (fun r7 hr7 => ?_)
  obtain ⟨pa7, pc7, hv7⟩ := qW hr7
  rw [hv7]
  exact rt (congrArg Value.bool (decide_eq_true (show ((S.fs.length : Nat) : Int) ≤ ((zs.length : Nat) : Int) by omega)))
 have hkl : k < zs.length := by (try simp only at hlt); omega
 obtain ⟨z, hz0⟩ : ∃ z, zs[k]? = some z := ⟨_, List.getElem?_eq_getElem hkl⟩
 obtain ⟨hzl1, hzl2⟩ := hzb z (List.mem_of_getElem? hz0)
 have hZ0 := hZ
 obtain ⟨a', c', hv0, hZr⟩ := hZ0
 obtain ⟨vb, vo, rfl, hvb, hvc⟩ := hZr (fun e => by have h9 : (ZI zs).length = 0 := (by rw [e]; rfl); rw [qaN] at h9; omega)
 injection hv0 with hv1 _ _
 subst hv1
 refine ⟨by (try simp only); omega, by (try simp only); omega, ?_⟩
 refine ldo (v := .int .i64 z) (by rw [qi, qh, Nat.mul_one, Int.toNat_natCast]; exact hvc k _ (by unfold ZI; rw [List.getElem?_map, hz0]; rfl)) hvb ?_
 refine .to (z % 18446744073709551616) rfl ?_
 refine ⟨by omega, by simp only [mx]; omega, by decide, ?_⟩
 refine .same (by simp only [mn]; omega) (by simp only [mx]; omega) ?_
 obtain ⟨q, hq⟩ : ∃ q : Nat, (z % 18446744073709551616) % 9 = q := ⟨((z % 18446744073709551616) % 9).toNat, (Int.toNat_of_nonneg (Int.emod_nonneg _ (by decide))).symm⟩
 have hszn := hF.n
 refine .as ((sz + q : Nat) : Int) (by (try simp only); omega) (by simp only [mn]; omega) (by simp only [mx]; omega) ?_
 refine biMin ?_
 obtain ⟨s2, hs2⟩ : ∃ s2 : Nat, s2 = min (sz + q) LS.length := ⟨_, rfl⟩
 have es2 : min ((sz + q : Nat) : Int) ((LS.length : Nat) : Int) = ((s2 : Nat) : Int) := by omega
 rw [es2]
 have h1 : sz ≤ s2 := by omega
 have h2 : s2 ≤ LS.length := by omega
 have htk := fol_take hF h1 h2 (by omega) (by omega)
 refine .mk _ _ bsS0 (fun bq => ?_)
 by_cases hc : 0 < last ∧ last < (s2 : Int)
 · have p2 : decide (last > 0) = true := decide_eq_true (by omega)
   have p3 : decide ((s2 : Int) > last) = true := decide_eq_true (by omega)
   have q2 : (decide (last > 0) == true) = true := by rw [p2]; rfl
   repeat (first | refine ct q2 ?_ | refine ct p2 ?_ | refine ct p3 ?_ | refine cf rfl ?_ | refine ct rfl ?_)
   obtain ⟨hls, hsz1⟩ : last = (sz : Int) ∧ 1 ≤ sz := by
    rcases hF.st with ⟨_, _, e⟩ | ⟨_, _, _, _, _, e⟩ <;> omega
   subst hls
   have ht9 : (LS.take s2).length = s2 := by rw [List.length_take]; omega
   refine ZH hra h2 hcp2 ?_
   refine co (fun w' hs => ZJ sz (LS.take s2) (.slice ra s2 rcp) w' hsz1 (by omega) (by omega) (RdS.take (hLS hs rfl) s2 h2)) (fun rp hrp => ?_)
   have g0 : S32 (qZ sz (LS.take s2)) := (qcm _ _ _ _ (qE h32 _) (by omega)).1
   have hfp : folP LS sz s2 (sz : Int) = qZ sz (LS.take s2) := if_pos hc
   rw [hfp] at htk
   generalize qZ sz (LS.take s2) = PS at hrp g0 htk ⊢
   obtain ⟨pa, pc, hpv⟩ := qW (z := 32) hrp
   rw [hpv]
   have hPS : ∀ {w' : World} {L : List Ent}, St [] w w' L → L[4]? = some (se rp (suC PS) TSq) → RdS w' (.slice pa PS.length pc) PS := fun hs h => by rw [← hpv]; exact RdS.own hs 4 g0 h hrp
   refine ZH hra h2 hcp2 ?_
   refine cvs (v := .agg (hdC (hdR (LS.take s2) k))) (fun w' hs => by have := Zn (LS.take s2) (.slice ra s2 rcp) k w' (by rw [List.length_take]; omega) (by omega) (RdS.take (hLS hs rfl) s2 h2); exact this) ?_
   refine cT 2 (α := AuS) (Φ := fun S' => Fol LS x.1 S' (k + 1) s2 (s2 : Nat) ∧ S'.last = some (hdR (LS.take s2) k)) (v := fun _ => Q7 0) (r' := fun S' => auR S') rfl (fun w' hs => by
    have h1 := qcd S (hdR (LS.take s2) k) PS pa pc (by rw [hF.p]; exact qap _) (qbr _ _ (qE h32 _)) (by show logB.length ≤ 1000; decide) w' (hw.below (Nat.le_refl _) hs.below) (hs.res (k := 2) rfl) (hPS hs rfl)
    rw [htk, hF.b] at h1
    exact h1.mono fun e w'' ⟨S', k1, k2, k3⟩ => ⟨S', qd5 hF h32 h2 k1 k3.ok, k2, k3⟩) (fun S2 ⟨hF2, hS2⟩ => ?_)
   refine cf rfl ?_
   refine cq (fun h0 => ?_) (fun h0 => ?_)
   · refine .as ((k + 1 : Nat) : Int) (by simp) (by simp only [mn]; omega) (by simp only [mx]; omega) ?_
     exact ⟨(k + 1, s2, (s2 : Int), S2), ⟨hkl, hF2⟩, by (try simp only); omega, ⟨⟨rfl, rfl, rfl, rfl, rfl, rfl, rfl, rfl, rfl, rfl, trivial⟩, .cons (.dead (.cons .nil)), rfl⟩⟩
   have hs0 : 0 < s2 := by omega
   obtain ⟨rbk, hra2⟩ : ∃ rbk, ra = some ⟨rbk, 0, none⟩ := by
    rcases r with _ | ⟨b, c, j⟩
    · have h9 : LS.length = 0 := hR.2
      omega
    · injection hrv with e1 _ _; exact ⟨b, e1.symm⟩
   subst hra2
   refine .to (rc % 18446744073709551616) rfl ?_
   refine .same (by simp only [mn]; omega) (by simp only [mx]; omega) ?_
   refine ⟨by omega, by simp only [mx]; omega, by omega, ?_⟩
   obtain ⟨i, hi⟩ : ∃ i : Nat, (rc % 18446744073709551616) % (s2 : Int) = i := ⟨((rc % 18446744073709551616) % (s2 : Int)).toNat, by have := Int.emod_nonneg (rc % 18446744073709551616) (b := (s2 : Int)) (by omega); omega⟩
   have hi2 : i < s2 := by have := Int.emod_lt_of_pos (rc % 18446744073709551616) (b := (s2 : Int)) (by omega); omega
   refine .as ((i : Nat) : Int) hi (by simp only [mn]; omega) (by simp only [mx]; omega) ?_
   obtain ⟨tx, htx⟩ : ∃ tx, ts[i]? = some tx := ⟨_, List.getElem?_eq_getElem (by omega)⟩
   have hxl := hget i tx htx
   have hlen := hsm i tx (by omega) htx
   obtain ⟨tb, tq, ua, uc, rfl, htb, hcell, hrd⟩ := hT.at_ i tx htx
   have hcp := hT.cap
   have ht2 : (LS.take s2).length = s2 := by rw [List.length_take]; omega
   have htm : (LS.take (i + 1)).length = i + 1 := by rw [List.length_take]; omega
   refine dr [se r (suC LS) TSq] 99 (.t 0 (.t 1 (.t 2 (.t 3 (.t 4 (.t 5 (.t 6 (.t 7 (.t 8 (.t 9 (.n 10 (.n 11 (.t 12 .nil))))))))))))) qc qe (by kernel_rfl) (.cons .nil) ?_
   refine ⟨by omega, by omega, ?_⟩
   refine ldo (v := .slice ua tx.length uc) (by rw [qi, qh, Nat.mul_one, Int.toNat_natCast]; exact hcell) htb ?_
   refine ZH hra h2 hcp2 ?_
   refine co (fun w' hs => by have := Zm i (LS.take s2) (.slice (some ⟨rbk, 0, none⟩) s2 rcp) w' (by omega) (by omega) (RdS.take (hLS hs rfl) s2 h2); rw [ht2] at this; exact this) (fun r4 hr4 => ?_)
   refine ⟨.cons .nil, ?_⟩
   obtain ⟨g4, _⟩ := zX (s2 + 1) i (LS.take s2) (qE h32 _) (by omega)
   obtain ⟨pa4, pc4, hv4⟩ := qW (z := 32) hr4
   rw [hv4]
   have hold := qcD hS2 h2 (by omega) hi2 hxl
   refine cvs (v := Q7 0) (fun w' hs => by
    have h1 := qaY S2 tx (.slice ua tx.length uc) i (QD (s2 + 1) i (LS.take s2)) pa4 pc4 w' (hs.res (k := 2) rfl) (hrd.below hs.below) (by omega) (by have := RdS.own hs 5 g4 rfl hr4; rw [hv4] at this; exact this)
    rw [hold, hF2.b] at h1
    exact h1) ?_
   refine ⟨.cons .nil, ?_⟩
   refine cf rfl ?_
   refine .as ((i + 1 : Nat) : Int) (by simp) (by simp only [mn]; omega) (by simp only [mx]; omega) ?_
   obtain ⟨P5, hP5⟩ : ∃ P5, P5 = QD (i + 2) i (LS.take (i + 1)) := ⟨_, rfl⟩
   obtain ⟨g5, _⟩ := zX (i + 2) i (LS.take (i + 1)) (qE h32 _) (by omega)
   have hPC : ∀ (w' : World) (v : Value), RdS w' v (LS.take (i + 1)) → Calls Tryz.prog 22 ([v, .int .i64 i] : List Value).toArray w' fun e w'' => MkS w' P5 e w'' := fun w' v h => by
    have := Zm i (LS.take (i + 1)) v w' (by omega) (by omega) h
    rw [htm, ← hP5] at this
    exact this
   have hrce := fun a c => qaP (k := k) hF2.p hF2.o hS2 h2 (by omega) hi2 hxl a c
   simp only [← hP5] at hrce g5
   have hx32 := h32 _ (List.mem_of_getElem? hxl)
   have hzx := qx (qJ tx) hx32
   have hhd := qbr (LS.take (i + 1)) 0 (qE h32 _)
   have hrck : ∀ a c, qcL ⟨hdR (LS.take (i + 1)) 0, (i : Nat), qJ tx, P5, a, c⟩ := fun a c => ⟨hhd, hx32⟩
   refine cutp (α := Nat × Sx.Own × Option Addr × Nat) (fun y => Rw 32 P5.length y.2.1 (suC P5) ∧ sv y.2.1 P5.length = .slice y.2.2.1 P5.length y.2.2.2) (fun y => ⟨[(0, .slice (some ⟨tb, tq, none⟩) ts.length tc), (1, .slice (some ⟨vb, vo, none⟩) zs.length vc), (2, .int .i64 rc), (7, .slice (some ⟨rbk, 0, none⟩) LS.length rcp), (11, ptr x.1), (13, .int .i64 s2), (14, .int .i64 s2), (19, .int .i64 ((i + 1 : Nat) : Int)), (20, ptr y.1), (56, .slice (some ⟨vb, vo, none⟩) zs.length vc), (57, .int .i64 zs.length), (58, .int .i64 k)], [se r (suC LS) TSq, rs (auR S2), se y.2.1 (suC P5) TSq, cl y.1 (Rc.cs ⟨hdR (LS.take (i + 1)) 0, (i : Nat), qJ tx, P5, y.2.2.1, y.2.2.2⟩) TRc], []⟩) ?_ ?_
   · refine dr [se r (suC LS) TSq] 99 (.t 0 (.t 1 (.t 2 (.t 3 (.t 4 (.t 5 (.t 6 (.t 7 (.t 8 (.t 9 (.t 10 (.t 11 (.t 12 (.b 13 15 (.t 14 (.n 15 (.n 16 .nil))) (.n 13 (.t 14 (.n 16 .nil))))))))))))))))) qc qe (by kernel_rfl) (.cons .nil) ?_
     refine ZH hra (show i + 1 ≤ LS.length by omega) hcp2 ?_
     refine czs (v := .agg (hdC (hdR (LS.take (i + 1)) 0))) (fun w' hs => Zn (LS.take (i + 1)) (.slice (some ⟨rbk, 0, none⟩) (i + 1) rcp) 0 w' (by omega) (by decide) (RdS.take (hLS hs rfl) (i + 1) (by omega))) ?_
     refine ⟨by omega, by omega, ?_⟩
     refine .mk (Lib.byteCells (qJ tx)).toArray hzx (fun w1 hs => by rw [qi, qh, Int.toNat_natCast, Nat.mul_comm]; exact RdS.at (hLS hs rfl) i _ hxl) ?_
     refine ZH hra (show i + 1 ≤ LS.length by omega) hcp2 ?_
     refine ⟨?_, ?_⟩
     · refine co (fun w' hs => hPC w' _ (RdS.take (hLS hs rfl) (i + 1) (by omega))) (fun r5 hr5 => ?_)
       refine ⟨.cons .nil, ?_⟩
       obtain ⟨pa5, pc5, hv5⟩ := qW (z := 32) hr5
       rw [hv5]
       refine bu (c := Rc.cs ⟨hdR (LS.take (i + 1)) 0, (i : Nat), qJ tx, P5, pa5, pc5⟩) (ZZ ⟨hdR (LS.take (i + 1)) 0, (i : Nat), qJ tx, P5, pa5, pc5⟩ (hrck pa5 pc5)) ?_
       have hzc := zk (hrck pa5 pc5)
       intro b20
       refine ⟨.cons .nil, ?_⟩
       refine sN 7 rfl (hzc.trans (by kernel_rfl)) (qck _) ?_ (by rw [hzc]; kernel_rfl)
       refine ⟨.cons .nil, ?_⟩
       exact ⟨(b20, r5, pa5, pc5), ⟨hr5, hv5⟩, ⟨rfl, rfl, rfl, rfl, rfl, rfl, rfl, rfl, rfl, rfl, rfl, rfl, trivial⟩, ⟨_, .refl _, .cons (.drop (.cons (.drop (.drop (.drop (.cons (.cons .nil)))))))⟩, rfl⟩
     · intro b20
       refine ⟨.cons .nil, ?_⟩
       refine co (fun w' hs => hPC w' _ (RdS.take (hLS hs rfl) (i + 1) (by omega))) (fun r5 hr5 => ?_)
       refine ⟨.cons .nil, ?_⟩
       obtain ⟨pa5, pc5, hv5⟩ := qW (z := 32) hr5
       rw [hv5]
       refine bu (c := Rc.cs ⟨hdR (LS.take (i + 1)) 0, (i : Nat), qJ tx, P5, pa5, pc5⟩) (ZZ ⟨hdR (LS.take (i + 1)) 0, (i : Nat), qJ tx, P5, pa5, pc5⟩ (hrck pa5 pc5)) ?_
       have hzc := zk (hrck pa5 pc5)
       refine sN 6 rfl (hzc.trans (by kernel_rfl)) (qck _) ?_ (by rw [hzc]; kernel_rfl)
       refine ⟨.cons .nil, ?_⟩
       exact ⟨(b20, r5, pa5, pc5), ⟨hr5, hv5⟩, ⟨rfl, rfl, rfl, rfl, rfl, rfl, rfl, rfl, rfl, rfl, rfl, rfl, trivial⟩, ⟨[se r (suC LS) TSq, rs (auR S2), cl b20 (Rc.cs ⟨hdR (LS.take (i + 1)) 0, (i : Nat), qJ tx, P5, pa5, pc5⟩) TRc, se r5 (suC P5) TSq], .cons _ (.cons _ (.swap _ _ _)), .cons (.drop (.cons (.drop (.drop (.drop (.cons (.cons .nil)))))))⟩, rfl⟩
   rintro ⟨b20, r5, pa5, pc5⟩ ⟨hr5, hv5⟩
   simp only
   have hzc := zk (hrck pa5 pc5)
   refine dr [se r (suC LS) TSq, dead, dead, cl b20 (Rc.cs ⟨hdR (LS.take (i + 1)) 0, (i : Nat), qJ tx, P5, pa5, pc5⟩) TRc] 99 (.t 0 (.t 1 (.t 2 (.t 3 (.t 4 (.t 5 (.n 6 (.n 7 (.t 8 .nil))))))))) qc qe (by kernel_rfl) (.cons (.dead (.dead (.cons .nil)))) ?_
   refine ldN 3 rfl hzc ?_
   refine ZH hra h2 hcp2 ?_
   refine co (fun w' hs => ZJ (i + 1) (LS.take s2) (.slice (some ⟨rbk, 0, none⟩) s2 rcp) w' (by omega) (by omega) (by omega) (RdS.take (hLS hs rfl) s2 h2)) (fun r6 hr6 => ?_)
   refine ⟨.cons (.dead (.dead (.cons .nil))), ?_⟩
   obtain ⟨pa6, pc6, hv6⟩ := qW (z := 32) hr6
   rw [hv6]
   have g6 : S32 (qZ (i + 1) (LS.take s2)) := (qcm _ _ _ _ (qE h32 _) (by omega)).1
   refine cvs (v := Q7 0) (fun w' hs => by
    have h1 := ZU S2 ⟨hdR (LS.take (i + 1)) 0, (i : Nat), qJ tx, P5, pa5, pc5⟩ (by rw [hF2.p]; exact qap _) (hrck pa5 pc5) (by show logB.length ≤ 1000; decide) (qZ (i + 1) (LS.take s2)) pa6 pc6 w' (hw.below (Nat.le_refl _) hs.below) (hs.res (k := 1) rfl) (by have := RdS.own hs 2 g5 rfl hr5; rw [hv5] at this; exact this) (by have := RdS.own hs 4 g6 rfl hr6; rw [hv6] at this; exact this)
    rw [hrce, hF2.b] at h1
    exact h1) ?_
   refine ⟨.cons (.dead (.dead (.cons .nil))), ?_⟩
   refine cf rfl ?_
   refine .as ((k + 1 : Nat) : Int) (by simp) (by simp only [mn]; omega) (by simp only [mx]; omega) ?_
   exact ⟨(k + 1, s2, (s2 : Int), S2), ⟨hkl, hF2⟩, by (try simp only); omega, ⟨⟨rfl, rfl, rfl, rfl, rfl, rfl, rfl, rfl, rfl, rfl, trivial⟩, .cons (.pad (.cons .nil)), rfl⟩⟩
 · by_cases hc1 : 0 < last
   · have p2 : decide (last > 0) = true := decide_eq_true (by omega)
     have p3 : decide ((s2 : Int) > last) = false := decide_eq_false (by omega)
     have q2 : (decide (last > 0) == true) = true := by rw [p2]; rfl
     repeat (first | refine ct q2 ?_ | refine ct p2 ?_ | refine cf p3 ?_ | refine cf rfl ?_ | refine ct rfl ?_)
     have hPS : ∀ {w' : World} {L : List Ent}, St [] w w' L → L[3]? = some (cl bq #[] TSq) → RdS w' (.slice (some ⟨bq, 0, none⟩) ([] : List Bs).length 0) [] := fun hs h => ⟨fun p hp => (by cases hp), _, 0, rfl, Nat.le_refl _, fun h => absurd rfl h⟩
     have hfp : folP LS sz s2 last = [] := if_neg hc
     rw [hfp] at htk
     refine ZH hra h2 hcp2 ?_
     refine cvs (v := .agg (hdC (hdR (LS.take s2) k))) (fun w' hs => by have := Zn (LS.take s2) (.slice ra s2 rcp) k w' (by rw [List.length_take]; omega) (by omega) (RdS.take (hLS hs rfl) s2 h2); exact this) ?_
     refine cT 2 (α := AuS) (Φ := fun S' => Fol LS x.1 S' (k + 1) s2 (s2 : Nat) ∧ S'.last = some (hdR (LS.take s2) k)) (v := fun _ => Q7 0) (r' := fun S' => auR S') rfl (fun w' hs => by
      have h1 := qcd S (hdR (LS.take s2) k) [] (some ⟨bq, 0, none⟩) 0 (by rw [hF.p]; exact qap _) (qbr _ _ (qE h32 _)) (by show logB.length ≤ 1000; decide) w' (hw.below (Nat.le_refl _) hs.below) (hs.res (k := 2) rfl) (hPS hs rfl)
      rw [htk, hF.b] at h1
      exact h1.mono fun e w'' ⟨S', k1, k2, k3⟩ => ⟨S', qd5 hF h32 h2 k1 k3.ok, k2, k3⟩) (fun S2 ⟨hF2, hS2⟩ => ?_)
     refine cf rfl ?_
     refine cq (fun h0 => ?_) (fun h0 => ?_)
     · refine .as ((k + 1 : Nat) : Int) (by simp) (by simp only [mn]; omega) (by simp only [mx]; omega) ?_
       exact ⟨(k + 1, s2, (s2 : Int), S2), ⟨hkl, hF2⟩, by (try simp only); omega, ⟨⟨rfl, rfl, rfl, rfl, rfl, rfl, rfl, rfl, rfl, rfl, trivial⟩, .cons (.dead (.cons .nil)), rfl⟩⟩
     have hs0 : 0 < s2 := by omega
     obtain ⟨rbk, hra2⟩ : ∃ rbk, ra = some ⟨rbk, 0, none⟩ := by
      rcases r with _ | ⟨b, c, j⟩
      · have h9 : LS.length = 0 := hR.2
        omega
      · injection hrv with e1 _ _; exact ⟨b, e1.symm⟩
     subst hra2
     refine .to (rc % 18446744073709551616) rfl ?_
     refine .same (by simp only [mn]; omega) (by simp only [mx]; omega) ?_
     refine ⟨by omega, by simp only [mx]; omega, by omega, ?_⟩
     obtain ⟨i, hi⟩ : ∃ i : Nat, (rc % 18446744073709551616) % (s2 : Int) = i := ⟨((rc % 18446744073709551616) % (s2 : Int)).toNat, by have := Int.emod_nonneg (rc % 18446744073709551616) (b := (s2 : Int)) (by omega); omega⟩
     have hi2 : i < s2 := by have := Int.emod_lt_of_pos (rc % 18446744073709551616) (b := (s2 : Int)) (by omega); omega
     refine .as ((i : Nat) : Int) hi (by simp only [mn]; omega) (by simp only [mx]; omega) ?_
     obtain ⟨tx, htx⟩ : ∃ tx, ts[i]? = some tx := ⟨_, List.getElem?_eq_getElem (by omega)⟩
     have hxl := hget i tx htx
     have hlen := hsm i tx (by omega) htx
     obtain ⟨tb, tq, ua, uc, rfl, htb, hcell, hrd⟩ := hT.at_ i tx htx
     have hcp := hT.cap
     have ht2 : (LS.take s2).length = s2 := by rw [List.length_take]; omega
     have htm : (LS.take (i + 1)).length = i + 1 := by rw [List.length_take]; omega
     refine dr [se r (suC LS) TSq] 99 (.t 0 (.t 1 (.t 2 (.t 3 (.t 4 (.t 5 (.t 6 (.t 7 (.t 8 (.t 9 (.n 10 (.n 11 (.t 12 .nil))))))))))))) qc qe (by kernel_rfl) (.cons .nil) ?_
     refine ⟨by omega, by omega, ?_⟩
     refine ldo (v := .slice ua tx.length uc) (by rw [qi, qh, Nat.mul_one, Int.toNat_natCast]; exact hcell) htb ?_
     refine ZH hra h2 hcp2 ?_
     refine co (fun w' hs => by have := Zm i (LS.take s2) (.slice (some ⟨rbk, 0, none⟩) s2 rcp) w' (by omega) (by omega) (RdS.take (hLS hs rfl) s2 h2); rw [ht2] at this; exact this) (fun r4 hr4 => ?_)
     refine ⟨.cons .nil, ?_⟩
     obtain ⟨g4, _⟩ := zX (s2 + 1) i (LS.take s2) (qE h32 _) (by omega)
     obtain ⟨pa4, pc4, hv4⟩ := qW (z := 32) hr4
     rw [hv4]
     have hold := qcD hS2 h2 (by omega) hi2 hxl
     refine cvs (v := Q7 0) (fun w' hs => by
      have h1 := qaY S2 tx (.slice ua tx.length uc) i (QD (s2 + 1) i (LS.take s2)) pa4 pc4 w' (hs.res (k := 2) rfl) (hrd.below hs.below) (by omega) (by have := RdS.own hs 4 g4 rfl hr4; rw [hv4] at this; exact this)
      rw [hold, hF2.b] at h1
      exact h1) ?_
     refine ⟨.cons .nil, ?_⟩
     refine cf rfl ?_
     refine .as ((i + 1 : Nat) : Int) (by simp) (by simp only [mn]; omega) (by simp only [mx]; omega) ?_
     obtain ⟨P5, hP5⟩ : ∃ P5, P5 = QD (i + 2) i (LS.take (i + 1)) := ⟨_, rfl⟩
     obtain ⟨g5, _⟩ := zX (i + 2) i (LS.take (i + 1)) (qE h32 _) (by omega)
     have hPC : ∀ (w' : World) (v : Value), RdS w' v (LS.take (i + 1)) → Calls Tryz.prog 22 ([v, .int .i64 i] : List Value).toArray w' fun e w'' => MkS w' P5 e w'' := fun w' v h => by
      have := Zm i (LS.take (i + 1)) v w' (by omega) (by omega) h
      rw [htm, ← hP5] at this
      exact this
     have hrce := fun a c => qaP (k := k) hF2.p hF2.o hS2 h2 (by omega) hi2 hxl a c
     simp only [← hP5] at hrce g5
     have hx32 := h32 _ (List.mem_of_getElem? hxl)
     have hzx := qx (qJ tx) hx32
     have hhd := qbr (LS.take (i + 1)) 0 (qE h32 _)
     have hrck : ∀ a c, qcL ⟨hdR (LS.take (i + 1)) 0, (i : Nat), qJ tx, P5, a, c⟩ := fun a c => ⟨hhd, hx32⟩
     refine cutp (α := Nat × Sx.Own × Option Addr × Nat) (fun y => Rw 32 P5.length y.2.1 (suC P5) ∧ sv y.2.1 P5.length = .slice y.2.2.1 P5.length y.2.2.2) (fun y => ⟨[(0, .slice (some ⟨tb, tq, none⟩) ts.length tc), (1, .slice (some ⟨vb, vo, none⟩) zs.length vc), (2, .int .i64 rc), (7, .slice (some ⟨rbk, 0, none⟩) LS.length rcp), (11, ptr x.1), (13, .int .i64 s2), (14, .int .i64 s2), (19, .int .i64 ((i + 1 : Nat) : Int)), (20, ptr y.1), (56, .slice (some ⟨vb, vo, none⟩) zs.length vc), (57, .int .i64 zs.length), (58, .int .i64 k)], [se r (suC LS) TSq, rs (auR S2), se y.2.1 (suC P5) TSq, cl y.1 (Rc.cs ⟨hdR (LS.take (i + 1)) 0, (i : Nat), qJ tx, P5, y.2.2.1, y.2.2.2⟩) TRc], []⟩) ?_ ?_
     · refine dr [se r (suC LS) TSq] 99 (.t 0 (.t 1 (.t 2 (.t 3 (.t 4 (.t 5 (.t 6 (.t 7 (.t 8 (.t 9 (.t 10 (.t 11 (.t 12 (.b 13 15 (.t 14 (.n 15 (.n 16 .nil))) (.n 13 (.t 14 (.n 16 .nil))))))))))))))))) qc qe (by kernel_rfl) (.cons .nil) ?_
       refine ZH hra (show i + 1 ≤ LS.length by omega) hcp2 ?_
       refine czs (v := .agg (hdC (hdR (LS.take (i + 1)) 0))) (fun w' hs => Zn (LS.take (i + 1)) (.slice (some ⟨rbk, 0, none⟩) (i + 1) rcp) 0 w' (by omega) (by decide) (RdS.take (hLS hs rfl) (i + 1) (by omega))) ?_
       refine ⟨by omega, by omega, ?_⟩
       refine .mk (Lib.byteCells (qJ tx)).toArray hzx (fun w1 hs => by rw [qi, qh, Int.toNat_natCast, Nat.mul_comm]; exact RdS.at (hLS hs rfl) i _ hxl) ?_
       refine ZH hra (show i + 1 ≤ LS.length by omega) hcp2 ?_
       refine ⟨?_, ?_⟩
       · refine co (fun w' hs => hPC w' _ (RdS.take (hLS hs rfl) (i + 1) (by omega))) (fun r5 hr5 => ?_)
         refine ⟨.cons .nil, ?_⟩
         obtain ⟨pa5, pc5, hv5⟩ := qW (z := 32) hr5
         rw [hv5]
         refine bu (c := Rc.cs ⟨hdR (LS.take (i + 1)) 0, (i : Nat), qJ tx, P5, pa5, pc5⟩) (ZZ ⟨hdR (LS.take (i + 1)) 0, (i : Nat), qJ tx, P5, pa5, pc5⟩ (hrck pa5 pc5)) ?_
         have hzc := zk (hrck pa5 pc5)
         intro b20
         refine ⟨.cons .nil, ?_⟩
         refine sN 6 rfl (hzc.trans (by kernel_rfl)) (qck _) ?_ (by rw [hzc]; kernel_rfl)
         refine ⟨.cons .nil, ?_⟩
         exact ⟨(b20, r5, pa5, pc5), ⟨hr5, hv5⟩, ⟨rfl, rfl, rfl, rfl, rfl, rfl, rfl, rfl, rfl, rfl, rfl, rfl, trivial⟩, ⟨_, .refl _, .cons (.drop (.cons (.drop (.drop (.cons (.cons .nil))))))⟩, rfl⟩
       · intro b20
         refine ⟨.cons .nil, ?_⟩
         refine co (fun w' hs => hPC w' _ (RdS.take (hLS hs rfl) (i + 1) (by omega))) (fun r5 hr5 => ?_)
         refine ⟨.cons .nil, ?_⟩
         obtain ⟨pa5, pc5, hv5⟩ := qW (z := 32) hr5
         rw [hv5]
         refine bu (c := Rc.cs ⟨hdR (LS.take (i + 1)) 0, (i : Nat), qJ tx, P5, pa5, pc5⟩) (ZZ ⟨hdR (LS.take (i + 1)) 0, (i : Nat), qJ tx, P5, pa5, pc5⟩ (hrck pa5 pc5)) ?_
         have hzc := zk (hrck pa5 pc5)
         refine sN 5 rfl (hzc.trans (by kernel_rfl)) (qck _) ?_ (by rw [hzc]; kernel_rfl)
         refine ⟨.cons .nil, ?_⟩
         exact ⟨(b20, r5, pa5, pc5), ⟨hr5, hv5⟩, ⟨rfl, rfl, rfl, rfl, rfl, rfl, rfl, rfl, rfl, rfl, rfl, rfl, trivial⟩, ⟨[se r (suC LS) TSq, rs (auR S2), cl b20 (Rc.cs ⟨hdR (LS.take (i + 1)) 0, (i : Nat), qJ tx, P5, pa5, pc5⟩) TRc, se r5 (suC P5) TSq], .cons _ (.cons _ (.swap _ _ _)), .cons (.drop (.cons (.drop (.drop (.cons (.cons .nil))))))⟩, rfl⟩
     rintro ⟨b20, r5, pa5, pc5⟩ ⟨hr5, hv5⟩
     simp only
     have hzc := zk (hrck pa5 pc5)
     refine dr [se r (suC LS) TSq, dead, dead, cl b20 (Rc.cs ⟨hdR (LS.take (i + 1)) 0, (i : Nat), qJ tx, P5, pa5, pc5⟩) TRc] 99 (.t 0 (.t 1 (.t 2 (.t 3 (.t 4 (.t 5 (.n 6 (.n 7 (.t 8 .nil))))))))) qc qe (by kernel_rfl) (.cons (.dead (.dead (.cons .nil)))) ?_
     refine ldN 3 rfl hzc ?_
     refine ZH hra h2 hcp2 ?_
     refine co (fun w' hs => ZJ (i + 1) (LS.take s2) (.slice (some ⟨rbk, 0, none⟩) s2 rcp) w' (by omega) (by omega) (by omega) (RdS.take (hLS hs rfl) s2 h2)) (fun r6 hr6 => ?_)
     refine ⟨.cons (.dead (.dead (.cons .nil))), ?_⟩
     obtain ⟨pa6, pc6, hv6⟩ := qW (z := 32) hr6
     rw [hv6]
     have g6 : S32 (qZ (i + 1) (LS.take s2)) := (qcm _ _ _ _ (qE h32 _) (by omega)).1
     refine cvs (v := Q7 0) (fun w' hs => by
      have h1 := ZU S2 ⟨hdR (LS.take (i + 1)) 0, (i : Nat), qJ tx, P5, pa5, pc5⟩ (by rw [hF2.p]; exact qap _) (hrck pa5 pc5) (by show logB.length ≤ 1000; decide) (qZ (i + 1) (LS.take s2)) pa6 pc6 w' (hw.below (Nat.le_refl _) hs.below) (hs.res (k := 1) rfl) (by have := RdS.own hs 2 g5 rfl hr5; rw [hv5] at this; exact this) (by have := RdS.own hs 4 g6 rfl hr6; rw [hv6] at this; exact this)
      rw [hrce, hF2.b] at h1
      exact h1) ?_
     refine ⟨.cons (.dead (.dead (.cons .nil))), ?_⟩
     refine cf rfl ?_
     refine .as ((k + 1 : Nat) : Int) (by simp) (by simp only [mn]; omega) (by simp only [mx]; omega) ?_
     exact ⟨(k + 1, s2, (s2 : Int), S2), ⟨hkl, hF2⟩, by (try simp only); omega, ⟨⟨rfl, rfl, rfl, rfl, rfl, rfl, rfl, rfl, rfl, rfl, trivial⟩, .cons (.pad (.cons .nil)), rfl⟩⟩
   · have p2 : decide (last > 0) = false := decide_eq_false (by omega)
     have q2 : (decide (last > 0) == true) = false := by rw [p2]; rfl
     repeat (first | refine cf q2 ?_ | refine cf p2 ?_ | refine cf rfl ?_ | refine ct rfl ?_)
     have hPS : ∀ {w' : World} {L : List Ent}, St [] w w' L → L[3]? = some (cl bq #[] TSq) → RdS w' (.slice (some ⟨bq, 0, none⟩) ([] : List Bs).length 0) [] := fun hs h => ⟨fun p hp => (by cases hp), _, 0, rfl, Nat.le_refl _, fun h => absurd rfl h⟩
     have hfp : folP LS sz s2 last = [] := if_neg hc
     rw [hfp] at htk
     refine ZH hra h2 hcp2 ?_
     refine cvs (v := .agg (hdC (hdR (LS.take s2) k))) (fun w' hs => by have := Zn (LS.take s2) (.slice ra s2 rcp) k w' (by rw [List.length_take]; omega) (by omega) (RdS.take (hLS hs rfl) s2 h2); exact this) ?_
     refine cT 2 (α := AuS) (Φ := fun S' => Fol LS x.1 S' (k + 1) s2 (s2 : Nat) ∧ S'.last = some (hdR (LS.take s2) k)) (v := fun _ => Q7 0) (r' := fun S' => auR S') rfl (fun w' hs => by
      have h1 := qcd S (hdR (LS.take s2) k) [] (some ⟨bq, 0, none⟩) 0 (by rw [hF.p]; exact qap _) (qbr _ _ (qE h32 _)) (by show logB.length ≤ 1000; decide) w' (hw.below (Nat.le_refl _) hs.below) (hs.res (k := 2) rfl) (hPS hs rfl)
      rw [htk, hF.b] at h1
      exact h1.mono fun e w'' ⟨S', k1, k2, k3⟩ => ⟨S', qd5 hF h32 h2 k1 k3.ok, k2, k3⟩) (fun S2 ⟨hF2, hS2⟩ => ?_)
     refine cf rfl ?_
     refine cq (fun h0 => ?_) (fun h0 => ?_)
     · refine .as ((k + 1 : Nat) : Int) (by simp) (by simp only [mn]; omega) (by simp only [mx]; omega) ?_
       exact ⟨(k + 1, s2, (s2 : Int), S2), ⟨hkl, hF2⟩, by (try simp only); omega, ⟨⟨rfl, rfl, rfl, rfl, rfl, rfl, rfl, rfl, rfl, rfl, trivial⟩, .cons (.dead (.cons .nil)), rfl⟩⟩
     have hs0 : 0 < s2 := by omega
     obtain ⟨rbk, hra2⟩ : ∃ rbk, ra = some ⟨rbk, 0, none⟩ := by
      rcases r with _ | ⟨b, c, j⟩
      · have h9 : LS.length = 0 := hR.2
        omega
      · injection hrv with e1 _ _; exact ⟨b, e1.symm⟩
     subst hra2
     refine .to (rc % 18446744073709551616) rfl ?_
     refine .same (by simp only [mn]; omega) (by simp only [mx]; omega) ?_
     refine ⟨by omega, by simp only [mx]; omega, by omega, ?_⟩
     obtain ⟨i, hi⟩ : ∃ i : Nat, (rc % 18446744073709551616) % (s2 : Int) = i := ⟨((rc % 18446744073709551616) % (s2 : Int)).toNat, by have := Int.emod_nonneg (rc % 18446744073709551616) (b := (s2 : Int)) (by omega); omega⟩
     have hi2 : i < s2 := by have := Int.emod_lt_of_pos (rc % 18446744073709551616) (b := (s2 : Int)) (by omega); omega
     refine .as ((i : Nat) : Int) hi (by simp only [mn]; omega) (by simp only [mx]; omega) ?_
     obtain ⟨tx, htx⟩ : ∃ tx, ts[i]? = some tx := ⟨_, List.getElem?_eq_getElem (by omega)⟩
     have hxl := hget i tx htx
     have hlen := hsm i tx (by omega) htx
     obtain ⟨tb, tq, ua, uc, rfl, htb, hcell, hrd⟩ := hT.at_ i tx htx
     have hcp := hT.cap
     have ht2 : (LS.take s2).length = s2 := by rw [List.length_take]; omega
     have htm : (LS.take (i + 1)).length = i + 1 := by rw [List.length_take]; omega
     refine dr [se r (suC LS) TSq] 99 (.t 0 (.t 1 (.t 2 (.t 3 (.t 4 (.t 5 (.t 6 (.t 7 (.t 8 (.t 9 (.n 10 (.n 11 (.t 12 .nil))))))))))))) qc qe (by kernel_rfl) (.cons .nil) ?_
     refine ⟨by omega, by omega, ?_⟩
     refine ldo (v := .slice ua tx.length uc) (by rw [qi, qh, Nat.mul_one, Int.toNat_natCast]; exact hcell) htb ?_
     refine ZH hra h2 hcp2 ?_
     refine co (fun w' hs => by have := Zm i (LS.take s2) (.slice (some ⟨rbk, 0, none⟩) s2 rcp) w' (by omega) (by omega) (RdS.take (hLS hs rfl) s2 h2); rw [ht2] at this; exact this) (fun r4 hr4 => ?_)
     refine ⟨.cons .nil, ?_⟩
     obtain ⟨g4, _⟩ := zX (s2 + 1) i (LS.take s2) (qE h32 _) (by omega)
     obtain ⟨pa4, pc4, hv4⟩ := qW (z := 32) hr4
     rw [hv4]
     have hold := qcD hS2 h2 (by omega) hi2 hxl
     refine cvs (v := Q7 0) (fun w' hs => by
      have h1 := qaY S2 tx (.slice ua tx.length uc) i (QD (s2 + 1) i (LS.take s2)) pa4 pc4 w' (hs.res (k := 2) rfl) (hrd.below hs.below) (by omega) (by have := RdS.own hs 4 g4 rfl hr4; rw [hv4] at this; exact this)
      rw [hold, hF2.b] at h1
      exact h1) ?_
     refine ⟨.cons .nil, ?_⟩
     refine cf rfl ?_
     refine .as ((i + 1 : Nat) : Int) (by simp) (by simp only [mn]; omega) (by simp only [mx]; omega) ?_
     obtain ⟨P5, hP5⟩ : ∃ P5, P5 = QD (i + 2) i (LS.take (i + 1)) := ⟨_, rfl⟩
     obtain ⟨g5, _⟩ := zX (i + 2) i (LS.take (i + 1)) (qE h32 _) (by omega)
     have hPC : ∀ (w' : World) (v : Value), RdS w' v (LS.take (i + 1)) → Calls Tryz.prog 22 ([v, .int .i64 i] : List Value).toArray w' fun e w'' => MkS w' P5 e w'' := fun w' v h => by
      have := Zm i (LS.take (i + 1)) v w' (by omega) (by omega) h
      rw [htm, ← hP5] at this
      exact this
     have hrce := fun a c => qaP (k := k) hF2.p hF2.o hS2 h2 (by omega) hi2 hxl a c
     simp only [← hP5] at hrce g5
     have hx32 := h32 _ (List.mem_of_getElem? hxl)
     have hzx := qx (qJ tx) hx32
     have hhd := qbr (LS.take (i + 1)) 0 (qE h32 _)
     have hrck : ∀ a c, qcL ⟨hdR (LS.take (i + 1)) 0, (i : Nat), qJ tx, P5, a, c⟩ := fun a c => ⟨hhd, hx32⟩
     refine cutp (α := Nat × Sx.Own × Option Addr × Nat) (fun y => Rw 32 P5.length y.2.1 (suC P5) ∧ sv y.2.1 P5.length = .slice y.2.2.1 P5.length y.2.2.2) (fun y => ⟨[(0, .slice (some ⟨tb, tq, none⟩) ts.length tc), (1, .slice (some ⟨vb, vo, none⟩) zs.length vc), (2, .int .i64 rc), (7, .slice (some ⟨rbk, 0, none⟩) LS.length rcp), (11, ptr x.1), (13, .int .i64 s2), (14, .int .i64 s2), (19, .int .i64 ((i + 1 : Nat) : Int)), (20, ptr y.1), (56, .slice (some ⟨vb, vo, none⟩) zs.length vc), (57, .int .i64 zs.length), (58, .int .i64 k)], [se r (suC LS) TSq, rs (auR S2), se y.2.1 (suC P5) TSq, cl y.1 (Rc.cs ⟨hdR (LS.take (i + 1)) 0, (i : Nat), qJ tx, P5, y.2.2.1, y.2.2.2⟩) TRc], []⟩) ?_ ?_
     · refine dr [se r (suC LS) TSq] 99 (.t 0 (.t 1 (.t 2 (.t 3 (.t 4 (.t 5 (.t 6 (.t 7 (.t 8 (.t 9 (.t 10 (.t 11 (.t 12 (.b 13 15 (.t 14 (.n 15 (.n 16 .nil))) (.n 13 (.t 14 (.n 16 .nil))))))))))))))))) qc qe (by kernel_rfl) (.cons .nil) ?_
       refine ZH hra (show i + 1 ≤ LS.length by omega) hcp2 ?_
       refine czs (v := .agg (hdC (hdR (LS.take (i + 1)) 0))) (fun w' hs => Zn (LS.take (i + 1)) (.slice (some ⟨rbk, 0, none⟩) (i + 1) rcp) 0 w' (by omega) (by decide) (RdS.take (hLS hs rfl) (i + 1) (by omega))) ?_
       refine ⟨by omega, by omega, ?_⟩
       refine .mk (Lib.byteCells (qJ tx)).toArray hzx (fun w1 hs => by rw [qi, qh, Int.toNat_natCast, Nat.mul_comm]; exact RdS.at (hLS hs rfl) i _ hxl) ?_
       refine ZH hra (show i + 1 ≤ LS.length by omega) hcp2 ?_
       refine ⟨?_, ?_⟩
       · refine co (fun w' hs => hPC w' _ (RdS.take (hLS hs rfl) (i + 1) (by omega))) (fun r5 hr5 => ?_)
         refine ⟨.cons .nil, ?_⟩
         obtain ⟨pa5, pc5, hv5⟩ := qW (z := 32) hr5
         rw [hv5]
         refine bu (c := Rc.cs ⟨hdR (LS.take (i + 1)) 0, (i : Nat), qJ tx, P5, pa5, pc5⟩) (ZZ ⟨hdR (LS.take (i + 1)) 0, (i : Nat), qJ tx, P5, pa5, pc5⟩ (hrck pa5 pc5)) ?_
         have hzc := zk (hrck pa5 pc5)
         intro b20
         refine ⟨.cons .nil, ?_⟩
         refine sN 6 rfl (hzc.trans (by kernel_rfl)) (qck _) ?_ (by rw [hzc]; kernel_rfl)
         refine ⟨.cons .nil, ?_⟩
         exact ⟨(b20, r5, pa5, pc5), ⟨hr5, hv5⟩, ⟨rfl, rfl, rfl, rfl, rfl, rfl, rfl, rfl, rfl, rfl, rfl, rfl, trivial⟩, ⟨_, .refl _, .cons (.drop (.cons (.drop (.drop (.cons (.cons .nil))))))⟩, rfl⟩
       · intro b20
         refine ⟨.cons .nil, ?_⟩
         refine co (fun w' hs => hPC w' _ (RdS.take (hLS hs rfl) (i + 1) (by omega))) (fun r5 hr5 => ?_)
         refine ⟨.cons .nil, ?_⟩
         obtain ⟨pa5, pc5, hv5⟩ := qW (z := 32) hr5
         rw [hv5]
         refine bu (c := Rc.cs ⟨hdR (LS.take (i + 1)) 0, (i : Nat), qJ tx, P5, pa5, pc5⟩) (ZZ ⟨hdR (LS.take (i + 1)) 0, (i : Nat), qJ tx, P5, pa5, pc5⟩ (hrck pa5 pc5)) ?_
         have hzc := zk (hrck pa5 pc5)
         refine sN 5 rfl (hzc.trans (by kernel_rfl)) (qck _) ?_ (by rw [hzc]; kernel_rfl)
         refine ⟨.cons .nil, ?_⟩
         exact ⟨(b20, r5, pa5, pc5), ⟨hr5, hv5⟩, ⟨rfl, rfl, rfl, rfl, rfl, rfl, rfl, rfl, rfl, rfl, rfl, rfl, trivial⟩, ⟨[se r (suC LS) TSq, rs (auR S2), cl b20 (Rc.cs ⟨hdR (LS.take (i + 1)) 0, (i : Nat), qJ tx, P5, pa5, pc5⟩) TRc, se r5 (suC P5) TSq], .cons _ (.cons _ (.swap _ _ _)), .cons (.drop (.cons (.drop (.drop (.cons (.cons .nil))))))⟩, rfl⟩
     rintro ⟨b20, r5, pa5, pc5⟩ ⟨hr5, hv5⟩
     simp only
     have hzc := zk (hrck pa5 pc5)
     refine dr [se r (suC LS) TSq, dead, dead, cl b20 (Rc.cs ⟨hdR (LS.take (i + 1)) 0, (i : Nat), qJ tx, P5, pa5, pc5⟩) TRc] 99 (.t 0 (.t 1 (.t 2 (.t 3 (.t 4 (.t 5 (.n 6 (.n 7 (.t 8 .nil))))))))) qc qe (by kernel_rfl) (.cons (.dead (.dead (.cons .nil)))) ?_
     refine ldN 3 rfl hzc ?_
     refine ZH hra h2 hcp2 ?_
     refine co (fun w' hs => ZJ (i + 1) (LS.take s2) (.slice (some ⟨rbk, 0, none⟩) s2 rcp) w' (by omega) (by omega) (by omega) (RdS.take (hLS hs rfl) s2 h2)) (fun r6 hr6 => ?_)
     refine ⟨.cons (.dead (.dead (.cons .nil))), ?_⟩
     obtain ⟨pa6, pc6, hv6⟩ := qW (z := 32) hr6
     rw [hv6]
     have g6 : S32 (qZ (i + 1) (LS.take s2)) := (qcm _ _ _ _ (qE h32 _) (by omega)).1
     refine cvs (v := Q7 0) (fun w' hs => by
      have h1 := ZU S2 ⟨hdR (LS.take (i + 1)) 0, (i : Nat), qJ tx, P5, pa5, pc5⟩ (by rw [hF2.p]; exact qap _) (hrck pa5 pc5) (by show logB.length ≤ 1000; decide) (qZ (i + 1) (LS.take s2)) pa6 pc6 w' (hw.below (Nat.le_refl _) hs.below) (hs.res (k := 1) rfl) (by have := RdS.own hs 2 g5 rfl hr5; rw [hv5] at this; exact this) (by have := RdS.own hs 4 g6 rfl hr6; rw [hv6] at this; exact this)
      rw [hrce, hF2.b] at h1
      exact h1) ?_
     refine ⟨.cons (.dead (.dead (.cons .nil))), ?_⟩
     refine cf rfl ?_
     refine .as ((k + 1 : Nat) : Int) (by simp) (by simp only [mn]; omega) (by simp only [mx]; omega) ?_
     exact ⟨(k + 1, s2, (s2 : Int), S2), ⟨hkl, hF2⟩, by (try simp only); omega, ⟨⟨rfl, rfl, rfl, rfl, rfl, rfl, rfl, rfl, rfl, rfl, trivial⟩, .cons (.pad (.cons .nil)), rfl⟩⟩
end
section
open Go.ChangeShapes Go.WideShapes Go.ChangeAt Go.RowKit Go.Sx
theorem own : ownKnob Tryz.prog.godebug = none := by kernel_rfl
theorem laidOut : laidOutB Tryz.prog = true := by kernel_rfl
theorem cellsU8 : Tryz.prog.cellsOf 5 = 1 := by kernel_rfl
theorem bytes_of (f : Nat → Int) (n : Nat) (h : ∀ i, i < n → 0 ≤ f i ∧ f i < 256) : ∃ bs : List UInt8, bs.length = n ∧ ∀ i, i < n → (Lib.byteCells bs)[i]? = some (.int .u8 (f i)) := by
 refine ⟨(List.range n).map fun i => UInt8.ofNat (f i).toNat, by simp, fun i hi => ?_⟩
 have := h i hi
 simp [Lib.byteCells, hi]
 omega
end
section
theorem jLaid : laidOutB Tryz.prog = true := by kernel_rfl
theorem jMaps : mapsRowed Tryz.prog = true := by kernel_rfl
theorem jStops : Tryz.prog.stopsHeard = true := by kernel_rfl
theorem jMay : Tryz.prog.mayEnter = true := by kernel_rfl
end
section
open Go.ChangeShapes Go.WideShapes Go.ChangeAt Go.RowKit Go.Sx
theorem cellsI : Tryz.prog.cellsOf 3 = 1 := by kernel_rfl
theorem cellsBt : Tryz.prog.cellsOf 48 = 1 := by kernel_rfl
section
variable {H : Type} {enc : TypeId × Value → H} {w : World} {base : Nat} {spare : Nat → Bool} {held : Bool}
end
end
end Go.Proofs.YtbgefoamhdgnaaaGreatDoor
