/- For every seed and any two texts the law SignBack returns true; no condition. -/
import Derived.Test.YtjiagjonlcadiaaRows
import Derived.WalkKit
import Derived.ProofKit
import Derived.OpenShut
import Derived.ShutString
import Derived.ChangeOld
import Derived.Below
import Derived.Lib.UnsafeStr
import Derived.Test.YtjiagjonlcadiaaGb6
set_option maxRecDepth 100000
set_option maxHeartbeats 16000000
set_option linter.unusedVariables false
set_option linter.unusedSimpArgs false
namespace Go.Proofs.Ytjiagjonlcadiaa
section
open Go.RowKit Go.Sx
theorem apB {N : Nat} {M : Bks} {B : World} {F : Option Nat} {L : List Ent} (k : Nat) {cs : Array Bool} {r : Sx.Own} {n : Nat} {pre l : List UInt8} {x : Value} {next : Value → List Ent → Prop}
 (hk : L[k]? = some (se r (Lib.byteCells pre) 5)) (hR : Rw 1 n r (Lib.byteCells pre)) (hrd : ∀ w, St M B w L → Rd w x (Lib.byteCells l)) (hb : n + l.length ≤ 10000000)
 (go : ∀ r', Rw 1 (n + l.length) r' (Lib.byteCells (pre ++ l)) → next (sv r' (n + l.length)) (L.set k (se r' (Lib.byteCells (pre ++ l)) 5))) : BiP ⟨Try.prog, tab, N, M, B, F⟩ .append #[22, 22] 22 cs [sv r n, x] L next := by
 refine ap (C := ⟨Try.prog, tab, N, M, B, F⟩) k (m := l.length) (news := Lib.byteCells l) qi rfl zp rfl hk hR (fun w hs => ?_) (by omega) (by unfold maxLen; omega) (fun r' hr' => ?_)
 · have := (hrd w hs).src (P := Try.prog) q8 (fun u hu => by obtain ⟨_, _, rfl⟩ := List.mem_map.1 hu; rfl)
   rwa [Lib.byteCells_length] at this
 · rw [← Lib.byteCells_append] at hr' ⊢; exact go r' hr'
theorem zM (b0 : Nat) : Rw 1 0 (some (b0, 0, [])) (Lib.byteCells []) := ⟨rfl, by decide, by decide, rfl⟩
end
section
open Go.ChangeShapes Go.WideShapes Go.ChangeAt Go.RowKit Go.Sx
theorem qaL {H : Type} {enc : TypeId × Value → H} {w : World} {base : Nat} {spare : Nat → Bool} {held : Bool} {r : Reach} {b0 : Nat} {v : Value} {d : DataW H} {p : List MemPlace}
 (hv : Value.okWide Try.prog w r b0 22 v) (h : DataW.Trod enc Try.prog w base spare held 22 v d p) : ∃ a bs c, v = .slice a bs.length c ∧ bs.length ≤ c ∧ c ≤ maxLen ∧ (∀ x, a = some x → x.spot = none) ∧ Rd w v (Lib.byteCells bs) := by
 obtain ⟨a0, len, cap, rfl⟩ := okWide_slice Try.underlying22 hv
 obtain ⟨fuel, hf⟩ := h
 rcases open_ints Try.underlying22 Try.underlying5 cellsU8 hf with ⟨hcs, hx⟩ | ⟨a, len', cap', zs, hcs, _, hl, hm, hz, hx, hcell, hwz⟩
 · have e : Value.slice a0 len cap = .slice none 0 0 := by simpa [Value.cells] using hcs
   injection e with e1 e2 e3
   subst e1 e2 e3
   exact ⟨none, [], 0, rfl, Nat.le_refl _, Nat.zero_le _, by simp, none, 0, rfl, fun h => absurd rfl h⟩
 · have e : Value.slice a0 len cap = .slice (some a) len' cap' := by simpa [Value.cells] using hcs
   injection e with e1 e2 e3
   subst e1 e2 e3
   have hlz : len ≤ zs.length := by rw [hz]; split <;> omega
   obtain ⟨bs, hbs, hd⟩ := qdh (fun i => zs.getD i 0) len (fun i hi => by
    have hmem : zs.getD i 0 ∈ zs := by
     have : zs.getD i 0 = zs[i]'(by omega) := by simp [List.getD, show i < zs.length by omega]
     rw [this]; exact List.getElem_mem _
    have := bounds_u8 (hwz _ hmem)
    omega)
   have hsp : a.spot = none := by
    have h := hv
    simp only [Value.okWide, Try.underlying22, Cell.okWide, Cell.ok, World.has] at h
    exact h.2.2.2.1
   refine ⟨some a, bs, cap, by rw [hbs], by omega, hm, by rintro x hx; obtain rfl := Option.some.inj hx; exact hsp, some a, cap, by rw [Lib.byteCells_length, hbs], fun hne => ?_⟩
   obtain ⟨b, o, sp⟩ := a
   obtain rfl : sp = none := hsp
   have hpos : 0 < len := by
    rcases Nat.eq_zero_or_pos len with h0 | h0
    · rw [h0] at hbs; rw [List.eq_nil_of_length_eq_zero hbs] at hne; exact absurd rfl hne
    · exact h0
   refine ⟨b, o, rfl, ?_, fun j u hu => ?_⟩
   · have := hcell 0 (by omega); exact World.block_lt_of_cell? w _ this
   · have hj : j < len := by have := (List.getElem?_eq_some_iff.1 hu).1; rw [Lib.byteCells_length] at this; omega
     rw [hd j hj] at hu
     rw [← QP, hcell j (by omega)]; exact hu
end
section
open Go.RowKit Go.Sx
theorem eq_wide {C : Cx} {L : List Ent} {D E : List UInt8} {a b : Operand} {next : Value → List Ent → Prop} (hP : C.P = Try.prog) (hD : D.length = 64) (hE : E.length = 64) (go : next (.bool (decide (D = E))) L) :
 qaf C (do eqGuard .eql 74 a b (.agg (Lib.byteCells D).toArray) (.agg (Lib.byteCells E).toArray); binOp .eql 74 (.agg (Lib.byteCells D).toArray) (.agg (Lib.byteCells E).toArray)) L next :=
 eqB (e := 5) (n := 64) (by rw [hP]; kernel_rfl) (by rw [hP]; kernel_rfl) (by rw [hP]; kernel_rfl) (by rw [hP]; kernel_rfl) hD hE go
theorem zx (n : Nat) (bs : List UInt8) : (zK n bs).length = 64 := by unfold zK; rw [List.length_append, qo, qo]
end
section
open Go.RowKit Go.Sx
theorem back_core (n pn : Nat) (va vb : Value) (a b D : List UInt8) (hD : D.length = 64) (w : World) (hra : Rd w va (Lib.byteCells a)) (hrb : Rd w vb (Lib.byteCells b))
 (h1 : (a ++ b).length ≤ 2000 → ∀ w v, Parts w v (a ++ b) → Calls Try.prog 64 ([.agg (k32 n), v] : List Value).toArray w fun e w' => e = .returned (Qr D) ∧ Below w.heap.size w w')
 (h2 : ∀ w, Calls Try.prog 61 ([.agg (k32 n)] : List Value).toArray w fun e w' => e = .returned (.agg (k32 pn)) ∧ Below w.heap.size w w')
 (h3 : (a ++ b).length ≤ 2000 → ∀ w v, Parts w v (a ++ b) → Calls Try.prog 67 ([.agg (k32 pn), Qr D, v] : List Value).toArray w fun e w' => e = .returned (.bool true) ∧ Below w.heap.size w w') :
 Calls Try.prog 20 ([.agg (k32 n), va, vb] : List Value).toArray w fun e w' => e = .returned (.bool true) ∧ Below w.heap.size w w' := by
 have hra0 := hra
 have hrb0 := hrb
 obtain ⟨aa, ac, ha, _⟩ := hra0
 obtain ⟨ba, bc, hb, _⟩ := hrb0
 rw [Lib.byteCells_length] at ha hb
 have hDc : (Lib.byteCells D).length = 64 := by rw [Lib.byteCells_length, hD]
 refine q9 qi Try.func20 rfl Try.ntmps20 rfl (St.start w) ?_
 intro b3
 refine cv (fun w => Za w) ?_
 refine cf rfl ?_
 rw [ha, hb]
 cases hla : decide ((a.length : Int) > 1000) with
 | true =>
  refine cf (by rw [hla]; rfl) ?_
  refine cf (by rw [hla]; rfl) ?_
  refine cf (by rw [hla]; rfl) ?_
  refine ct hla ?_
  refine ct rfl ?_
  exact rt rfl
 | false =>
  refine ct (by rw [hla]; rfl) ?_
  refine ct (by rw [hla]; rfl) ?_
  refine ct (by rw [hla]; rfl) ?_
  refine cf hla ?_
  refine cd (fun h => ?_) (fun h => ?_)
  · exact rt rfl
  have hl1 := of_decide_eq_false hla
  have hl : (a ++ b).length ≤ 2000 := by rw [List.length_append]; omega
  have g1 := h1 hl
  have g3 := h3 hl
  rw [ha] at hra
  rw [hb] at hrb
  rw [List.length_append] at hl
  have hp2 : ∀ (M : Bks) (B w' : World) (L : List Ent) (hs : St M B w' L) (k bn : Nat), Below w.heap.size w w' → L[k]? = some (cl bn #[.slice aa a.length ac, .slice ba b.length bc] 22) → Parts w' (.slice (some ⟨bn, 0, none⟩) 2 2) (a ++ b) := fun M B w' L hs k bn hbl hk =>
   Parts.made hs k [Lib.byteCells a, Lib.byteCells b] 2 hk rfl rfl (by simp [Lib.byteCells_append]) (fun i u xs hu hx => qcS (hra.below hbl) (hrb.below hbl) hu hx) (by simp)
  refine ldN 0 rfl (qf _) ?_
  refine .mk #[.slice aa a.length ac, .slice ba b.length bc] 22 (fun w => bss2 _ _ _ _ _ _ w) (fun bn => ?_)
  refine cvs (fun w' hs => g1 w' _ (hp2 _ _ _ _ hs 1 bn hs.below rfl)) ?_
  intro b7
  refine sN 2 rfl (by rw [List.size_toArray, hDc]; rfl) (QS _) ?_ (by rw [List.size_toArray, hDc]; kernel_rfl)
  refine .mk #[] 5 (fun w => bs0 w) (fun b0 => ?_)
  refine apB 3 (r := some (b0, 0, [])) (n := 0) (pre := []) (l := a) rfl (zM b0) (fun w' hs => hra.below hs.below) (by omega) (fun r1 hr1 => ?_)
  refine apB 3 (r := r1) (l := b) rfl hr1 (fun w' hs => hrb.below hs.below) (by omega) (fun r2 hr2 => ?_)
  rw [List.nil_append, Nat.zero_add] at hr2 ⊢
  obtain ⟨sa, sc, hsv⟩ := qcB hr2
  rw [hsv]
  have hr3 : ∀ (M : Bks) (B w' : World) (L : List Ent) (hs : St M B w' L) (k bm : Nat), L[k]? = some (cl bm #[.slice sa (a.length + b.length) sc] 22) → L[3]? = some (se r2 (Lib.byteCells (a ++ b)) 5) → Parts w' (.slice (some ⟨bm, 0, none⟩) 1 1) (a ++ b) := fun M B w' L hs k bm hk h3 =>
   Parts.made hs k [Lib.byteCells (a ++ b)] 1 hk rfl rfl (by simp) (fun i u xs hu hx => qbV (by rw [← hsv]; exact Rd.own hs 3 h3 hr2) hu hx) (by simp)
  refine drs [cl b3 (k32 n) 24, dead, cl b7 (Lib.byteCells D).toArray 74] [] (.t 0 (.t 1 (.t 2 (.n 3 (.n 4 (.n 5 (.t 6 (.t 7 (.t 8 (.t 9 (.t 10 (.t 11 (.n 12 (.n 13 (.t 14 (.t 15 (.t 16 (.t 17 (.t 18 (.t 19 (.n 20 (.n 21 (.t 22 (.t 23 .nil)))))))))))))))))))))))) qi qq (by kernel_rfl) (.cons (.dead (.cons .nil))) ?_
  refine ldN 2 rfl (by rw [List.size_toArray, hDc]) ?_
  refine ldN 0 rfl (qf _) ?_
  refine .mk #[.slice sa (a.length + b.length) sc] 22 (fun w => Zw _ _ _ w) (fun bm => ?_)
  refine ⟨.cons (.dead (.cons .nil)), ?_⟩
  refine cvs (fun w' hs => g1 w' _ (hr3 _ _ _ _ hs 4 bm rfl rfl)) ?_
  refine ⟨.cons (.dead (.cons .nil)), ?_⟩
  refine eq_wide (D := D) (E := D) rfl hD hD ?_
  rw [decide_eq_true (rfl : D = D)]
  refine ⟨.cons (.dead (.cons .nil)), ?_⟩
  refine ct rfl ?_
  refine ldN 0 rfl (qf _) ?_
  refine ct rfl ?_
  refine cz (fun w => h2 w) ?_
  refine ct rfl ?_
  refine ldN 2 rfl (by rw [List.size_toArray, hDc]) ?_
  refine ct rfl ?_
  refine ct rfl ?_
  refine ct rfl ?_
  refine .mk #[.slice aa a.length ac, .slice ba b.length bc] 22 (fun w => bss2 _ _ _ _ _ _ w) (fun bp => ?_)
  refine ⟨.cons (.dead (.cons .nil)), ?_⟩
  refine ct rfl ?_
  refine cvs (fun w' hs => g3 w' _ (hp2 _ _ _ _ hs 5 bp hs.below rfl)) ?_
  refine ⟨.cons (.dead (.cons .nil)), ?_⟩
  refine ct rfl ?_
  refine ct rfl ?_
  refine ldN 0 rfl (qf _) ?_
  refine ct rfl ?_
  refine cz (fun w => h2 w) ?_
  refine ct rfl ?_
  refine ldN 2 rfl (by rw [List.size_toArray, hDc]) ?_
  refine ct rfl ?_
  refine ct rfl ?_
  refine .mk #[.slice sa (a.length + b.length) sc] 22 (fun w => Zw _ _ _ w) (fun bq => ?_)
  refine ⟨.cons (.dead (.cons .nil)), ?_⟩
  refine ct rfl ?_
  refine cvs (fun w' hs => g3 w' _ (hr3 _ _ _ _ hs 6 bq rfl rfl)) ?_
  refine ⟨.cons (.dead (.cons .nil)), ?_⟩
  refine ct rfl ?_
  exact rt rfl
theorem ZV (n : Nat) : Ql n < 115792089237316195423570985008687907853269984665640564039457584007913129639936 := by unfold Ql; exact qaP _
theorem law_signBack (n : Nat) (va vb : Value) (a b : List UInt8) (w : World) (hra : Rd w va (Lib.byteCells a)) (hrb : Rd w vb (Lib.byteCells b)) : Calls Try.prog 20 ([.agg (k32 n), va, vb] : List Value).toArray w fun e w' => e = .returned (.bool true) ∧ Below w.heap.size w w' :=
 back_core n (Ql n) va vb a b (zK n (a ++ b)) (zx n _) w hra hrb (fun h w v hp => qbm n v _ w hp (by omega)) (fun w => Zk n w)
  (fun h w v hp => by have := zC (Ql n) (ZV n) (zK n (a ++ b)) (zx n _) v (a ++ b) w hp (by omega); rwa [qbS] at this)
end
end Go.Proofs.Ytjiagjonlcadiaa
