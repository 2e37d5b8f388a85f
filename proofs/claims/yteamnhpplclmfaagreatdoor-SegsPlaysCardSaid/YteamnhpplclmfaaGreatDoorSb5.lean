/- A store of records, its disk and its records, walked and in plain words; the fixed fact. -/
import Derived.Test.YteamnhpplclmfaaGreatDoorRows
import Derived.WalkKit
import Derived.ProofKit
import Derived.OpenShut
import Derived.ShutString
import Derived.ChangeOld
import Derived.Below
import Derived.Lib.UnsafeStr
import Derived.Test.YteamnhpplclmfaaGreatDoorTie
import Derived.Test.YteamnhpplclmfaaGreatDoorCards
import Derived.LaidMore
import Derived.Lay
import Derived.SevenTiedAt
import Derived.Stop.Joined
import Derived.Test.YteamnhpplclmfaaGreatDoorSb4
section
namespace Go.Proofs.YteamnhpplclmfaaGreatDoor
open Go.RowKit Go.Sx
set_option linter.unusedVariables false
def z30 : List Value := Lib.byteCells p30
theorem pls3 (v : Value) (p : Bs) (h : ∃ a c, v = .slice a p.length c) : Pls [v, v, v] [p, p, p] := by
  refine ⟨rfl, fun i u q hu hq => ?_⟩
  rcases i with _ | _ | _ | i
  · obtain rfl := Option.some.inj hu; obtain rfl := Option.some.inj hq; exact h
  · obtain rfl := Option.some.inj hu; obtain rfl := Option.some.inj hq; exact h
  · obtain rfl := Option.some.inj hu; obtain rfl := Option.some.inj hq; exact h
  · cases hu
set_option maxRecDepth 100000 in
set_option maxHeartbeats 2000000 in
theorem alive_any (w : World) (hw : Laid w) : Calls Tryz.prog 9 ([] : List Value).toArray w fun e w' => e = .returned (.bool true) ∧ Below w.heap.size w w' := by
  obtain ⟨c0, c1, c2, c3, c4, c5, c6⟩ := al1_ok
  obtain ⟨d0, d1, d2, d3, d4⟩ := al2_ok
  obtain ⟨f0, f1⟩ := al3_ok
  have hmk := fun w => made1 (P := Tryz.prog) w und22 info5 rfl 30 30 (by decide) (by decide) (by decide)
  refine enterV tab_ok Tryz.func9 rfl Tryz.ntmps9 rfl (St.laid hw) ?_
  refine cM (α := Nat × Nat) (Φ := fun _ => True) (v := fun x => .tuple #[ptr x.1, .nilIface]) (r' := fun x => dkR (dk0 1000 x.1 x.2)) (fun w1 hs => (new_any 1000 (by decide) w1).mono fun e w' ⟨x, h1, h2, h3, h4, h5, h6⟩ => ⟨x, h1, h2, h3, h4, h5, fun k hk => (h6 k hk).elim⟩) (fun x _ => ?_)
  refine cf rfl ?_
  have hb0 : Bd 1000 0 (dk0 1000 x.1 x.2).D := Bd.zero 1000
  refine cOpen (K := dk0 1000 x.1 x.2) (size := 64) [] (.swap _ _ _) (by decide) (by decide) rfl hb0 (by decide) (by decide) (fun _ T hS hD hbd hok => ?_) (fun h => absurd c0 h)
  have eS : T.S = al1.S := hS
  have eD : T.k.D = al1.D := hD
  refine ct rfl ?_
  refine ct rfl ?_
  refine cf rfl ?_
  refine cf rfl ?_
  have hBT : Bd 1000 6 T.k.D := by rw [eD]; exact (Bd.zero 1000).open 64
  refine .mk 30 30 _ _ hmk fun bp => ?_
  refine .mk _ _ (bsS3 _ _ _ _ _ _ _ _ _) (fun b3 => ?_)
  refine cTs 0 (x := al2.1) (code := al2.2) rfl (fun w1 hs => ?_) (fun T2 e2 g2 k2 m2 ok2 => ?_)
  · have hrd : Rd w1 (.slice (some ⟨bp, 0, none⟩) 30 30) (Lib.byteCells p30) := Rd.ent hs 1 rfl (by kernel_rfl) (by kernel_rfl)
    have hin : ∀ i e b, i ≠ 0 → ([rs (stR T), cl bp (List.replicate 30 (Value.int .u8 0)).toArray 5, cl b3 #[.slice (some ⟨bp, 0, none⟩) 30 30, .slice (some ⟨bp, 0, none⟩) 30 30, .slice (some ⟨bp, 0, none⟩) 30 30] TB] : List Ent)[i]? = some e → e.A b → oth w [rs (stR T), cl bp (List.replicate 30 (Value.int .u8 0)).toArray 5, cl b3 #[.slice (some ⟨bp, 0, none⟩) 30 30, .slice (some ⟨bp, 0, none⟩) 30 30, .slice (some ⟨bp, 0, none⟩) 30 30] TB] 0 b := fun i e b hi he hA => .inr ⟨i, e, hi, he, hA⟩
    have := appS_any T hok _ (some ⟨b3, 0, none⟩) 3 [.slice (some ⟨bp, 0, none⟩) 30 30, .slice (some ⟨bp, 0, none⟩) 30 30, .slice (some ⟨bp, 0, none⟩) 30 30] [p30, p30, p30] (pls3 _ _ ⟨_, _, rfl⟩) (by show 3 ≤ 100; decide) (fun p hp => by simp only [List.mem_cons, List.not_mem_nil, or_false, or_self] at hp; subst hp; show 30 ≤ maxLen; decide) (by rw [eS, c1]; decide) (by rw [eS, c4]; decide) (by rw [eS, c3]; decide) (q := 1000) (k0 := 6) hBT (by decide) (by decide) w1 (hs.res (k := 0) rfl)
      ⟨rdb_of (Rd.ent hs 2 rfl rfl rfl) (fun b o n c h _ => ?_), fun i v p hv hp => ?_, fun b hb => oth_far hs (k := 0) rfl hb⟩
    · rw [eS, eD] at this
      exact this
    · injection h with h1 _ _
      injection h1 with h1
      injection h1 with h1 _ _
      subst h1
      exact hin 2 _ _ (by decide) rfl (by simp)
    · have hin1 : RdB (oth w [rs (stR T), cl bp (List.replicate 30 (Value.int .u8 0)).toArray 5, cl b3 #[.slice (some ⟨bp, 0, none⟩) 30 30, .slice (some ⟨bp, 0, none⟩) 30 30, .slice (some ⟨bp, 0, none⟩) 30 30] TB] 0) w1 (.slice (some ⟨bp, 0, none⟩) 30 30) (Lib.byteCells p30) := rdb_of hrd fun b o n c h _ => by
        injection h with h1 _ _
        injection h1 with h1
        injection h1 with h1 _ _
        subst h1
        exact hin 1 _ _ (by decide) rfl (by simp)
      rcases i with _ | _ | _ | i
      · obtain rfl := Option.some.inj hv; obtain rfl := Option.some.inj hp; exact hin1
      · obtain rfl := Option.some.inj hv; obtain rfl := Option.some.inj hp; exact hin1
      · obtain rfl := Option.some.inj hv; obtain rfl := Option.some.inj hp; exact hin1
      · cases hv
  have hB2 : Bd 1000 21 T2.k.D := by rw [g2]; exact Bd.appS (x := ⟨al1.S, al1.D⟩) (eD ▸ hBT) [p30, p30, p30]
  rw [d0, ← k2]
  refine ct rfl ?_
  refine ct rfl ?_
  refine cvs (fun w1 hs => last_any (stR_cl (hs.res (k := 0) rfl))) ?_
  rw [show T2.S.last = 3 by rw [e2]; exact d1]
  iterate 4 refine ct rfl ?_
  obtain ⟨qa, qc, hq⟩ := sv_sl ok2.row
  refine cvs (fun w1 hs => by have := stR_cl (hs.res (k := 0) rfl); rw [hq] at this; exact len_any this) ?_
  rw [show T2.S.pl.length = 3 by rw [e2]; exact d2]
  iterate 4 refine ct rfl ?_
  refine cvs (fun w1 hs => sureS_any (stR_cl (hs.res (k := 0) rfl))) ?_
  rw [show T2.S.sure = 0 by rw [e2]; exact d3]
  iterate 4 refine ct rfl ?_
  refine cTs 0 (x := al3.1) (code := al3.2) rfl (fun w1 hs => ?_) (fun T3 e3 g3 k3 m3 ok3 => ?_)
  · have := syncS_any T2 ok2 (by rw [e2, d1]; decide) hB2 (by decide) w1 (hs.res (k := 0) rfl)
    rw [e2, g2] at this
    exact this
  rw [f0, ← k3]
  iterate 4 refine ct rfl ?_
  refine cvs (fun w1 hs => sureS_any (stR_cl (hs.res (k := 0) rfl))) ?_
  rw [show T3.S.sure = 3 by rw [e3]; exact f1]
  refine ct rfl ?_
  refine ct rfl ?_
  exact rt rfl
end Go.Proofs.YteamnhpplclmfaaGreatDoor
end
section
namespace Go.Proofs.YteamnhpplclmfaaGreatDoor
open Go.ChangeShapes Go.WideShapes Go.ChangeAt Go.RowKit Go.Sx

theorem own : ownKnob Tryz.prog.godebug = none := by kernel_rfl
theorem laidOut : laidOutB Tryz.prog = true := by kernel_rfl
theorem cellsU8 : Tryz.prog.cellsOf 5 = 1 := by kernel_rfl
/-- some bytes by the numbers of their cells -/
theorem bytes_of (f : Nat → Int) (n : Nat) (h : ∀ i, i < n → 0 ≤ f i ∧ f i < 256) : ∃ bs : List UInt8, bs.length = n ∧ ∀ i, i < n → (Lib.byteCells bs)[i]? = some (.int .u8 (f i)) := by
  refine ⟨(List.range n).map fun i => UInt8.ofNat (f i).toNat, by simp, fun i hi => ?_⟩
  have := h i hi
  simp [Lib.byteCells, hi]
  omega
set_option maxRecDepth 100000 in
theorem open_rd {H : Type} {enc : TypeId × Value → H} {w : World} {base : Nat} {spare : Nat → Bool} {held : Bool} {r : Reach} {b0 : Nat} {v : Value} {d : DataW H} {p : List MemPlace}
    (hv : Value.okWide Tryz.prog w r b0 22 v) (h : DataW.Trod enc Tryz.prog w base spare held 22 v d p) : ∃ a bs c, v = .slice a bs.length c ∧ bs.length ≤ c ∧ c ≤ maxLen ∧ (∀ x, a = some x → x.spot = none) ∧ Rd w v (Lib.byteCells bs) := by
  obtain ⟨a0, len, cap, rfl⟩ := okWide_slice Tryz.underlying22 hv
  obtain ⟨fuel, hf⟩ := h
  rcases open_ints Tryz.underlying22 Tryz.underlying5 cellsU8 hf with ⟨hcs, hx⟩ | ⟨a, len', cap', zs, hcs, _, hl, hm, hz, hx, hcell, hwz⟩
  · have e : Value.slice a0 len cap = .slice none 0 0 := by simpa [Value.cells] using hcs
    injection e with e1 e2 e3
    subst e1 e2 e3
    exact ⟨none, [], 0, rfl, Nat.le_refl _, Nat.zero_le _, by simp, none, 0, rfl, fun h => absurd rfl h⟩
  · have e : Value.slice a0 len cap = .slice (some a) len' cap' := by simpa [Value.cells] using hcs
    injection e with e1 e2 e3
    subst e1 e2 e3
    have hlz : len ≤ zs.length := by rw [hz]; split <;> omega
    obtain ⟨bs, hbs, hd⟩ := bytes_of (fun i => zs.getD i 0) len (fun i hi => by
      have hmem : zs.getD i 0 ∈ zs := by
        have : zs.getD i 0 = zs[i]'(by omega) := by simp [List.getD, show i < zs.length by omega]
        rw [this]; exact List.getElem_mem _
      have := bounds_u8 (hwz _ hmem)
      omega)
    have hsp : a.spot = none := by
      have h := hv
      simp only [Value.okWide, Tryz.underlying22, Cell.okWide, Cell.ok, World.has] at h
      exact h.2.2.2.1
    refine ⟨some a, bs, cap, by rw [hbs], by omega, hm, by rintro x hx; obtain rfl := Option.some.inj hx; exact hsp, some a, cap, by rw [Lib.byteCells_length, hbs], fun hne => ?_⟩
    obtain ⟨b, o, sp⟩ := a
    obtain rfl : sp = none := hsp
    have hpos : 0 < len := by
      rcases Nat.eq_zero_or_pos len with h0 | h0
      · rw [h0] at hbs; rw [List.eq_nil_of_length_eq_zero hbs] at hne; exact absurd rfl hne
      · exact h0
    refine ⟨b, o, rfl, ?_, fun j u hu => ?_⟩
    · have := hcell 0 (by omega); exact World.block_lt_of_cell? w _ this
    · have hj : j < len := by have := (List.getElem?_eq_some_iff.1 hu).1; rw [Lib.byteCells_length] at this; omega
      rw [hd j hj] at hu
      rw [← addr_add, hcell j (by omega)]; exact hu
end Go.Proofs.YteamnhpplclmfaaGreatDoor
end
section
namespace Go.Proofs.YteamnhpplclmfaaGreatDoor
open Go.ChangeShapes Go.WideShapes Go.ChangeAt Go.RowKit Go.Sx

set_option maxRecDepth 100000 in
theorem open_str {w : World} {r : Reach} {b0 : Nat} {v : Value} (hv : Value.okWide Tryz.prog w r b0 9 v) : ∃ s : List UInt8, v = .string ⟨s.toArray⟩ ∧ s.length ≤ maxLen := by
  obtain ⟨s, rfl⟩ := okWide_string Tryz.underlying9 hv
  refine ⟨s.data.toList, by simp, ?_⟩
  simp only [Value.okWide, Tryz.underlying9, Cell.okWide, Cell.ok] at hv
  have : s.size ≤ maxLen := by simp at hv; unfold maxLen; omega
  exact this
end Go.Proofs.YteamnhpplclmfaaGreatDoor
end
