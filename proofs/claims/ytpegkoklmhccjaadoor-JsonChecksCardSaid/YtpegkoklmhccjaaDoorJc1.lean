/- For every value the law JsonChecks returns true, and the value reads as it did; no condition. -/
import Derived.Test.YtpegkoklmhccjaaDoorRows
import Derived.WalkKit
import Derived.ProofKit
import Derived.OpenShut
import Derived.ShutString
import Derived.ChangeOld
import Derived.Below
import Derived.Lib.UnsafeStr
import Derived.Test.YtpegkoklmhccjaaDoorTie
import Derived.Test.YtpegkoklmhccjaaDoorCards
import Derived.LaidMore
import Derived.Lay
import Derived.SevenTiedAt
import Derived.Stop.Joined
import Derived.Deep.Slices
import Derived.Test.YtpegkoklmhccjaaDoorJb5
section
namespace Go.Proofs.YtpegkoklmhccjaaDoor
open Go.ChangeShapes Go.WideShapes Go.ChangeAt Go.RowKit Go.Sx

theorem own : ownKnob Tryd.prog.godebug = none := by kernel_rfl
theorem laidOut : laidOutB Tryd.prog = true := by kernel_rfl
theorem cellsU8 : Tryd.prog.cellsOf 5 = 1 := by kernel_rfl
/-- some bytes by the numbers of their cells -/
theorem bytes_of (f : Nat → Int) (n : Nat) (h : ∀ i, i < n → 0 ≤ f i ∧ f i < 256) : ∃ bs : List UInt8, bs.length = n ∧ ∀ i, i < n → (Lib.byteCells bs)[i]? = some (.int .u8 (f i)) := by
  refine ⟨(List.range n).map fun i => UInt8.ofNat (f i).toNat, by simp, fun i hi => ?_⟩
  have := h i hi
  simp [Lib.byteCells, hi]
  omega
set_option maxRecDepth 100000 in
theorem open_rd {H : Type} {enc : TypeId × Value → H} {w : World} {base : Nat} {spare : Nat → Bool} {held : Bool} {r : Reach} {b0 : Nat} {v : Value} {d : DataW H} {p : List MemPlace}
    (hv : Value.okWide Tryd.prog w r b0 38 v) (h : DataW.Trod enc Tryd.prog w base spare held 38 v d p) : ∃ a bs c, v = .slice a bs.length c ∧ bs.length ≤ c ∧ c ≤ maxLen ∧ (∀ x, a = some x → x.spot = none) ∧ Rd w v (Lib.byteCells bs) := by
  obtain ⟨a0, len, cap, rfl⟩ := okWide_slice Tryd.underlying38 hv
  obtain ⟨fuel, hf⟩ := h
  rcases open_ints Tryd.underlying38 Tryd.underlying5 cellsU8 hf with ⟨hcs, hx⟩ | ⟨a, len', cap', zs, hcs, _, hl, hm, hz, hx, hcell, hwz⟩
  · have e : Value.slice a0 len cap = .slice none 0 0 := by simpa [Value.cells] using hcs
    injection e with e1 e2 e3
    subst e1 e2 e3
    exact ⟨none, [], 0, rfl, Nat.le_refl _, Nat.zero_le _, by simp, none, 0, rfl, fun h => absurd rfl h⟩
  · have e : Value.slice a0 len cap = .slice (some a) len' cap' := by simpa [Value.cells] using hcs
    injection e with e1 e2 e3
    subst e1 e2 e3
    have hlz : len ≤ zs.length := by rw [hz]; split <;> omega
    obtain ⟨bs, hbs, hd⟩ := bytes_of (fun i => zs.getD i 0) len (fun i hi => by
      have hmem : zs.getD i 0 ∈ zs := by
        have : zs.getD i 0 = zs[i]'(by omega) := by simp [List.getD, show i < zs.length by omega]
        rw [this]; exact List.getElem_mem _
      have := bounds_u8 (hwz _ hmem)
      omega)
    have hsp : a.spot = none := by
      have h := hv
      simp only [Value.okWide, Tryd.underlying38, Cell.okWide, Cell.ok, World.has] at h
      exact h.2.2.2.1
    refine ⟨some a, bs, cap, by rw [hbs], by omega, hm, by rintro x hx; obtain rfl := Option.some.inj hx; exact hsp, some a, cap, by rw [Lib.byteCells_length, hbs], fun hne => ?_⟩
    obtain ⟨b, o, sp⟩ := a
    obtain rfl : sp = none := hsp
    have hpos : 0 < len := by
      rcases Nat.eq_zero_or_pos len with h0 | h0
      · rw [h0] at hbs; rw [List.eq_nil_of_length_eq_zero hbs] at hne; exact absurd rfl hne
      · exact h0
    refine ⟨b, o, rfl, ?_, fun j u hu => ?_⟩
    · have := hcell 0 (by omega); exact World.block_lt_of_cell? w _ this
    · have hj : j < len := by have := (List.getElem?_eq_some_iff.1 hu).1; rw [Lib.byteCells_length] at this; omega
      rw [hd j hj] at hu
      rw [← addr_add, hcell j (by omega)]; exact hu
end Go.Proofs.YtpegkoklmhccjaaDoor
end
section
namespace Go.Proofs.YtpegkoklmhccjaaDoor
open Go.ChangeShapes Go.WideShapes Go.ChangeAt Go.RowKit Go.Sx

set_option maxRecDepth 100000 in
theorem open_str {w : World} {r : Reach} {b0 : Nat} {v : Value} (hv : Value.okWide Tryd.prog w r b0 9 v) : ∃ s : List UInt8, v = .string ⟨s.toArray⟩ ∧ s.length ≤ maxLen := by
  obtain ⟨s, rfl⟩ := okWide_string Tryd.underlying9 hv
  refine ⟨s.data.toList, by simp, ?_⟩
  simp only [Value.okWide, Tryd.underlying9, Cell.okWide, Cell.ok] at hv
  have : s.size ≤ maxLen := by simp at hv; unfold maxLen; omega
  exact this
end Go.Proofs.YtpegkoklmhccjaaDoor
end
section
namespace Go.Proofs.YtpegkoklmhccjaaDoor
open Go.ChangeShapes Go.WideShapes Go.ChangeAt Go.RowKit Go.Sx
set_option linter.unusedVariables false

abbrev TVal : Nat := 25
abbrev TVals : Nat := 22
abbrev TPair : Nat := 36
abbrev TPairs : Nat := 23
theorem cellsVal : Tryd.prog.cellsOf TVal = 5 := by kernel_rfl
theorem cellsPair : Tryd.prog.cellsOf TPair = 6 := by kernel_rfl
theorem cellsI : Tryd.prog.cellsOf 3 = 1 := by kernel_rfl
theorem cellsS : Tryd.prog.cellsOf 9 = 1 := by kernel_rfl
theorem cellsVs : Tryd.prog.cellsOf TVals = 1 := by kernel_rfl
theorem cellsPs : Tryd.prog.cellsOf TPairs = 1 := by kernel_rfl
theorem cellsAR : Tryd.prog.cellsOf 87 = 2 := by kernel_rfl
theorem fst_tab : (List.range 256).all (fun i => Go.Pinned.utf8FirstZ.getD i 0 == fstN i) = true := by kernel_rfl
theorem fst_len : Go.Pinned.utf8FirstZ.length = 256 := by kernel_rfl
def arL : List (DataW Unit) := [.agg [.lit (.int .u8 128), .lit (.int .u8 191)], .agg [.lit (.int .u8 160), .lit (.int .u8 191)], .agg [.lit (.int .u8 128), .lit (.int .u8 159)], .agg [.lit (.int .u8 144), .lit (.int .u8 191)], .agg [.lit (.int .u8 128), .lit (.int .u8 143)]] ++ List.replicate 11 (.agg [.lit (.int .u8 0), .lit (.int .u8 0)])
set_option maxRecDepth 100000 in
/-- the tables lie where the program looks -/
theorem laid_of {W : World} (h : laidMetH Tryd.prog [("unicode/utf8.acceptRanges", Rows.laid_unicode_utf8_acceptRanges), ("unicode/utf8.first", Rows.laid_unicode_utf8_first)] W) : Laid W := by
  rw [MakeChecks.laidMetH_plain _ _ _ (by kernel_rfl)] at h
  obtain ⟨ps, ⟨g1, t1, cs1, f1, p1, q1, hg1, ht1, hv1, hd1, ⟨g2, t2, cs2, f2, p2, q2, hg2, ht2, hv2, hd2, _, _⟩, _⟩, _, _⟩ := h
  obtain rfl := Option.some.inj ((show Tryd.prog.globalNamed "unicode/utf8.acceptRanges" = some 1 by kernel_rfl).symm.trans hg1)
  obtain rfl := Option.some.inj ((show Tryd.prog.globalNamed "unicode/utf8.first" = some 0 by kernel_rfl).symm.trans hg2)
  obtain rfl := Option.some.inj ((show (Tryd.prog.globals[1]?).map (·.type) = some 88 by kernel_rfl).symm.trans ht1)
  obtain rfl := Option.some.inj ((show (Tryd.prog.globals[0]?).map (·.type) = some 85 by kernel_rfl).symm.trans ht2)
  have hf : ∀ i, i < 256 → W.cell? ⟨0, i, none⟩ = some (.int .u8 (fstN i : Nat)) := by
    intro r hr
    obtain ⟨xs, m, _, ex, _, hl, hel⟩ := DataW.trod_array Tryd.underlying85 hd2
    have hE := hel r hr
    rw [cellsU8, Nat.mul_one, List.getElem?_eq_getElem (by omega)] at hE
    obtain ⟨z, e1, e2, _⟩ := DataW.trod_int Tryd.underlying5 hE
    have hlen := fst_len
    have e3 : (xs.map (·.1)) = Go.Pinned.utf8FirstZ.map fun (n : Nat) => .lit (.int .u8 (n : Int)) := (DataW.agg.inj (Prod.mk.inj ex).1).symm
    have e4 : (xs.map (·.1))[r]? = (Go.Pinned.utf8FirstZ.map fun (n : Nat) => (DataW.lit (.int .u8 (n : Int)) : DataW Unit))[r]? := by rw [e3]
    rw [List.getElem?_map, List.getElem?_map, List.getElem?_eq_getElem (by omega : r < xs.length), List.getElem?_eq_getElem (by omega : r < Go.Pinned.utf8FirstZ.length), e2] at e4
    have hz : z = ((fstN r : Nat) : Int) := by
      simp only [Option.map_some, Option.some.injEq, DataW.lit.injEq, Lit.int.injEq, true_and] at e4
      have h2 := List.all_eq_true.1 fst_tab r (List.mem_range.2 hr)
      rw [List.getD, List.getElem?_eq_getElem (by omega : r < Go.Pinned.utf8FirstZ.length)] at h2
      rw [e4]
      exact congrArg Int.ofNat (by simpa using h2)
    rw [World.var?_cell hg2 hv2 r, ← hz]
    have : cs2.toList[r]? = some (.int .u8 z) := by
      have h0 : ((cs2.toList.drop r).take 1)[0]? = some (.int .u8 z) := by rw [e1]; rfl
      simpa using h0
    simpa using this
  have ha : ∀ i, i < 32 → W.cell? ⟨1, i, none⟩ = some (.int .u8 (accN i : Nat)) := by
    intro r hr
    obtain ⟨xs, m, _, ex, _, hl, hel⟩ := DataW.trod_array Tryd.underlying88 hd1
    have hE := hel (r / 2) (by omega)
    rw [cellsAR, List.getElem?_eq_getElem (by omega)] at hE
    obtain ⟨ys, k, _, ey, _, hyl, hfs⟩ := DataW.trod_struct Tryd.underlying87 hE
    have hyl : ys.length = 2 := hyl
    have e3 : (xs.map (·.1)) = arL := (DataW.agg.inj (Prod.mk.inj ex).1).symm
    have e4 : (xs.map (·.1))[r / 2]? = arL[r / 2]? := by rw [e3]
    rw [List.getElem?_map, List.getElem?_eq_getElem (by omega : r / 2 < xs.length), ey] at e4
    have g0 : DataW.trod (fun _ => ()) Tryd.prog W 0 (fun _ => true) false k 5 ((((cs1.toList.drop (r / 2 * 2)).take 2).drop 0).take (Tryd.prog.cellsOf 5)) = ys[0]? := hfs 0 _ rfl
    have g1 : DataW.trod (fun _ => ()) Tryd.prog W 0 (fun _ => true) false k 5 ((((cs1.toList.drop (r / 2 * 2)).take 2).drop 1).take (Tryd.prog.cellsOf 5)) = ys[1]? := hfs 1 _ rfl
    rw [cellsU8, List.getElem?_eq_getElem (by omega)] at g0 g1
    obtain ⟨z0, a1, a2, _⟩ := DataW.trod_int Tryd.underlying5 g0
    obtain ⟨z1, b1, b2, _⟩ := DataW.trod_int Tryd.underlying5 g1
    have hys : ys.map (·.1) = [.lit (.int .u8 z0), .lit (.int .u8 z1)] := by
      match ys, hyl with
      | [y0, y1], _ =>
        simp only [List.getElem_cons_zero, List.getElem_cons_succ] at a2 b2
        rw [a2, b2]; rfl
    rw [hys] at e4
    have c0 : cs1.toList[r / 2 * 2]? = some (.int .u8 z0) := by
      have h0 : ((((cs1.toList.drop (r / 2 * 2)).take 2).drop 0).take 1)[0]? = some (.int .u8 z0) := by rw [a1]; rfl
      simpa using h0
    have c1 : cs1.toList[r / 2 * 2 + 1]? = some (.int .u8 z1) := by
      have h0 : ((((cs1.toList.drop (r / 2 * 2)).take 2).drop 1).take 1)[0]? = some (.int .u8 z1) := by rw [b1]; rfl
      simpa using h0
    have tab : (List.range 32).all (fun i => match (arL[i / 2]? : Option (DataW Unit)) with | some (.agg [.lit (.int .u8 x), .lit (.int .u8 y)]) => (if i % 2 = 0 then x else y) == (accN i : Int) | _ => false) = true := by kernel_rfl
    have t1 := List.all_eq_true.1 tab r (List.mem_range.2 hr)
    rw [← e4] at t1
    simp only [Option.map_some, beq_iff_eq] at t1
    rw [World.var?_cell hg1 hv1 r, ← t1]
    rcases Nat.mod_two_eq_zero_or_one r with h0 | h0
    · rw [if_pos h0]
      have : r = r / 2 * 2 := by omega
      rw [this]; simpa using c0
    · rw [if_neg (by omega)]
      have : r = r / 2 * 2 + 1 := by omega
      rw [this]
      simpa using c1
  exact ⟨World.block_lt_of_cell? W _ (hf 0 (by omega)), World.block_lt_of_cell? W _ (ha 0 (by omega)), hf, ha⟩
theorem CT.cs5' (c : CT) : c.cs.length = 5 := by cases c; rfl
open Classical in
theorem chooseL {α : Type} (a0 : α) {n : Nat} {p : Nat → α → Prop} (h : ∀ i, i < n → ∃ a, p i a) : ∃ f : Nat → α, ∀ i, i < n → p i (f i) :=
  ⟨fun i => if hi : i < n then Classical.choose (h i hi) else a0, fun i hi => by
    show p i (if hi : i < n then Classical.choose (h i hi) else a0)
    rw [dif_pos hi]; exact Classical.choose_spec (h i hi)⟩
/-- its numbers and texts are such «as» the program's can be -/
inductive Fit : CT → Prop
  | mk {k i : Int} {s : Bs} {vl vp : Value} {l : List CT} {p : List (Bs × CT)} (hk : -9223372036854775808 ≤ k ∧ k ≤ 9223372036854775807) (hi : -9223372036854775808 ≤ i ∧ i ≤ 9223372036854775807) (hs : s.length ≤ maxLen) (hl : ∀ c, c ∈ l → Fit c) (hn : ∀ q : Bs × CT, q ∈ p → q.1.length ≤ maxLen) (hp : ∀ q : Bs × CT, q ∈ p → Fit q.2) : Fit (.mk k i s vl vp l p)
section
variable {H : Type} {enc : TypeId × Value → H} {w : World} {base : Nat} {spare : Nat → Bool} {held : Bool}
set_option maxRecDepth 100000 in
/-- a row that came in -/
theorem open_rowat {T TS : TypeId} {z fuel : Nat} {α : Type} (a0 : α) (R : α → List Value → Prop) (ht : Tryd.prog.underlying TS = some (.slice T)) (hc : Tryd.prog.cellsOf T = z) (hz : 0 < z) (hR : ∀ a c, R a c → c.length = z)
    (ih : ∀ n, n < fuel → ∀ cs x, DataW.trod enc Tryd.prog w base spare held n T cs = some x → ∃ a, R a cs) {cs : List Value} {x : DataW H × List MemPlace} (h : DataW.trod enc Tryd.prog w base spare held fuel TS cs = some x) :
    ∃ (v : Value) (l : List α) (C : Nat → List Value), cs = [v] ∧ RowAt w (fun k => k < w.heap.size) z l.length C v ∧ ∀ i a, l[i]? = some a → R a (C i) := by
  rcases DataW.trod_slice ht h with ⟨rfl, _⟩ | ⟨a, len, cap, elems, rest, n, rfl, rfl, _, _, hl, hm, hlen, hel, _, _⟩
  · exact ⟨_, [], fun _ => [], rfl, ⟨Nat.zero_le _, none, 0, rfl, fun h => absurd rfl h⟩, fun i a h => by simp at h⟩
  · have each : ∀ i, i < len → ∃ q : List Value × α, w.cells? base (a.add (i * z)) z = some q.1 ∧ R q.2 q.1 := fun i hi => by
      have hE := hel i hi
      rw [List.getElem?_eq_getElem (by omega), Option.bind_eq_some_iff] at hE
      obtain ⟨c, h1, h2⟩ := hE
      obtain ⟨q, hq⟩ := ih n (by omega) c _ h2
      rw [hc] at h1
      exact ⟨(c, q), h1, hq⟩
    obtain ⟨O, hO⟩ := chooseL ([], a0) each
    refine ⟨_, (List.range len).map fun i => (O i).2, fun i => (O i).1, rfl, ⟨by simp; omega, some a, cap, by simp, fun h0 => ?_⟩, fun i q hq => ?_⟩
    · have h0 : 0 < len := by simp at h0; omega
      have hsp : a.spot = none ∧ a.block < w.heap.size := by
        obtain ⟨_, h2, h3⟩ := World.cells?_some (hO 0 h0).1
        have hcell := (h3 0 hz).trans (List.getElem?_eq_getElem (by rw [h2]; omega))
        exact ⟨by have := World.cell?_spot hcell; simpa [Addr.add] using this, by obtain ⟨b, o, sp⟩ := a; have := World.block_lt_of_cell? w _ hcell; simpa [Addr.add] using this⟩
      obtain ⟨b, o, sp⟩ := a
      obtain ⟨rfl, hb⟩ := hsp
      refine ⟨b, o, rfl, hb, fun i hi => ?_⟩
      have hi : i < len := by simpa using hi
      obtain ⟨h1, h2⟩ := hO i hi
      refine ⟨hR _ _ h2, fun y u hu => ?_⟩
      obtain ⟨_, h4, h5⟩ := World.cells?_some h1
      have hy : y < z := by have hz1 : y < (O i).1.length := (List.getElem?_eq_some_iff.1 hu).1; have := hR _ _ h2; omega
      have := (h5 y hy).trans hu
      rw [addr_add, addr_add] at this
      exact this
    · have hi : i < len := by have := (List.getElem?_eq_some_iff.1 hq).1; simpa using this
      have : q = (O i).2 := by simpa [hi] using hq.symm
      rw [this]; exact (hO i hi).2
set_option maxRecDepth 100000 in
theorem open_vf : ∀ (fuel : Nat) (cs : List Value) (x : DataW H × List MemPlace), DataW.trod enc Tryd.prog w base spare held fuel TVal cs = some x → ∃ q : CT × JV, q.1.cs = cs ∧ Rt w (fun k => k < w.heap.size) q.1 q.2 ∧ Fit q.1 := by
  intro fuel
  induction fuel using Nat.strongRecOn with
  | ind fuel ih =>
    intro cs x h
    have hlen0 : cs.length = 5 := by
      obtain ⟨_, _, _, _, hcl, _⟩ := DataW.trod_struct Tryd.underlying25 h
      rw [hcl]; exact cellsVal
    obtain ⟨xs, k, rfl, _, _, hxl, hfs⟩ := DataW.trod_struct Tryd.underlying25 h
    match xs, hxl, cs, hlen0 with
    | [y0, y1, y2, y3, y4], _, [v0, v1, v2, v3, v4], _ =>
      have g0 : DataW.trod enc Tryd.prog w base spare held k 3 (([v0, v1, v2, v3, v4].drop 0).take (Tryd.prog.cellsOf 3)) = some y0 := hfs 0 _ rfl
      have g1 : DataW.trod enc Tryd.prog w base spare held k 3 (([v0, v1, v2, v3, v4].drop 1).take (Tryd.prog.cellsOf 3)) = some y1 := hfs 1 _ rfl
      have g2 : DataW.trod enc Tryd.prog w base spare held k 9 (([v0, v1, v2, v3, v4].drop 2).take (Tryd.prog.cellsOf 9)) = some y2 := hfs 2 _ rfl
      have g3 : DataW.trod enc Tryd.prog w base spare held k TVals (([v0, v1, v2, v3, v4].drop 3).take (Tryd.prog.cellsOf TVals)) = some y3 := hfs 3 _ rfl
      have g4 : DataW.trod enc Tryd.prog w base spare held k TPairs (([v0, v1, v2, v3, v4].drop 4).take (Tryd.prog.cellsOf TPairs)) = some y4 := hfs 4 _ rfl
      rw [cellsI] at g0 g1
      rw [cellsS] at g2
      rw [cellsVs] at g3
      rw [cellsPs] at g4
      obtain ⟨n0, e0, _, w0⟩ := DataW.trod_int Tryd.underlying3 g0
      obtain ⟨n1, e1, _, w1⟩ := DataW.trod_int Tryd.underlying3 g1
      obtain ⟨s2, e2, _, w2⟩ := DataW.trod_string Tryd.underlying9 g2
      obtain ⟨v3', L, C, e3, hr3, hk3⟩ := open_rowat (z := 5) ((.mk 0 0 [] (.bool false) (.bool false) [] [], .mk 0 0 [] [] []) : CT × JV) (fun (q : CT × JV) cs => q.1.cs = cs ∧ Rt w (fun k => k < w.heap.size) q.1 q.2 ∧ Fit q.1) Tryd.underlying22 cellsVal (by decide) (fun q c h => by rw [← h.1]; exact CT.cs5' _) (fun n hn cs x h => ih n (by omega) cs x h) g3
      obtain ⟨v4', M, D, e4, hr4, hk4⟩ := open_rowat (z := 6) (([], .mk 0 0 [] (.bool false) (.bool false) [] [], .mk 0 0 [] [] []) : Bs × CT × JV) (fun (q : Bs × CT × JV) cs => sj q.1 :: q.2.1.cs = cs ∧ Rt w (fun k => k < w.heap.size) q.2.1 q.2.2 ∧ Fit q.2.1 ∧ q.1.length ≤ maxLen) Tryd.underlying23 cellsPair (by decide) (fun q c h => by rw [← h.1, List.length_cons, CT.cs5']) (fun n hn cs x h => by
        have hlen1 : cs.length = 6 := by
          obtain ⟨_, _, _, _, hcl, _⟩ := DataW.trod_struct Tryd.underlying36 h
          rw [hcl]; exact cellsPair
        obtain ⟨xs, k', rfl, _, _, hxl, hfs⟩ := DataW.trod_struct Tryd.underlying36 h
        match xs, hxl with
        | [y0, y1], _ =>
          have g0 : DataW.trod enc Tryd.prog w base spare held k' 9 ((cs.drop 0).take (Tryd.prog.cellsOf 9)) = some y0 := hfs 0 _ rfl
          have g1 : DataW.trod enc Tryd.prog w base spare held k' TVal ((cs.drop 1).take (Tryd.prog.cellsOf TVal)) = some y1 := hfs 1 _ rfl
          rw [cellsS] at g0
          rw [cellsVal] at g1
          obtain ⟨s, e, _, ws⟩ := DataW.trod_string Tryd.underlying9 g0
          obtain ⟨q, hq1, hq2, hq3⟩ := ih k' (by omega) _ _ g1
          refine ⟨(s.data.toList, q.1, q.2), ?_, hq2, hq3, by simpa using ws⟩
          match cs, hlen1 with
          | [c0, c1, c2, c3, c4, c5], _ =>
            rw [hq1]
            simp at e ⊢
            rw [e]) g4
      simp at e0 e1 e2 e3 e4
      subst e0 e1 e2 e3 e4
      refine ⟨(.mk n0 n1 s2.data.toList v3 v4 (L.map (·.1)) (M.map fun q => (q.1, q.2.1)), .mk n0 n1 s2.data.toList (L.map (·.2)) (M.map fun q => (q.1, q.2.2))), by simp [CT.cs, vcl], .mk (by simp) (by simp) (by
          rw [List.length_map]
          exact hr3.ext fun i hi => by
            have h1 : L[i]? = some L[i] := List.getElem?_eq_getElem hi
            unfold CT.nth
            rw [List.getElem?_map, h1]
            exact (hk3 i _ h1).1) (by
          rw [List.length_map]
          exact hr4.ext fun i hi => by
            have h1 : M[i]? = some M[i] := List.getElem?_eq_getElem hi
            unfold CT.pth
            rw [List.getElem?_map, h1]
            exact (hk4 i _ h1).1) (fun n c j h1 h2 => ?_) (fun n c j h1 h2 => ?_) (fun n c j h1 h2 => ?_), .mk (bounds_i64 w0) (bounds_i64 w1) (by simpa using w2) (fun c hc => ?_) (fun q hq => ?_) (fun q hq => ?_)⟩
      · rw [List.getElem?_map, Option.map_eq_some_iff] at h1 h2
        obtain ⟨q, hq, rfl⟩ := h1
        obtain ⟨q', hq', rfl⟩ := h2
        obtain rfl := Option.some.inj (hq.symm.trans hq')
        exact (hk3 n q hq).2.1
      · rw [List.getElem?_map, Option.map_eq_some_iff] at h1 h2
        obtain ⟨q, hq, rfl⟩ := h1
        obtain ⟨q', hq', rfl⟩ := h2
        obtain rfl := Option.some.inj (hq.symm.trans hq')
        rfl
      · rw [List.getElem?_map, Option.map_eq_some_iff] at h1 h2
        obtain ⟨q, hq, rfl⟩ := h1
        obtain ⟨q', hq', rfl⟩ := h2
        obtain rfl := Option.some.inj (hq.symm.trans hq')
        exact (hk4 n q hq).2.1
      · obtain ⟨q, hq, rfl⟩ := List.mem_map.1 hc
        obtain ⟨n, hn, he⟩ := List.mem_iff_getElem.1 hq
        exact (hk3 n q (by rw [List.getElem?_eq_getElem hn, he])).2.2
      · obtain ⟨q', hq', rfl⟩ := List.mem_map.1 hq
        obtain ⟨n, hn, he⟩ := List.mem_iff_getElem.1 hq'
        exact (hk4 n q' (by rw [List.getElem?_eq_getElem hn, he])).2.2.2
      · obtain ⟨q', hq', rfl⟩ := List.mem_map.1 hq
        obtain ⟨n, hn, he⟩ := List.mem_iff_getElem.1 hq'
        exact (hk4 n q' (by rw [List.getElem?_eq_getElem hn, he])).2.2.1
set_option maxRecDepth 100000 in
theorem open_val {r : Reach} {b0 : Nat} {v : Value} {d : DataW H} {p : List MemPlace} (hv : Value.okWide Tryd.prog w r b0 TVal v) (h : DataW.Trod enc Tryd.prog w base spare held TVal v d p) : ∃ c j, v = .agg c.cs.toArray ∧ HeldT w (fun k => k < w.heap.size) c j ∧ Fit c := by
  have hv2 : ∃ cs, v = .agg cs := by
    simp only [Value.okWide, Tryd.underlying25] at hv
    obtain ⟨cs, h1, _⟩ := hv
    exact ⟨cs, h1⟩
  obtain ⟨cs, rfl⟩ := hv2
  obtain ⟨fuel, hf⟩ := h
  obtain ⟨q, h1, h2, h3⟩ := open_vf fuel _ _ hf
  exact ⟨q.1, q.2, by rw [h1]; simp [Value.cells], ⟨fun k hk => hk, h2⟩, h3⟩
end
end Go.Proofs.YtpegkoklmhccjaaDoor
end
