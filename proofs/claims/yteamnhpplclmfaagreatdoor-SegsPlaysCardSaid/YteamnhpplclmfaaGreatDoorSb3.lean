/- A store of records, its disk and its records, walked and in plain words; the fixed fact. -/
import Derived.Shelf.SlIter.Nil
import Derived.Shelf.SortM.Plain
import Derived.Shelf.SortM.SortNone
import Derived.Ground.GgzProg
import Derived.Ground.SlgmProg
import Derived.Test.YteamnhpplclmfaaGreatDoorProg
import Derived.StringKeys
import Derived.Test.YteamnhpplclmfaaGreatDoorSb2
section
namespace Go.Proofs.YteamnhpplclmfaaGreatDoor
open Go.RowKit Go.Sx
set_option linter.unusedVariables false
theorem _root_.Go.Sx.Rd.take {w : World} {a : Option Addr} {n c k : Nat} {l : List UInt8} (h : Rd w (.slice a n c) (Lib.byteCells l)) (hn : n = l.length) (hk : k ≤ n) (c' : Nat) : Rd w (.slice a k c') (Lib.byteCells (l.take k)) := by
  obtain ⟨a', c1, e, hc⟩ := h
  injection e with e1 e2 e3
  subst e1
  refine ⟨a, c', by rw [Lib.byteCells_length, List.length_take]; congr 1; omega, fun hne => ?_⟩
  obtain ⟨b, o, h1, h2, h3⟩ := hc (fun e => hne (by
    have : l = [] := by cases l with | nil => rfl | cons x l => simp [Lib.byteCells] at e
    rw [this]; simp [Lib.byteCells]))
  refine ⟨b, o, h1, h2, fun j u hu => h3 j u ?_⟩
  have e2 : Lib.byteCells (l.take k) = (Lib.byteCells l).take k := by simp [Lib.byteCells, List.map_take]
  rw [e2, List.getElem?_take] at hu
  split at hu
  · exact hu
  · cases hu
theorem _root_.Go.Sx.Rd.at {w : World} {b o n c i : Nat} {xs : List Value} (h : Rd w (.slice (some ⟨b, o, none⟩) n c) xs) {u : Value} (hu : xs[i]? = some u) {k : Int} (hk : k = i) : w.cell? ⟨b, nad o (nmu k.toNat 1), none⟩ = some u := by
  subst hk
  obtain ⟨a', c1, e, hc⟩ := h
  injection e with e1 e2 e3
  subst e1
  obtain ⟨b', o', h1, h2, h3⟩ := hc (fun e => by rw [e] at hu; cases hu)
  injection h1 with h1
  injection h1 with h4 h5
  subst h4 h5
  rw [nad_eq, nmu_eq, Int.toNat_natCast, Nat.mul_one]; exact h3 i u hu
theorem _root_.Go.Sx.Rd.addr {w : World} {a : Option Addr} {n c : Nat} {xs : List Value} (h : Rd w (.slice a n c) xs) (hne : xs ≠ []) : ∃ b o, a = some ⟨b, o, none⟩ := by
  obtain ⟨a', c1, e, hc⟩ := h
  injection e with e1 e2 e3
  subst e1
  obtain ⟨b, o, h1, _⟩ := hc hne
  exact ⟨b, o, h1⟩
theorem _root_.Go.Sx.Rd.mid {w : World} {b o n c i m : Nat} {l : List UInt8} (h : Rd w (.slice (some ⟨b, o, none⟩) n c) (Lib.byteCells l)) (him : i + m ≤ l.length) (c' : Nat) : Rd w (.slice (some ⟨b, o + i, none⟩) m c') (Lib.byteCells ((l.drop i).take m)) := by
  obtain ⟨a', c1, e, hc⟩ := h
  injection e with e1 e2 e3
  subst e1
  have hlen : ((l.drop i).take m).length = m := by rw [List.length_take, List.length_drop]; omega
  refine ⟨some ⟨b, o + i, none⟩, c', by rw [Lib.byteCells_length, hlen], fun hne => ?_⟩
  obtain ⟨b', o', h1, h2, h3⟩ := hc (fun e => hne (by
    have : l = [] := by cases l with | nil => rfl | cons x l => simp [Lib.byteCells] at e
    rw [this]; simp [Lib.byteCells]))
  injection h1 with h1
  injection h1 with h4 h5
  subst h4 h5
  refine ⟨b, o + i, rfl, h2, fun j u hu => ?_⟩
  rw [Nat.add_assoc]
  refine h3 (i + j) u ?_
  have e2 : Lib.byteCells ((l.drop i).take m) = ((Lib.byteCells l).drop i).take m := by simp [Lib.byteCells, List.map_take, List.map_drop]
  rw [e2, List.getElem?_take] at hu
  split at hu
  · rw [List.getElem?_drop] at hu; exact hu
  · cases hu
/-- s[i:j] -/
theorem slMid {e : Nat} {aa : Option Addr} {n cap i j : Nat} (ha : ∀ a, aa = some a → a.spot = none) (hij : i ≤ j) (hjc : j ≤ cap) {next : Value → Prop} {fb : Prop}
    (go : ∀ a', (∀ x, a' = some x → x.spot = none) → (aa = none → a' = none) → (∀ (w : World) (l : List UInt8), Rd w (.slice aa n cap) (Lib.byteCells l) → j ≤ l.length → Rd w (.slice a' (j - i) (cap - i)) (Lib.byteCells ((l.drop i).take (j - i)))) → next (.slice a' (j - i) (cap - i))) :
    SliP (.sl e 1) (.slice aa n cap) (some (i : Int)) (some (j : Int)) none next fb := by
  have emp : ∀ a' : Option Addr, j - i = 0 → ∀ (w : World) (l : List UInt8), Rd w (.slice a' (j - i) (cap - i)) (Lib.byteCells ((l.drop i).take (j - i))) := fun a' h w l => ⟨a', cap - i, by rw [h]; simp [Lib.byteCells], fun hne => by rw [h] at hne; simp [Lib.byteCells] at hne⟩
  refine ⟨?_⟩
  cases aa with
  | none =>
    refine .mk i j cap rfl rfl rfl hij hjc (Nat.le_refl _) (by simp) ?_
    refine go none (fun _ h => by cases h) (fun _ => rfl) fun w l h hl => ?_
    by_cases h0 : j - i = 0
    · exact emp none h0 w l
    · have hne : Lib.byteCells l ≠ [] := fun e => by have := congrArg List.length e; rw [Lib.byteCells_length] at this; simp at this; subst this; simp at hl; omega
      obtain ⟨b, o, h1⟩ := h.addr hne
      cases h1
  | some a =>
    obtain ⟨b, o, sp⟩ := a
    obtain rfl : sp = none := ha _ rfl
    refine .mk i j cap rfl rfl rfl hij hjc (Nat.le_refl _) (by simp) ?_
    by_cases h0 : cap = i
    · refine .all (by omega) (go _ (fun x h => by obtain rfl := Option.some.inj h; rfl) (fun h => by cases h) fun w l h hl => emp _ (by omega) w l)
    · refine .on (by omega) ?_
      rw [nad_eq, nmu_eq, Nat.mul_one]
      exact go _ (fun x h => by obtain rfl := Option.some.inj h; rfl) (fun h => by cases h) fun w l h hl => h.mid (by omega) _
/-- s[i:] -/
theorem slFrom {e : Nat} {aa : Option Addr} {n cap i : Nat} (ha : ∀ a, aa = some a → a.spot = none) (hin : i ≤ n) (hnc : n ≤ cap) {next : Value → Prop} {fb : Prop}
    (go : ∀ a', (∀ x, a' = some x → x.spot = none) → (aa = none → a' = none) → (∀ (w : World) (l : List UInt8), Rd w (.slice aa n cap) (Lib.byteCells l) → n = l.length → Rd w (.slice a' (n - i) (cap - i)) (Lib.byteCells (l.drop i))) → next (.slice a' (n - i) (cap - i))) :
    SliP (.sl e 1) (.slice aa n cap) (some (i : Int)) none none next fb := by
  have emp : ∀ a' : Option Addr, n - i = 0 → ∀ (w : World) (l : List UInt8), n = l.length → Rd w (.slice a' (n - i) (cap - i)) (Lib.byteCells (l.drop i)) := fun a' h w l hl => by
    have e : l.drop i = [] := List.drop_of_length_le (by omega)
    exact ⟨a', cap - i, by rw [h, e]; rfl, fun hne => by rw [e] at hne; exact absurd rfl hne⟩
  have full : ∀ (l : List UInt8), n = l.length → (l.drop i).take (n - i) = l.drop i := fun l hl => List.take_of_length_le (by rw [List.length_drop]; omega)
  refine ⟨?_⟩
  cases aa with
  | none =>
    refine .mk i n cap rfl rfl rfl hin hnc (Nat.le_refl _) (by simp) ?_
    refine go none (fun _ h => by cases h) (fun _ => rfl) fun w l h hl => ?_
    by_cases h0 : n - i = 0
    · exact emp none h0 w l hl
    · have hne : Lib.byteCells l ≠ [] := fun e => by have := congrArg List.length e; rw [Lib.byteCells_length] at this; simp at this; subst this; simp at hl; omega
      obtain ⟨b, o, h1⟩ := h.addr hne
      cases h1
  | some a =>
    obtain ⟨b, o, sp⟩ := a
    obtain rfl : sp = none := ha _ rfl
    refine .mk i n cap rfl rfl rfl hin hnc (Nat.le_refl _) (by simp) ?_
    by_cases h0 : cap = i
    · refine .all (by omega) (go _ (fun x h => by obtain rfl := Option.some.inj h; rfl) (fun h => by cases h) fun w l h hl => emp _ (by omega) w l hl)
    · refine .on (by omega) ?_
      rw [nad_eq, nmu_eq, Nat.mul_one]
      exact go _ (fun x h => by obtain rfl := Option.some.inj h; rfl) (fun h => by cases h) fun w l h hl => by have := h.mid (i := i) (m := n - i) (by omega) (cap - i); rwa [full l hl] at this
end Go.Proofs.YteamnhpplclmfaaGreatDoor
end
section
namespace Go.Proofs.YteamnhpplclmfaaGreatDoor
open Go.RowKit Go.Sx
set_option linter.unusedVariables false
theorem xor32 (a b : Nat) (ha : a < 4294967296) (hb : b < 4294967296) : bitI .xor .u32 (a : Int) (b : Int) = ((a ^^^ b : Nat) : Int) := by
  have h : a ^^^ b < 2 ^ 32 := Nat.xor_lt_two_pow (by omega) (by omega)
  show IntKind.u32.wrap ((BitVec.ofInt 32 (a : Int) ^^^ BitVec.ofInt 32 (b : Int)).toNat : Int) = _
  simp only [BitVec.ofInt_natCast, BitVec.toNat_xor, BitVec.toNat_ofNat]
  rw [Nat.mod_eq_of_lt (by omega), Nat.mod_eq_of_lt (by omega)]
  rw [IntKind.wrap_u32]; omega
theorem and32 (a b : Nat) (ha : a < 4294967296) (hb : b < 4294967296) : bitI .and .u32 (a : Int) (b : Int) = ((a &&& b : Nat) : Int) := by
  have h : a &&& b ≤ a := Nat.and_le_left
  show IntKind.u32.wrap ((BitVec.ofInt 32 (a : Int) &&& BitVec.ofInt 32 (b : Int)).toNat : Int) = _
  simp only [BitVec.ofInt_natCast, BitVec.toNat_and, BitVec.toNat_ofNat]
  rw [Nat.mod_eq_of_lt (by omega), Nat.mod_eq_of_lt (by omega)]
  rw [IntKind.wrap_u32]; omega
theorem or32 (a b : Nat) (ha : a < 4294967296) (hb : b < 4294967296) : bitI .or .u32 (a : Int) (b : Int) = ((a ||| b : Nat) : Int) := by
  have h : a ||| b < 2 ^ 32 := Nat.or_lt_two_pow (by omega) (by omega)
  show IntKind.u32.wrap ((BitVec.ofInt 32 (a : Int) ||| BitVec.ofInt 32 (b : Int)).toNat : Int) = _
  simp only [BitVec.ofInt_natCast, BitVec.toNat_or, BitVec.toNat_ofNat]
  rw [Nat.mod_eq_of_lt (by omega), Nat.mod_eq_of_lt (by omega)]
  rw [IntKind.wrap_u32]; omega
theorem shN {k : IntKind} {c : Nat} (s m : Nat) (hm : 2 ^ s = m) (hs : s ≤ k.bits) : (c : Int).fdiv (2 ^ (min ((s : Nat) : Int).toNat k.bits)) = ((c / m : Nat) : Int) := by
  rw [Int.toNat_natCast, Nat.min_eq_left hs, Int.fdiv_eq_ediv_of_nonneg _ (Int.le_of_lt (Int.pow_pos (by decide))), ← hm]
  norm_cast
theorem sl32 {a b : Int} (h : a = b) : some (Value.int .u32 a) = some (Value.int .u32 b) := by rw [h]
theorem half_lt {x : Nat} (h : x < 4294967296) : halfN x < 4294967296 := by
  unfold halfN
  split
  · exact Nat.xor_lt_two_pow (n := 32) (by omega) (by decide)
  · omega
theorem tab_lt {i : Nat} (h : i < 4294967296) : tabN i < 4294967296 := half_lt (half_lt (half_lt (half_lt h)))
abbrev TA : Nat := 171
def tabA (i : Nat) : Array Value := ((List.range 16).map fun k => Value.int .u32 (if k < i then (tabN k : Nat) else 0)).toArray
theorem tab_at {i k : Nat} (h : k < i) (h2 : k < 16) : (tabA i)[k]? = some (.int .u32 (tabN k : Nat)) := by
  unfold tabA
  rw [List.getElem?_toArray, List.getElem?_map, List.getElem?_range h2, Option.map_some, if_pos h]
theorem tab_set {i : Nat} (h : i < 16) : (tabA i).setIfInBounds i (.int .u32 (tabN i : Nat)) = tabA (i + 1) := by
  apply Array.ext'
  unfold tabA
  rw [Array.toList_setIfInBounds]
  refine List.ext_getElem? fun k => ?_
  rw [List.getElem?_set]
  by_cases hk : k < 16
  · by_cases he : i = k
    · subst he
      rw [if_pos rfl, if_pos (by simpa using hk), List.getElem?_map, List.getElem?_range hk, Option.map_some, if_pos (by omega)]
    · rw [if_neg he, List.getElem?_map, List.getElem?_map, List.getElem?_range hk, Option.map_some, Option.map_some]
      by_cases h1 : k < i
      · rw [if_pos h1, if_pos (by omega)]
      · rw [if_neg h1, if_neg (by omega)]
  · rw [if_neg (by omega), List.getElem?_eq_none (by simp; omega), List.getElem?_eq_none (by simp; omega)]
def itN (i : Nat) : Nat → Nat
  | 0 => i
  | j + 1 => halfN (itN i j)
theorem it_lt {i : Nat} (h : i < 4294967296) : ∀ j, itN i j < 4294967296
  | 0 => h
  | j + 1 => half_lt (it_lt h j)
set_option maxRecDepth 100000 in
set_option maxHeartbeats 1000000 in
theorem table_any (w : World) : Calls Tryz.prog 135 ([] : List Value).toArray w fun e w' => e = .returned (.agg (tabA 16)) ∧ Below w.heap.size w w' := by
  refine enterV tab_ok Tryz.func135 rfl Tryz.ntmps135 rfl (St.start w) ?_
  intro b0
  refine lp tab_ok (fun i : Nat => i ≤ 16) (fun i => ⟨[(0, ptr b0), (3, .int .i64 i)], [cl b0 (tabA i) TA], []⟩) (fun i => 16 - i) 0 (Nat.zero_le _) ⟨⟨rfl, rfl, trivial⟩, .cons .nil, rfl⟩ ?_
  intro i hi
  refine cd (fun h => ?_) (fun h => ?_)
  · have hlt : i < 16 := by omega
    refine .same (by simp only [mn]; omega) (by simp only [mx]; omega) ?_
    refine lp tab_ok (fun j : Nat => j ≤ 4) (fun j => ⟨[(0, ptr b0), (3, .int .i64 i), (1, .int .i64 i), (2, .int .u32 (itN i j : Nat)), (8, .int .i64 j)], [cl b0 (tabA i) TA], []⟩) (fun j => 4 - j) 0 (Nat.zero_le _) ⟨⟨rfl, rfl, rfl, rfl, rfl, trivial⟩, .cons .nil, rfl⟩ ?_
    intro j hj
    have hx := it_lt (show i < 4294967296 by omega) j
    have ha : bitI .and .u32 ((itN i j : Nat) : Int) 1 = ((itN i j % 2 : Nat) : Int) := by
      rw [show bitI .and .u32 ((itN i j : Nat) : Int) 1 = ((itN i j &&& 1 : Nat) : Int) from and32 _ 1 hx (by decide), Nat.and_one_is_mod]
    have hs1 : ((itN i j : Nat) : Int).fdiv (2 ^ (min (1 : Int).toNat IntKind.u32.bits)) = ((itN i j / 2 : Nat) : Int) := shN (k := .u32) 1 2 rfl (by decide)
    refine cd (fun h => ?_) (fun h => ?_)
    · by_cases h1 : itN i j % 2 = 1
      · refine ct (by rw [ha, h1]; rfl) ?_
        refine ⟨by decide, ?_⟩
        refine .as ((j + 1 : Nat) : Int) (by simp) (by simp only [mn]; omega) (by simp only [mx]; omega) ?_
        exact ⟨j + 1, by omega, by omega, ⟨⟨rfl, rfl, rfl, sl32 (by rw [hs1]; exact (xor32 _ 3988292384 (by omega) (by decide)).trans (by rw [show itN i (j + 1) = itN i j / 2 ^^^ 3988292384 from if_pos h1])), rfl, trivial⟩, .cons .nil, rfl⟩⟩
      · refine cf (by rw [ha, beq_eq_false_iff_ne]; omega) ?_
        refine ⟨by decide, ?_⟩
        refine .as ((j + 1 : Nat) : Int) (by simp) (by simp only [mn]; omega) (by simp only [mx]; omega) ?_
        exact ⟨j + 1, by omega, by omega, ⟨⟨rfl, rfl, rfl, sl32 (by rw [hs1, show itN i (j + 1) = itN i j / 2 from if_neg h1]), rfl, trivial⟩, .cons .nil, rfl⟩⟩
    · obtain rfl : j = 4 := by omega
      refine ⟨by omega, by omega, ?_⟩
      have eo : nad 0 (nmu ((i : Nat) : Int).toNat 1) = i := by rw [nad_eq, nmu_eq]; simp
      refine s1 0 rfl (by rw [eo]; show i < 16; omega) ?_
      refine .as ((i + 1 : Nat) : Int) (by simp) (by simp only [mn]; omega) (by simp only [mx]; omega) ?_
      exact ⟨i + 1, by omega, by omega, ⟨⟨rfl, rfl, trivial⟩, by rw [eo, show itN i 4 = tabN i from rfl, tab_set hlt]; exact .cons .nil, rfl⟩⟩
  · obtain rfl : i = 16 := by omega
    refine ldN 0 rfl rfl ?_
    refine sN 0 rfl rfl (by simp [tabA, Value.oneCell']) ?_ (by kernel_rfl)
    refine ldN 0 rfl rfl ?_
    exact rt rfl
theorem byte_lt {x : Nat} {c : UInt8} (h : x < 4294967296) : byteN2 x c < 4294967296 := by
  unfold byteN2
  dsimp only
  exact Nat.xor_lt_two_pow (n := 32) (by have : (x / 16 ^^^ tabN ((x ^^^ c.toNat) % 16)) < 2 ^ 32 := Nat.xor_lt_two_pow (by omega) (tab_lt (by omega)); omega) (tab_lt (by omega))
theorem fold_lt (l : Bs) : ∀ x, x < 4294967296 → l.foldl byteN2 x < 4294967296 := by
  induction l with
  | nil => exact fun x h => h
  | cons c l ih => exact fun x h => ih _ (byte_lt h)
theorem more_lt (s : Nat) (h : s < 4294967296) (l : Bs) : moreN s l < 4294967296 := Nat.xor_lt_two_pow (n := 32) (by decide) (fold_lt l _ (Nat.xor_lt_two_pow (n := 32) (by decide) (by omega)))
set_option maxRecDepth 100000 in
set_option maxHeartbeats 1000000 in
theorem more_any (s : Nat) (hs : s < 4294967296) (v : Value) (l : Bs) (hm : l.length ≤ maxLen) (w : World) (hv : Rd w v (Lib.byteCells l)) : Calls Tryz.prog 120 ([.int .u32 s, v] : List Value).toArray w fun e w' => e = .returned (.int .u32 (moreN s l : Nat)) ∧ Below w.heap.size w w' := by
  have hv0 := hv
  unfold maxLen at hm
  obtain ⟨a, cc, rfl, _⟩ := hv
  rw [Lib.byteCells_length] at hv0 ⊢
  refine enterV tab_ok Tryz.func120 rfl Tryz.ntmps120 rfl (St.start w) ?_
  refine cv (fun w => table_any w) ?_
  intro b5
  refine sN 0 rfl rfl (by simp [tabA, Value.oneCell']) ?_ (by kernel_rfl)
  have hn : notI .u32 (s : Int) = ((4294967295 ^^^ s : Nat) : Int) := xor32 4294967295 s (by decide) hs
  have h0 : 4294967295 ^^^ s < 4294967296 := Nat.xor_lt_two_pow (n := 32) (by decide) (by omega)
  refine lp tab_ok (fun i : Nat => i ≤ l.length) (fun i => ⟨[(0, .int .u32 s), (5, ptr b5), (6, .int .u32 ((l.take i).foldl byteN2 (4294967295 ^^^ s) : Nat)), (12, .slice a l.length cc), (13, .int .i64 l.length), (14, .int .i64 i)], [cl b5 (tabA 16) TA], []⟩) (fun i => l.length - i) 0 (Nat.zero_le _) ⟨⟨rfl, rfl, sl32 hn, rfl, rfl, rfl, trivial⟩, .cons .nil, rfl⟩ ?_
  intro i hi
  have hx := fold_lt (l.take i) _ h0
  refine cd (fun h => ?_) (fun h => ?_)
  · have hlt : i < l.length := by omega
    have hc0 : l[i]? = some l[i] := List.getElem?_eq_getElem hlt
    have hstep : (l.take (i + 1)).foldl byteN2 (4294967295 ^^^ s) = byteN2 ((l.take i).foldl byteN2 (4294967295 ^^^ s)) l[i] := by
      rw [List.take_succ_eq_append_getElem hlt, List.foldl_append]; rfl
    generalize l[i] = c at hc0 hstep
    generalize hX : (l.take i).foldl byteN2 (4294967295 ^^^ s) = x at hx hstep ⊢
    have hc := c.toNat_lt
    have hcell : (Lib.byteCells l)[i]? = some (.int .u8 c.toNat) := by simp only [Lib.byteCells, List.getElem?_map, hc0]; rfl
    obtain ⟨b, o, rfl⟩ := hv0.addr (fun e => by rw [e] at hcell; cases hcell)
    refine ⟨by omega, by omega, ?_⟩
    refine .mk (.int .u8 c.toNat) (fun w' hs => (hv0.below hs.below).at hcell rfl) ?_
    have hsh : ∀ y : Nat, (y : Int).fdiv (2 ^ (min (4 : Int).toNat IntKind.u32.bits)) = ((y / 16 : Nat) : Int) := fun y => shN (k := .u32) 4 16 rfl (by decide)
    have hsh8 : ∀ y : Nat, (y : Int).fdiv (2 ^ (min (4 : Int).toNat IntKind.u8.bits)) = ((y / 16 : Nat) : Int) := fun y => shN (k := .u8) 4 16 rfl (by decide)
    have step : ∀ y d : Nat, y < 4294967296 → d < 256 → bitI .and .u32 (bitI .xor .u32 (y : Int) (d : Int)) 15 = (((y ^^^ d) % 16 : Nat) : Int) := fun y d hy hd => by
      have hyd : y ^^^ d < 4294967296 := Nat.xor_lt_two_pow (n := 32) (by omega) (by omega)
      rw [xor32 y d hy (by omega), show bitI .and .u32 ((y ^^^ d : Nat) : Int) 15 = (((y ^^^ d) &&& 15 : Nat) : Int) from and32 (y ^^^ d) 15 hyd (by decide)]
      rw [show (15 : Nat) = 2 ^ 4 - 1 from rfl, Nat.and_two_pow_sub_one_eq_mod]
    have eo : ∀ k : Nat, nad 0 (nmu ((k : Nat) : Int).toNat 1) = k := fun k => by rw [nad_eq, nmu_eq]; simp
    have hx1 : (x / 16 ^^^ tabN ((x ^^^ c.toNat) % 16)) < 4294967296 := Nat.xor_lt_two_pow (n := 32) (by omega) (tab_lt (by omega))
    have hb2 : byteN2 x c = ((x / 16 ^^^ tabN ((x ^^^ c.toNat) % 16)) / 16) ^^^ tabN (((x / 16 ^^^ tabN ((x ^^^ c.toNat) % 16)) ^^^ (c.toNat / 16)) % 16) := rfl
    have hX1 := xor32 (x / 16) (tabN ((x ^^^ c.toNat) % 16)) (by omega) (tab_lt (by omega))
    refine ⟨by decide, ?_⟩
    refine .same (by simp only [mn]; omega) (by simp only [mx]; omega) ?_
    refine ⟨by rw [step x c.toNat hx hc]; omega, by rw [step x c.toNat hx hc]; omega, ?_⟩
    refine ld1 0 rfl (v := .int .u32 (tabN ((x ^^^ c.toNat) % 16) : Nat)) (by rw [step x c.toNat hx hc, eo]; exact tab_at (by omega) (by omega)) ?_
    generalize hy1 : (x / 16 ^^^ tabN ((x ^^^ c.toNat) % 16)) = x1 at hx1 hb2 hX1
    have s2 := step x1 (c.toNat / 16) hx1 (by omega)
    have hX2 := xor32 (x1 / 16) (tabN ((x1 ^^^ (c.toNat / 16)) % 16)) (by omega) (tab_lt (by omega))
    refine ⟨by decide, ?_⟩
    refine ⟨by decide, ?_⟩
    refine .same (by rw [hsh8]; simp only [mn]; omega) (by rw [hsh8]; simp only [mx]; omega) ?_
    refine ⟨by rw [hsh, hX1, hsh8, s2]; omega, by rw [hsh, hX1, hsh8, s2]; omega, ?_⟩
    refine ld1 0 rfl (v := .int .u32 (tabN ((x1 ^^^ c.toNat / 16) % 16) : Nat)) (by rw [hsh, hX1, hsh8, s2, eo]; exact tab_at (by omega) (by omega)) ?_
    refine .as ((i + 1 : Nat) : Int) (by simp) (by simp only [mn]; omega) (by simp only [mx]; omega) ?_
    exact ⟨i + 1, by omega, by omega, ⟨⟨rfl, rfl, sl32 (by rw [hsh, hX1, hsh, hX2, hstep, hb2]), rfl, rfl, rfl, trivial⟩, .cons .nil, rfl⟩⟩
  · obtain rfl : i = l.length := by omega
    have he : notI .u32 (((l.take l.length).foldl byteN2 (4294967295 ^^^ s) : Nat) : Int) = ((moreN s l : Nat) : Int) := by
      rw [List.take_length]; exact xor32 4294967295 _ (by decide) (fold_lt l _ h0)
    exact rt (congrArg (Value.int .u32) he)
end Go.Proofs.YteamnhpplclmfaaGreatDoor
end
section
namespace Go.Proofs.YteamnhpplclmfaaGreatDoor
open Go.RowKit Go.Sx
set_option linter.unusedVariables false
set_option maxRecDepth 100000 in
theorem of_any (pb po kc : Nat) (vs : List Value) (xss : List Bs) (hlen : vs.length = xss.length) (w : World) (hpb : pb < w.heap.size) (hp : ∀ (i : Nat) (u : Value), vs[i]? = some u → w.cell? ⟨pb, po + i, none⟩ = some u)
    (hx : ∀ (i : Nat) (v : Value) (xs : Bs), vs[i]? = some v → xss[i]? = some xs → Rd w v (Lib.byteCells xs)) (hm : ∀ x ∈ xss, x.length ≤ maxLen) (hk : xss.length ≤ 1000) :
    Calls Tryz.prog 95 ([.slice (some ⟨pb, po, none⟩) xss.length kc] : List Value).toArray w fun e w' => e = .returned (.int .u32 (crcP xss : Nat)) ∧ Below w.heap.size w w' := by
  refine enterV tab_ok Tryz.func95 rfl Tryz.ntmps95 rfl (St.start w) ?_
  refine lp tab_ok (fun i : Nat => i ≤ xss.length) (fun i => ⟨[(0, .slice (some ⟨pb, po, none⟩) xss.length kc), (3, .int .u32 (crcP (xss.take i) : Nat)), (6, .slice (some ⟨pb, po, none⟩) xss.length kc), (7, .int .i64 xss.length), (8, .int .i64 i)], [], []⟩) (fun i => xss.length - i) 0 (Nat.zero_le _) ⟨⟨rfl, rfl, rfl, rfl, rfl, trivial⟩, .nil, rfl⟩ ?_
  intro i hi
  have hlt32 : ∀ ys : List Bs, crcP ys < 4294967296 := fun ys => by
    unfold crcP
    suffices h : ∀ s, s < 4294967296 → ys.foldl moreN s < 4294967296 from h 0 (by decide)
    induction ys with
    | nil => exact fun s h => h
    | cons y ys ih => exact fun s h => ih _ (more_lt s h y)
  refine cd (fun h => ?_) (fun h => ?_)
  · have hlt : i < xss.length := by omega
    have hrd := hx i vs[i] xss[i] (by simp [hlen, hlt]) (by simp [hlt])
    obtain ⟨a, c, hv, _⟩ := hx i vs[i] xss[i] (by simp [hlen, hlt]) (by simp [hlt])
    rw [Lib.byteCells_length] at hv
    have hs : crcP (xss.take (i + 1)) = moreN (crcP (xss.take i)) xss[i] := by
      unfold crcP
      rw [List.take_succ_eq_append_getElem hlt, List.foldl_append]; rfl
    refine ⟨by omega, by omega, ?_⟩
    refine ldo (v := .slice a xss[i].length c) (by rw [← hv, nad_eq, nmu_eq]; simpa using hp i _ (by simp [hlen, hlt])) hpb ?_
    rw [hv] at hrd
    refine cvs (v := .int .u32 (moreN (crcP (xss.take i)) xss[i] : Nat)) (fun w' hs => more_any (crcP (xss.take i)) (hlt32 _) (.slice a xss[i].length c) xss[i] (hm _ (List.getElem_mem hlt)) w' (hrd.below hs.below)) ?_
    refine .as ((i + 1 : Nat) : Int) (by omega) (by simp only [mn]; omega) (by simp only [mx]; omega) ?_
    exact ⟨i + 1, by omega, by omega, ⟨⟨rfl, sl32 (by rw [hs]), rfl, rfl, rfl, trivial⟩, .nil, rfl⟩⟩
  · obtain rfl : i = xss.length := by omega
    exact rt (by rw [List.take_length]; rfl)
theorem u8v {n : Nat} (h : n < 256) : (Value.int .u8 ((UInt8.ofNat n).toNat : Nat)) = .int .u8 (n : Nat) := by
  rw [UInt8.toNat_ofNat', Nat.mod_eq_of_lt (by omega)]
theorem bs4 (x y z u : Int) (w : World) : (Instr.buildSlice 22 4 #[(0, .int .u8 x), (1, .int .u8 y), (2, .int .u8 z), (3, .int .u8 u)]).run Tryz.prog w = .ok (.slice (some ⟨w.heap.size, 0, none⟩) 4 4) (w.alloc (.cells #[.int .u8 x, .int .u8 y, .int .u8 z, .int .u8 u] 5)) := by
  obtain ⟨i, hi, hz, hs, hb⟩ := infoOf info5
  exact run_buildSlice w _ _ 4 _ #[.int .u8 x, .int .u8 y, .int .u8 z, .int .u8 u] i (.int .u8 0) und22 hi hz (by rw [hs]; decide) (by rw [hs]; decide) (by rw [hs]; kernel_rfl)
theorem le4_len (n : Nat) : (le4 n).length = 4 := rfl
theorem le4_cells (n : Nat) : Lib.byteCells (le4 n) = [.int .u8 (n % 256 : Nat), .int .u8 (n / 256 % 256 : Nat), .int .u8 (n / 65536 % 256 : Nat), .int .u8 (n / 16777216 % 256 : Nat)] := by
  show [Value.int .u8 _, Value.int .u8 _, Value.int .u8 _, Value.int .u8 _] = _
  rw [u8v (by omega), u8v (by omega), u8v (by omega), u8v (by omega)]
set_option maxRecDepth 100000 in
theorem bytes_any (n : Nat) (hn : n < 4294967296) (w : World) : Calls Tryz.prog 94 ([.int .u32 n] : List Value).toArray w fun e w' => ∃ r, e = .returned (sv r 4) ∧ Rw 1 4 r (Lib.byteCells (le4 n)) ∧ Made w w' r (Lib.byteCells (le4 n)) 5 ∧ Below w.heap.size w w' := by
  refine (enter tab_ok Tryz.func94 rfl Tryz.ntmps94 rfl (St.start w) (R := fun v w' => ∃ r, v = sv r 4 ∧ Rw 1 4 r (Lib.byteCells (le4 n)) ∧ Made w w' r (Lib.byteCells (le4 n)) 5 ∧ Below w.heap.size w w') ?_).mono (fun e w' ⟨v, he, r, hv, h⟩ => ⟨r, by rw [he, hv], h⟩)
  have hsh : ∀ (s m : Nat), 2 ^ s = m → s ≤ 32 → (n : Int).fdiv (2 ^ (min ((s : Nat) : Int).toNat IntKind.u32.bits)) = ((n / m : Nat) : Int) := fun s m h h2 => shN (k := .u32) s m h h2
  refine .to ((n % 256 : Nat) : Int) (by show (n : Int) % 256 = _; omega) ?_
  refine ⟨by decide, ?_⟩
  refine .to ((n / 256 % 256 : Nat) : Int) ((congrArg (modk .u8) (hsh 8 256 rfl (by decide))).trans (by show ((n / 256 : Nat) : Int) % 256 = _; omega)) ?_
  refine ⟨by decide, ?_⟩
  refine .to ((n / 65536 % 256 : Nat) : Int) ((congrArg (modk .u8) (hsh 16 65536 rfl (by decide))).trans (by show ((n / 65536 : Nat) : Int) % 256 = _; omega)) ?_
  refine ⟨by decide, ?_⟩
  refine .to ((n / 16777216 % 256 : Nat) : Int) ((congrArg (modk .u8) (hsh 24 16777216 rfl (by decide))).trans (by show ((n / 16777216 : Nat) : Int) % 256 = _; omega)) ?_
  refine .mk _ _ (fun w => bs4 _ _ _ _ w) (fun b => ?_)
  refine ⟨fun w1 hs => ?_⟩
  have hk : ∀ L : List Ent, ([] ++ [cl b #[.int .u8 (n % 256 : Nat), .int .u8 (n / 256 % 256 : Nat), .int .u8 (n / 65536 % 256 : Nat), .int .u8 (n / 16777216 % 256 : Nat)] 5] : List Ent)[0]? = some (se (some (b, 4, [])) (Lib.byteCells (le4 n)) 5) := fun L => by
    rw [le4_cells]; rfl
  exact ⟨some (b, 4, []), rfl, ⟨by rw [Lib.byteCells_length]; rfl, by decide, by decide, by rw [List.append_nil, Lib.byteCells_length]; rfl⟩, made_of hs rfl 0 (hk []), hs.below⟩
theorem unle_lt (l : Bs) : unle l < 256 ^ l.length := by
  induction l with
  | nil => decide
  | cons c l ih =>
    have := c.toNat_lt
    show c.toNat + 256 * unle l < _
    rw [List.length_cons, Nat.pow_succ]
    omega
set_option maxRecDepth 100000 in
set_option maxHeartbeats 1000000 in
theorem take_any (v : Value) (l : Bs) (h4 : l.length = 4) (w : World) (hv : Rd w v (Lib.byteCells l)) : Calls Tryz.prog 107 ([v] : List Value).toArray w fun e w' => e = .returned (.tuple #[.int .u32 (unle l : Nat), .bool true]) ∧ Below w.heap.size w w' := by
  have hv0 := hv
  obtain ⟨aa, cc, rfl, _⟩ := hv
  rw [Lib.byteCells_length, h4] at hv0 ⊢
  obtain ⟨bb, oo, rfl⟩ := hv0.addr (fun e => by have := congrArg List.length e; rw [Lib.byteCells_length, h4] at this; cases this)
  match l, h4 with
  | [x0, x1, x2, x3], _ =>
    have k0 := x0.toNat_lt
    have k1 := x1.toNat_lt
    have k2 := x2.toNat_lt
    have k3 := x3.toNat_lt
    refine enterV tab_ok Tryz.func107 rfl Tryz.ntmps107 rfl (St.start w) ?_
    refine cf rfl ?_
    refine ⟨Nat.le_refl _, ?_⟩
    refine .mk #[.int .u8 x0.toNat, .int .u8 x1.toNat, .int .u8 x2.toNat, .int .u8 x3.toNat] rfl (fun w hs i u hu => ?_) ?_
    · have h2 := hv0.below hs.below
      obtain ⟨a', c1, e, hc⟩ := h2
      injection e with e1 _ _
      obtain ⟨b', o', h1, _, h3⟩ := hc (by simp [Lib.byteCells])
      rw [← e1] at h1
      injection h1 with h1
      injection h1 with h4 h5
      subst h4 h5
      exact h3 i u hu
    intro b4
    refine sN 0 rfl rfl (by simp [Value.oneCell']) ?_ (by kernel_rfl)
    refine ldN 0 rfl rfl ?_
    refine lp tab_ok (fun i : Nat => i ≤ 4) (fun i => ⟨[(5, .int .u32 (unle ([x0, x1, x2, x3].take i) : Nat)), (14, .agg #[.int .u8 x0.toNat, .int .u8 x1.toNat, .int .u8 x2.toNat, .int .u8 x3.toNat]), (15, .int .i64 i)], [], []⟩) (fun i => 4 - i) 0 (Nat.zero_le _) ⟨⟨rfl, rfl, rfl, trivial⟩, .drop .nil, rfl⟩ ?_
    intro i hi
    refine cd (fun h => ?_) (fun h => ?_)
    · have hlt : i < 4 := by omega
      obtain ⟨x, m, hx, hm, hx8, hstep, hsm⟩ : ∃ x m : Nat, (#[.int .u8 x0.toNat, .int .u8 x1.toNat, .int .u8 x2.toNat, .int .u8 x3.toNat] : Array Value)[i]? = some (.int .u8 x) ∧ m = 8 * i ∧ x < 256 ∧ unle ([x0, x1, x2, x3].take (i + 1)) = x * 2 ^ m + unle ([x0, x1, x2, x3].take i) ∧ unle ([x0, x1, x2, x3].take i) < 2 ^ m := by
        match i, hlt with
        | 0, _ => exact ⟨x0.toNat, 0, rfl, rfl, k0, by simp [unle], by simp [unle]⟩
        | 1, _ => exact ⟨x1.toNat, 8, rfl, rfl, k1, by simp [unle]; omega, by simp [unle]; omega⟩
        | 2, _ => exact ⟨x2.toNat, 16, rfl, rfl, k2, by simp [unle]; omega, by simp [unle]; omega⟩
        | 3, _ => exact ⟨x3.toNat, 24, rfl, rfl, k3, by simp [unle]; omega, by simp [unle]; omega⟩
      have h24 : 2 ^ m ≤ 2 ^ 24 := Nat.pow_le_pow_right (by decide) (by omega)
      have hun : unle ([x0, x1, x2, x3].take i) < 4294967296 := by omega
      have hp : x * 2 ^ m < 4294967296 := by
        have := h24
        have h2 : x * 2 ^ m ≤ 255 * 2 ^ 24 := Nat.mul_le_mul (by omega) this
        omega
      have hmi : (8 * (i : Int)) = ((m : Nat) : Int) := by omega
      have hmul : (x : Int) * 2 ^ (min ((m : Nat) : Int).toNat IntKind.u32.bits) = ((x * 2 ^ m : Nat) : Int) := by
        rw [Int.toNat_natCast, Nat.min_eq_left (by show m ≤ 32; omega)]; norm_cast
      refine ⟨by omega, by omega, ?_⟩
      refine .cell (.int .u8 x) rfl (by rw [nmu_eq, Int.toNat_natCast, Nat.mul_one]; exact hx) ?_
      refine .same (by simp only [mn]; omega) (by simp only [mx]; omega) ?_
      refine .as ((m : Nat) : Int) hmi (by simp only [mn]; omega) (by simp only [mx]; omega) ?_
      refine ⟨by omega, ?_⟩
      refine .as ((x * 2 ^ m : Nat) : Int) hmul (by simp only [mn]; omega) (by simp only [mx]; omega) ?_
      refine .as ((i + 1 : Nat) : Int) (by omega) (by simp only [mn]; omega) (by simp only [mx]; omega) ?_
      exact ⟨i + 1, by omega, by omega, ⟨⟨sl32 (by rw [or32 _ _ hun hp, hstep, Nat.or_comm, ← Nat.shiftLeft_eq, Nat.shiftLeft_add_eq_or_of_lt hsm]), rfl, rfl, trivial⟩, .nil, rfl⟩⟩
    · obtain rfl : i = 4 := by omega
      exact rt rfl
def sizeN (n : Nat) : Nat := if n ≤ 65536 then 8 + n else 0
theorem size_any (n : Nat) (hm : n ≤ maxLen) (w : World) : Calls Tryz.prog 45 ([.int .i64 n] : List Value).toArray w fun e w' => e = .returned (.int .i64 (sizeN n : Nat)) ∧ Below w.heap.size w w' := by
  refine enterV tab_ok Tryz.func45 rfl Tryz.ntmps45 rfl (St.start w) ?_
  by_cases h : n ≤ 65536
  · have e1 : decide ((n : Int) < 0) = false := decide_eq_false (by omega)
    have e2 : decide ((n : Int) > 65536) = false := decide_eq_false (by omega)
    iterate 2 refine ct (by rw [e1]; rfl) ?_
    refine cf e1 ?_
    refine cf e2 ?_
    refine .as ((8 + n : Nat) : Int) (by omega) (by simp only [mn]; omega) (by simp only [mx]; omega) ?_
    exact rt (by unfold sizeN; rw [if_pos h]; rfl)
  · have e1 : decide ((n : Int) < 0) = false := decide_eq_false (by omega)
    have e2 : decide ((n : Int) > 65536) = true := decide_eq_true (by omega)
    iterate 2 refine ct (by rw [e1]; rfl) ?_
    refine cf e1 ?_
    refine ct e2 ?_
    exact rt (by unfold sizeN; rw [if_neg h]; rfl)
end Go.Proofs.YteamnhpplclmfaaGreatDoor
end
section
namespace Go.Proofs.YteamnhpplclmfaaGreatDoor
open Go.RowKit Go.Sx
set_option linter.unusedVariables false
theorem bsS3 (a1 a2 a3 : Option Addr) (n1 n2 n3 k1 k2 k3 : Nat) (w : World) : (Instr.buildSlice 36 3 #[(0, .slice a1 n1 k1), (1, .slice a2 n2 k2), (2, .slice a3 n3 k3)]).run Tryz.prog w = .ok (.slice (some ⟨w.heap.size, 0, none⟩) 3 3) (w.alloc (.cells #[.slice a1 n1 k1, .slice a2 n2 k2, .slice a3 n3 k3] 22)) := by
  obtain ⟨i, hi, hz, hs, hb⟩ := infoOf infoS
  exact run_buildSlice w _ _ 3 _ #[.slice a1 n1 k1, .slice a2 n2 k2, .slice a3 n3 k3] i (.slice none 0 0) undSS hi hz (by rw [hs]; decide) (by rw [hs]; decide) (by rw [hs]; kernel_rfl)
theorem sv_some {r : Sx.Own} {n : Nat} {xs : List Value} (h : Rw 1 n r xs) (h0 : n ≠ 0) : ∃ b c j, r = some (b, c, j) := by
  cases r with
  | none => exact absurd h.2 h0
  | some q => exact ⟨q.1, q.2.1, q.2.2, rfl⟩
theorem crc_lt (ys : List Bs) : crcP ys < 4294967296 := by
  unfold crcP
  suffices h : ∀ s, s < 4294967296 → ys.foldl moreN s < 4294967296 from h 0 (by decide)
  induction ys with
  | nil => exact fun s h => h
  | cons y ys ih => exact fun s h => ih _ (more_lt s h y)
theorem rec_len (p : Bs) : (recP p).length = 8 + p.length := by simp [recP, le4]; omega
set_option maxRecDepth 100000 in
set_option maxHeartbeats 1000000 in
theorem fput_bad (v : Value) (p : Bs) (hp : 65536 < p.length) (hm : p.length ≤ maxLen) (w : World) (hv : Rd w v (Lib.byteCells p)) : Calls Tryz.prog 50 ([v] : List Value).toArray w fun e w' => e = .returned (.tuple #[.slice none 0 0, ErrN 10]) ∧ Below w.heap.size w w' := by
  have hv0 := hv
  obtain ⟨a, c, rfl, _⟩ := hv
  rw [Lib.byteCells_length] at hv0 ⊢
  refine enterV tab_ok Tryz.func50 rfl Tryz.ntmps50 rfl (St.start w) ?_
  refine cv (fun w => size_any p.length hm w) ?_
  refine ct (by unfold sizeN; rw [if_neg (by omega)]; rfl) ?_
  exact rt rfl
set_option maxRecDepth 100000 in
set_option maxHeartbeats 1000000 in
theorem fput_any (v : Value) (p : Bs) (hp : p.length ≤ 65536) (w : World) (hv : Rd w v (Lib.byteCells p)) : Calls Tryz.prog 50 ([v] : List Value).toArray w fun e w' => ∃ r, e = .returned (.tuple #[sv r (recP p).length, .nilIface]) ∧ Rw 1 (recP p).length r (Lib.byteCells (recP p)) ∧ Made w w' r (Lib.byteCells (recP p)) 5 ∧ Below w.heap.size w w' := by
  have hm : p.length ≤ maxLen := by unfold maxLen; omega
  have hv0 := hv
  obtain ⟨a, c, rfl, _⟩ := hv
  rw [Lib.byteCells_length] at hv0 ⊢
  refine (enter tab_ok Tryz.func50 rfl Tryz.ntmps50 rfl (St.start w) (R := fun v w' => ∃ r, v = .tuple #[sv r (recP p).length, .nilIface] ∧ Rw 1 (recP p).length r (Lib.byteCells (recP p)) ∧ Made w w' r (Lib.byteCells (recP p)) 5 ∧ Below w.heap.size w w') ?_).mono (fun e w' ⟨v, he, r, hv, h⟩ => ⟨r, by rw [he, hv], h⟩)
  refine cv (fun w => size_any p.length hm w) ?_
  refine cf (by unfold sizeN; rw [if_pos hp, beq_eq_false_iff_ne]; omega) ?_
  refine .same (by simp only [mn]; omega) (by simp only [mx]; omega) ?_
  refine co (fun w _ => bytes_any p.length (by omega) w) (fun r1 hR1 => ?_)
  obtain ⟨b1, c1, j1, rfl⟩ := sv_some hR1 (by decide)
  refine .mk _ _ (bsS2 _ _ _ _ _ _) (fun b2 => ?_)
  have hc2 : ∀ x ∈ [le4 p.length, p], x.length ≤ maxLen := fun x hx => by
    simp only [List.mem_cons, List.not_mem_nil, or_false] at hx
    rcases hx with rfl | rfl
    · show 4 ≤ maxLen; decide
    · exact hm
  refine cvs (v := .int .u32 (crcP [le4 p.length, p] : Nat)) (fun w1 hs => of_any b2 0 2 [.slice (some ⟨b1, 0, none⟩) 4 c1, .slice a p.length c] [le4 p.length, p] rfl w1 (hs.lt (List.mem_of_getElem? (i := 1) rfl) rfl) (fun i u hu => ?_) (fun i v xs h1 h2 => ?_) hc2 (by show 2 ≤ 1000; decide)) ?_
  · rw [hs.cell (k := 1) rfl (0 + i), Nat.zero_add]
    simpa using hu
  · rcases i with _ | _ | i
    · obtain rfl := Option.some.inj h1
      obtain rfl := Option.some.inj h2
      exact Rd.own hs 0 rfl hR1
    · obtain rfl := Option.some.inj h1
      obtain rfl := Option.some.inj h2
      exact hv0.below hs.below
    · cases h1
  refine co (fun w _ => bytes_any _ (crc_lt _) w) (fun r3 hR3 => ?_)
  obtain ⟨b3, c3, j3, rfl⟩ := sv_some hR3 (by decide)
  refine .mk _ _ (bsS3 _ _ _ _ _ _ _ _ _) (fun b4 => ?_)
  have hfl : ([Lib.byteCells (le4 p.length), Lib.byteCells (le4 (crcP [le4 p.length, p])), Lib.byteCells p] : List (List Value)).flatten = Lib.byteCells (recP p) := by
    simp [recP, Lib.byteCells]
  refine co (xs := ([Lib.byteCells (le4 p.length), Lib.byteCells (le4 (crcP [le4 p.length, p])), Lib.byteCells p] : List (List Value)).flatten) (n := ([Lib.byteCells (le4 p.length), Lib.byteCells (le4 (crcP [le4 p.length, p])), Lib.byteCells p] : List (List Value)).flatten.length) (z := 1) (e := 5) (fun w1 hs => concat_any b4 0 3 [.slice (some ⟨b1, 0, none⟩) 4 c1, .slice (some ⟨b3, 0, none⟩) 4 c3, .slice a p.length c] [Lib.byteCells (le4 p.length), Lib.byteCells (le4 (crcP [le4 p.length, p])), Lib.byteCells p] rfl w1 (hs.lt (List.mem_of_getElem? (i := 3) rfl) rfl) (fun i u hu => ?_) (fun i v xs h1 h2 => ?_) (fun xs hxs u hu => ?_) (by rw [hfl, Lib.byteCells_length, rec_len]; omega) (by show 3 ≤ 1000; decide)) (fun r hR => ?_)
  · rw [hs.cell (k := 3) rfl (0 + i), Nat.zero_add]
    simpa using hu
  · rcases i with _ | _ | _ | i
    · obtain rfl := Option.some.inj h1
      obtain rfl := Option.some.inj h2
      exact Rd.own hs 0 rfl hR1
    · obtain rfl := Option.some.inj h1
      obtain rfl := Option.some.inj h2
      exact Rd.own hs 2 rfl hR3
    · obtain rfl := Option.some.inj h1
      obtain rfl := Option.some.inj h2
      exact hv0.below hs.below
    · cases h1
  · simp only [List.mem_cons, List.not_mem_nil, or_false] at hxs
    rcases hxs with rfl | rfl | rfl
    · exact one8 _ u hu
    · exact one8 _ u hu
    · exact one8 _ u hu
  rw [hfl] at hR ⊢
  rw [Lib.byteCells_length] at hR ⊢
  exact ⟨fun w1 hs => ⟨r, rfl, hR, made_of hs rfl 4 rfl, hs.below⟩⟩
set_option maxRecDepth 100000 in
set_option maxHeartbeats 1000000 in
/-- the record that a row begins with -/
theorem first_any (a : Option Addr) (l : Bs) (c : Nat) (hc : l.length ≤ c) (hm : l.length ≤ maxLen) (ha : ∀ x, a = some x → x.spot = none) (w : World) (hv : Rd w (.slice a l.length c) (Lib.byteCells l)) : Calls Tryz.prog 129 ([.slice a l.length c] : List Value).toArray w fun e w' =>
    (∃ x : Option Addr × Nat × Nat, (∀ p, firstP l = some p → x.2.1 = p.length ∧ ∀ w : World, Rd w (.slice a l.length c) (Lib.byteCells l) → Rd w (.slice x.1 x.2.1 x.2.2) (Lib.byteCells p)) ∧ e = .returned (.tuple #[.slice x.1 x.2.1 x.2.2, .bool (firstP l).isSome])) ∧ Below w.heap.size w w' := by
  refine (enter tab_ok Tryz.func129 rfl Tryz.ntmps129 rfl (St.start w) (R := fun v w' => (∃ x : Option Addr × Nat × Nat, (∀ p, firstP l = some p → x.2.1 = p.length ∧ ∀ w : World, Rd w (.slice a l.length c) (Lib.byteCells l) → Rd w (.slice x.1 x.2.1 x.2.2) (Lib.byteCells p)) ∧ v = .tuple #[.slice x.1 x.2.1 x.2.2, .bool (firstP l).isSome]) ∧ Below w.heap.size w w') ?_).mono (fun e w' ⟨v, he, ⟨x, h1, h2⟩, h3⟩ => ⟨⟨x, h1, by rw [he, h2]⟩, h3⟩)
  by_cases h8 : l.length < 8
  · have hn : firstP l = none := by unfold firstP; rw [if_pos h8]
    refine ct (decide_eq_true (by omega)) ?_
    exact ⟨fun w1 hs => ⟨⟨(none, 0, 0), (fun p h => by rw [hn] at h; cases h), by rw [hn]; rfl⟩, hs.below⟩⟩
  refine cf (decide_eq_false (by omega)) ?_
  refine slTo (k := 4) ha (by omega) hc ?_
  have ht4 : (l.take 4).length = 4 := by rw [List.length_take]; omega
  have hr4 : ∀ w : World, Rd w (.slice a l.length c) (Lib.byteCells l) → Rd w (.slice a 4 c) (Lib.byteCells (l.take 4)) := fun w h => h.take rfl (by omega) c
  refine cvs (fun w1 hs => take_any _ (l.take 4) ht4 w1 (hr4 _ (hv.below hs.below))) ?_
  have hul := unle_lt (l.take 4)
  rw [ht4] at hul
  have hul : unle (l.take 4) < 4294967296 := hul
  by_cases hbig : 65536 < unle (l.take 4)
  · have hn : firstP l = none := by unfold firstP; rw [if_neg h8, if_pos (.inl hbig)]
    have e1 : decide (((unle (l.take 4) : Nat) : Int) > 65536) = true := decide_eq_true (by omega)
    iterate 6 refine cf (by rw [e1]; rfl) ?_
    refine ct e1 ?_
    refine ct rfl ?_
    exact ⟨fun w1 hs => ⟨⟨(none, 0, 0), (fun p h => by rw [hn] at h; cases h), by rw [hn]; rfl⟩, hs.below⟩⟩
  have e1 : decide (((unle (l.take 4) : Nat) : Int) > 65536) = false := decide_eq_false (by omega)
  have e2 : (decide (((unle (l.take 4) : Nat) : Int) > 65536) == false) = true := by rw [e1]; rfl
  iterate 2 refine ct e2 ?_
  refine .same (by simp only [mn]; omega) (by simp only [mx]; omega) ?_
  iterate 3 refine ct e2 ?_
  refine .as ((l.length - 8 : Nat) : Int) (by omega) (by simp only [mn]; omega) (by simp only [mx]; unfold maxLen at hm; omega) ?_
  refine ct e2 ?_
  refine cf e1 ?_
  by_cases hsh : l.length - 8 < unle (l.take 4)
  · have hn : firstP l = none := by unfold firstP; rw [if_neg h8, if_pos (.inr hsh)]
    refine ct (decide_eq_true (by omega)) ?_
    exact ⟨fun w1 hs => ⟨⟨(none, 0, 0), (fun p h => by rw [hn] at h; cases h), by rw [hn]; rfl⟩, hs.below⟩⟩
  refine cf (decide_eq_false (by omega)) ?_
  generalize hz : unle (l.take 4) = z at *
  refine .same (by simp only [mn]; omega) (by simp only [mx]; omega) ?_
  refine .as ((8 + z : Nat) : Int) (by omega) (by simp only [mn]; omega) (by simp only [mx]; omega) ?_
  refine slMid (i := 8) (j := 8 + z) ha (by omega) (by omega) (fun a' hsp' hnn' hrd' => ?_)
  rw [show 8 + z - 8 = z by omega] at hrd' ⊢
  have hpl : ((l.drop 8).take z).length = z := by rw [List.length_take, List.length_drop]; omega
  have hrp : ∀ w : World, Rd w (.slice a l.length c) (Lib.byteCells l) → Rd w (.slice a' z (c - 8)) (Lib.byteCells ((l.drop 8).take z)) := fun w h => hrd' w l h (by omega)
  refine slMid (i := 4) (j := 8) ha (by omega) (by omega) (fun a2 hsp2 hnn2 hrd2 => ?_)
  have h48 : ((l.drop 4).take 4).length = 4 := by rw [List.length_take, List.length_drop]; omega
  refine cvs (fun w1 hs => take_any _ ((l.drop 4).take 4) h48 w1 (hrd2 w1 l (hv.below hs.below) (by omega))) ?_
  refine slTo (k := 4) ha (by omega) hc ?_
  refine .mk _ _ (bsS2 _ _ _ _ _ _) (fun b2 => ?_)
  refine cvs (v := .int .u32 (crcP [l.take 4, (l.drop 8).take z] : Nat)) (fun w1 hs => of_any b2 0 2 [.slice a 4 c, .slice a' z (c - 8)] [l.take 4, (l.drop 8).take z] rfl w1 (hs.lt (List.mem_of_getElem? (i := 0) rfl) rfl) (fun i u hu => ?_) (fun i v xs h1 h2 => ?_) (fun x hx => ?_) (by show 2 ≤ 1000; decide)) ?_
  · rw [hs.cell (k := 0) rfl (0 + i), Nat.zero_add]
    simpa using hu
  · rcases i with _ | _ | i
    · obtain rfl := Option.some.inj h1
      obtain rfl := Option.some.inj h2
      exact hr4 w1 (hv.below hs.below)
    · obtain rfl := Option.some.inj h1
      obtain rfl := Option.some.inj h2
      exact hrp w1 (hv.below hs.below)
    · cases h1
  · simp only [List.mem_cons, List.not_mem_nil, or_false] at hx
    rcases hx with rfl | rfl
    · omega
    · omega
  have hf : firstP l = if unle ((l.drop 4).take 4) = crcP [l.take 4, (l.drop 8).take z] then some ((l.drop 8).take z) else none := by
    unfold firstP; rw [if_neg h8, hz, if_neg (by omega)]
  refine ⟨fun w1 hs => ⟨⟨(a', z, c - 8), (fun p h => ?_), ?_⟩, hs.below⟩⟩
  · rw [hf] at h
    split at h
    · obtain rfl := Option.some.inj h
      exact ⟨hpl.symm, fun w h => hrp w h⟩
    · cases h
  · by_cases hq : unle ((l.drop 4).take 4) = crcP [l.take 4, (l.drop 8).take z]
    · rw [hf, if_pos hq, hq]
      show Value.tuple #[_, .bool _] = _
      rw [beq_self_eq_true]; rfl
    · rw [hf, if_neg hq]
      show Value.tuple #[_, .bool _] = _
      rw [beq_eq_false_iff_ne.2 (by omega)]; rfl
end Go.Proofs.YteamnhpplclmfaaGreatDoor
end
section
namespace Go.Proofs.YteamnhpplclmfaaGreatDoor
open Go.RowKit Go.Sx
set_option linter.unusedVariables false
/-- the table of powers lies where the program looks -/
structure Laid (w : World) : Prop where
  l0 : 0 < w.heap.size
  f : ∀ i, i < 20 → w.cell? ⟨0, i, none⟩ = some (.int .u64 (10 ^ i : Nat))
def laidR : Res where
  w := fun _ => False
  r := fun k => k = 0
  p := Laid
  st := fun u v h hp => by
    have e0 := h 0 (.inr rfl)
    have lt : ∀ k, k < u.heap.size → v.heap[k]? = u.heap[k]? → k < v.heap.size := fun k h1 h2 => by
      rw [Array.getElem?_eq_getElem h1] at h2
      exact (Array.getElem?_eq_some_iff.1 h2).1
    exact ⟨lt 0 hp.l0 e0, fun i hi => by rw [← hp.f i hi]; simp only [World.cell?, e0]⟩
  bd := fun u h k hk => by
    rcases hk with hk | rfl
    · exact hk.elim
    · exact h.l0
theorem Laid.below {w w' : World} (h : Laid w) (hb : Below w.heap.size w w') : Laid w' := laidR.st w w' (fun k hk => hb.block k (laidR.bd w h k hk)) h
theorem St.laid {w : World} (h : Laid w) : St [] w w [rs laidR] := St.reads fun e he => by
  obtain rfl : e = rs laidR := by simpa using he
  exact ⟨(rsOk laidR w).2 h, fun k hk => (rsW laidR k).1 hk⟩
theorem str_ext (s : Bs) (l h : Nat) : (⟨s.toArray⟩ : ByteArray).extract l h = ⟨((s.take h).drop l).toArray⟩ := by
  apply ByteArray.ext
  apply Array.ext'
  simp [ByteArray.data_extract, List.extract_eq_take_drop, List.drop_take]
/-- a sign of a text -/
theorem chL {s : Bs} {i : Int} (j : Nat) {c : UInt8} (hi : i = j) (hj : s[j]? = some c) {next : Value → Prop} (go : next (.int .u8 c.toNat)) : ChP ⟨s.toArray⟩ i next := by
  subst hi
  obtain ⟨h1, h2⟩ := List.getElem?_eq_some_iff.1 hj
  refine ⟨by omega, by simpa [ByteArray.size] using h1, ?_⟩
  have e : ((⟨s.toArray⟩ : ByteArray)[((j : Nat) : Int).toNat]'(by simpa [ByteArray.size] using h1)) = c := by
    show (s.toArray)[((j : Nat) : Int).toNat]'(by simpa using h1) = c
    simpa using h2
  rw [e]; exact go
/-- a part of a text -/
theorem slB {s : Bs} (l h : Nat) (hl : l ≤ h) (hh : h ≤ s.length) {next : Value → Prop} {fb : Prop} {x y : Int} (hx : x = l) (hy : y = h) (go : next (VS ((s.take h).drop l))) : SliP .str (VS s) (some x) (some y) none next fb := by
  subst hx; subst hy
  refine ⟨.mk l h s.length ?_ ?_ rfl hl hh ?_ (fun e => by cases e) ?_⟩
  · simp [oi, ByteArray.size]
  · simp [oi]
  · simp [ByteArray.size]
  · rw [str_ext]; exact go
theorem slTT {s : Bs} (h : Nat) (hh : h ≤ s.length) {next : Value → Prop} {fb : Prop} {x : Int} (hx : x = h) (go : next (VS (s.take h))) : SliP .str (VS s) none (some x) none next fb := by
  subst hx
  refine ⟨.mk 0 h s.length ?_ ?_ rfl (Nat.zero_le _) hh ?_ (fun e => by cases e) ?_⟩
  · simp [oi, ByteArray.size]
  · simp [oi]
  · simp [ByteArray.size]
  · rw [str_ext, List.drop_zero]; exact go
def lg (n : Nat) : Nat := if n = 0 then 0 else Nat.log2 n + 1
def LEN8 : Bs := [0, 1, 2, 2, 3, 3, 3, 3, 4, 4, 4, 4, 4, 4, 4, 4, 5, 5, 5, 5, 5, 5, 5, 5, 5, 5, 5, 5, 5, 5, 5, 5, 6, 6, 6, 6, 6, 6, 6, 6, 6, 6, 6, 6, 6, 6, 6, 6, 6, 6, 6, 6, 6, 6, 6, 6, 6, 6, 6, 6, 6, 6, 6, 6, 7, 7, 7, 7, 7, 7, 7, 7, 7, 7, 7, 7, 7, 7, 7, 7, 7, 7, 7, 7, 7, 7, 7, 7, 7, 7, 7, 7, 7, 7, 7, 7, 7, 7, 7, 7, 7, 7, 7, 7, 7, 7, 7, 7, 7, 7, 7, 7, 7, 7, 7, 7, 7, 7, 7, 7, 7, 7, 7, 7, 7, 7, 7, 7, 8, 8, 8, 8, 8, 8, 8, 8, 8, 8, 8, 8, 8, 8, 8, 8, 8, 8, 8, 8, 8, 8, 8, 8, 8, 8, 8, 8, 8, 8, 8, 8, 8, 8, 8, 8, 8, 8, 8, 8, 8, 8, 8, 8, 8, 8, 8, 8, 8, 8, 8, 8, 8, 8, 8, 8, 8, 8, 8, 8, 8, 8, 8, 8, 8, 8, 8, 8, 8, 8, 8, 8, 8, 8, 8, 8, 8, 8, 8, 8, 8, 8, 8, 8, 8, 8, 8, 8, 8, 8, 8, 8, 8, 8, 8, 8, 8, 8, 8, 8, 8, 8, 8, 8, 8, 8, 8, 8, 8, 8, 8, 8, 8, 8, 8, 8, 8, 8, 8, 8, 8, 8, 8, 8, 8, 8, 8, 8]
theorem len8_at (i : Nat) (h : i < 256) : LEN8[i]? = some (UInt8.ofNat (lg i)) := by
  have : (List.range 256).all (fun i => decide (LEN8[i]? = some (UInt8.ofNat (lg i)))) = true := by decide +kernel
  exact of_decide_eq_true (List.all_eq_true.1 this i (by simpa using h))
theorem lg_div (u k : Nat) (h : 2 ^ k ≤ u) : lg u = lg (u / 2 ^ k) + k := by
  have hp : 0 < 2 ^ k := Nat.pos_of_ne_zero (by simp)
  have h1 : u / 2 ^ k ≠ 0 := by have := Nat.div_pos h hp; omega
  unfold lg
  rw [if_neg (by omega), if_neg h1]
  have h2 : Nat.log2 u = Nat.log2 (u / 2 ^ k) + k := by
    rw [Nat.log2_eq_iff (by omega)]
    have h3 := (Nat.log2_eq_iff h1).1 rfl
    have h4 := Nat.div_add_mod u (2 ^ k)
    have h5 := Nat.mod_lt u hp
    constructor
    · rw [Nat.pow_add]
      calc 2 ^ (u / 2 ^ k).log2 * 2 ^ k ≤ (u / 2 ^ k) * 2 ^ k := Nat.mul_le_mul_right _ h3.1
        _ ≤ u := Nat.div_mul_le_self _ _
    · rw [Nat.add_right_comm, Nat.pow_add]
      have h6 : u / 2 ^ k + 1 ≤ 2 ^ ((u / 2 ^ k).log2 + 1) := h3.2
      calc u < (u / 2 ^ k + 1) * 2 ^ k := by rw [Nat.add_mul, Nat.one_mul, Nat.mul_comm]; omega
        _ ≤ 2 ^ ((u / 2 ^ k).log2 + 1) * 2 ^ k := Nat.mul_le_mul_right _ h6
  omega
theorem lg_lt {u k : Nat} (h : u < 2 ^ k) : lg u ≤ k := by
  unfold lg
  split
  · omega
  · rename_i h0
    have := (Nat.log2_lt h0).2 h
    omega
set_option maxRecDepth 100000 in
set_option maxHeartbeats 1000000 in
theorem len64_any (u : Nat) (hu : u < 16777216) (w : World) : Calls Tryz.prog 160 ([.int .u64 u] : List Value).toArray w fun e w' => e = .returned (.int .i64 (lg u : Nat)) ∧ Below w.heap.size w w' := by
  refine enterV tab_ok Tryz.func160 rfl Tryz.ntmps160 rfl (St.start w) ?_
  have hsh : ∀ (s m : Nat), 2 ^ s = m → s ≤ 64 → ∀ u : Nat, (u : Int).fdiv (2 ^ (min ((s : Nat) : Int).toNat IntKind.u64.bits)) = ((u / m : Nat) : Int) := fun s m h h2 u => shN (k := .u64) s m h h2
  have s8 := hsh 8 256 rfl (by decide)
  have s16 := hsh 16 65536 rfl (by decide)
  have tl : ∀ v : Nat, v < 256 → (UInt8.ofNat (lg v)).toNat = lg v ∧ lg v ≤ 8 := fun v hv => by
    have : lg v ≤ 8 := lg_lt (k := 8) hv
    exact ⟨by rw [UInt8.toNat_ofNat']; omega, this⟩
  refine cf (decide_eq_false (by omega)) ?_
  by_cases h16 : 65536 ≤ u
  · refine ct (decide_eq_true (by omega)) ?_
    refine ⟨by decide, ?_⟩
    refine .as (16 : Int) (by decide) (by decide) (by decide) ?_
    have e1 : lg u = lg (u / 65536) + 16 := lg_div u 16 (by omega)
    by_cases h8 : 256 ≤ u / 65536
    · exfalso; omega
    · obtain ⟨t1, t2⟩ := tl (u / 65536) (by omega)
      refine cf (by rw [show ((16 : Nat) : Int) = 16 from rfl] at *; exact decide_eq_false (by rw [s16]; omega)) ?_
      refine .to ((u / 65536 : Nat) : Int) ((congrArg (modk .u8) (s16 u)).trans (by show ((u / 65536 : Nat) : Int) % 256 = _; omega)) ?_
      refine chL (s := LEN8) (u / 65536) rfl (len8_at _ (by omega)) ?_
      refine .same (by simp only [mn]; omega) (by simp only [mx]; omega) ?_
      refine .as ((lg u : Nat) : Int) (by rw [t1, e1]; omega) (by simp only [mn]; omega) (by simp only [mx]; omega) ?_
      exact rt rfl
  refine cf (decide_eq_false (by omega)) ?_
  by_cases h8 : 256 ≤ u
  · refine ct (decide_eq_true (by omega)) ?_
    refine ⟨by decide, ?_⟩
    refine .as (8 : Int) (by decide) (by decide) (by decide) ?_
    have e1 : lg u = lg (u / 256) + 8 := lg_div u 8 (by omega)
    obtain ⟨t1, t2⟩ := tl (u / 256) (by omega)
    refine .to ((u / 256 : Nat) : Int) ((congrArg (modk .u8) (s8 u)).trans (by show ((u / 256 : Nat) : Int) % 256 = _; omega)) ?_
    refine chL (s := LEN8) (u / 256) rfl (len8_at _ (by omega)) ?_
    refine .same (by simp only [mn]; omega) (by simp only [mx]; omega) ?_
    refine .as ((lg u : Nat) : Int) (by rw [t1, e1]; omega) (by simp only [mn]; omega) (by simp only [mx]; omega) ?_
    exact rt rfl
  refine cf (decide_eq_false (by omega)) ?_
  obtain ⟨t1, t2⟩ := tl u (by omega)
  refine .to ((u : Nat) : Int) (by show (u : Int) % 256 = _; omega) ?_
  refine chL (s := LEN8) u rfl (len8_at _ (by omega)) ?_
  refine .same (by simp only [mn]; omega) (by simp only [mx]; omega) ?_
  refine .as ((lg u : Nat) : Int) (by rw [t1]; omega) (by simp only [mn]; omega) (by simp only [mx]; omega) ?_
  exact rt rfl
/-- how many figures -/
def ndN (u : Nat) : Nat := if u < 1000 then 3 else if u < 10000 then 4 else if u < 100000 then 5 else if u < 1000000 then 6 else 7
theorem nd_est (u : Nat) (h1 : 100 ≤ u) (h2 : u < 2097152) : lg u * 78913 / 262144 ≤ 6 ∧ ((10 ^ (lg u * 78913 / 262144) ≤ u ∧ ndN u = lg u * 78913 / 262144 + 1) ∨ (u < 10 ^ (lg u * 78913 / 262144) ∧ ndN u = lg u * 78913 / 262144)) := by
  have hb : ∀ k, 2 ^ k ≤ u → u < 2 ^ (k + 1) → lg u = k + 1 := fun k ha hb => by
    unfold lg
    rw [if_neg (by omega), (Nat.log2_eq_iff (by omega)).2 ⟨ha, hb⟩]
  unfold ndN
  by_cases c7 : u < 128
  · rw [hb 6 (by omega) (by omega)]
    refine ⟨by decide, ?_⟩
    show (10 ^ 2 ≤ u ∧ _ = 2 + 1) ∨ (u < 10 ^ 2 ∧ _ = 2)
    by_cases d : 10 ^ 2 ≤ u
    · exact .inl ⟨d, by (repeat' split) <;> omega⟩
    · exact .inr ⟨by omega, by (repeat' split) <;> omega⟩
  by_cases c8 : u < 256
  · rw [hb 7 (by omega) (by omega)]
    refine ⟨by decide, ?_⟩
    show (10 ^ 2 ≤ u ∧ _ = 2 + 1) ∨ (u < 10 ^ 2 ∧ _ = 2)
    by_cases d : 10 ^ 2 ≤ u
    · exact .inl ⟨d, by (repeat' split) <;> omega⟩
    · exact .inr ⟨by omega, by (repeat' split) <;> omega⟩
  by_cases c9 : u < 512
  · rw [hb 8 (by omega) (by omega)]
    refine ⟨by decide, ?_⟩
    show (10 ^ 2 ≤ u ∧ _ = 2 + 1) ∨ (u < 10 ^ 2 ∧ _ = 2)
    by_cases d : 10 ^ 2 ≤ u
    · exact .inl ⟨d, by (repeat' split) <;> omega⟩
    · exact .inr ⟨by omega, by (repeat' split) <;> omega⟩
  by_cases c10 : u < 1024
  · rw [hb 9 (by omega) (by omega)]
    refine ⟨by decide, ?_⟩
    show (10 ^ 3 ≤ u ∧ _ = 3 + 1) ∨ (u < 10 ^ 3 ∧ _ = 3)
    by_cases d : 10 ^ 3 ≤ u
    · exact .inl ⟨d, by (repeat' split) <;> omega⟩
    · exact .inr ⟨by omega, by (repeat' split) <;> omega⟩
  by_cases c11 : u < 2048
  · rw [hb 10 (by omega) (by omega)]
    refine ⟨by decide, ?_⟩
    show (10 ^ 3 ≤ u ∧ _ = 3 + 1) ∨ (u < 10 ^ 3 ∧ _ = 3)
    by_cases d : 10 ^ 3 ≤ u
    · exact .inl ⟨d, by (repeat' split) <;> omega⟩
    · exact .inr ⟨by omega, by (repeat' split) <;> omega⟩
  by_cases c12 : u < 4096
  · rw [hb 11 (by omega) (by omega)]
    refine ⟨by decide, ?_⟩
    show (10 ^ 3 ≤ u ∧ _ = 3 + 1) ∨ (u < 10 ^ 3 ∧ _ = 3)
    by_cases d : 10 ^ 3 ≤ u
    · exact .inl ⟨d, by (repeat' split) <;> omega⟩
    · exact .inr ⟨by omega, by (repeat' split) <;> omega⟩
  by_cases c13 : u < 8192
  · rw [hb 12 (by omega) (by omega)]
    refine ⟨by decide, ?_⟩
    show (10 ^ 3 ≤ u ∧ _ = 3 + 1) ∨ (u < 10 ^ 3 ∧ _ = 3)
    by_cases d : 10 ^ 3 ≤ u
    · exact .inl ⟨d, by (repeat' split) <;> omega⟩
    · exact .inr ⟨by omega, by (repeat' split) <;> omega⟩
  by_cases c14 : u < 16384
  · rw [hb 13 (by omega) (by omega)]
    refine ⟨by decide, ?_⟩
    show (10 ^ 4 ≤ u ∧ _ = 4 + 1) ∨ (u < 10 ^ 4 ∧ _ = 4)
    by_cases d : 10 ^ 4 ≤ u
    · exact .inl ⟨d, by (repeat' split) <;> omega⟩
    · exact .inr ⟨by omega, by (repeat' split) <;> omega⟩
  by_cases c15 : u < 32768
  · rw [hb 14 (by omega) (by omega)]
    refine ⟨by decide, ?_⟩
    show (10 ^ 4 ≤ u ∧ _ = 4 + 1) ∨ (u < 10 ^ 4 ∧ _ = 4)
    by_cases d : 10 ^ 4 ≤ u
    · exact .inl ⟨d, by (repeat' split) <;> omega⟩
    · exact .inr ⟨by omega, by (repeat' split) <;> omega⟩
  by_cases c16 : u < 65536
  · rw [hb 15 (by omega) (by omega)]
    refine ⟨by decide, ?_⟩
    show (10 ^ 4 ≤ u ∧ _ = 4 + 1) ∨ (u < 10 ^ 4 ∧ _ = 4)
    by_cases d : 10 ^ 4 ≤ u
    · exact .inl ⟨d, by (repeat' split) <;> omega⟩
    · exact .inr ⟨by omega, by (repeat' split) <;> omega⟩
  by_cases c17 : u < 131072
  · rw [hb 16 (by omega) (by omega)]
    refine ⟨by decide, ?_⟩
    show (10 ^ 5 ≤ u ∧ _ = 5 + 1) ∨ (u < 10 ^ 5 ∧ _ = 5)
    by_cases d : 10 ^ 5 ≤ u
    · exact .inl ⟨d, by (repeat' split) <;> omega⟩
    · exact .inr ⟨by omega, by (repeat' split) <;> omega⟩
  by_cases c18 : u < 262144
  · rw [hb 17 (by omega) (by omega)]
    refine ⟨by decide, ?_⟩
    show (10 ^ 5 ≤ u ∧ _ = 5 + 1) ∨ (u < 10 ^ 5 ∧ _ = 5)
    by_cases d : 10 ^ 5 ≤ u
    · exact .inl ⟨d, by (repeat' split) <;> omega⟩
    · exact .inr ⟨by omega, by (repeat' split) <;> omega⟩
  by_cases c19 : u < 524288
  · rw [hb 18 (by omega) (by omega)]
    refine ⟨by decide, ?_⟩
    show (10 ^ 5 ≤ u ∧ _ = 5 + 1) ∨ (u < 10 ^ 5 ∧ _ = 5)
    by_cases d : 10 ^ 5 ≤ u
    · exact .inl ⟨d, by (repeat' split) <;> omega⟩
    · exact .inr ⟨by omega, by (repeat' split) <;> omega⟩
  by_cases c20 : u < 1048576
  · rw [hb 19 (by omega) (by omega)]
    refine ⟨by decide, ?_⟩
    show (10 ^ 6 ≤ u ∧ _ = 6 + 1) ∨ (u < 10 ^ 6 ∧ _ = 6)
    by_cases d : 10 ^ 6 ≤ u
    · exact .inl ⟨d, by (repeat' split) <;> omega⟩
    · exact .inr ⟨by omega, by (repeat' split) <;> omega⟩
  by_cases c21 : u < 2097152
  · rw [hb 20 (by omega) (by omega)]
    refine ⟨by decide, ?_⟩
    show (10 ^ 6 ≤ u ∧ _ = 6 + 1) ∨ (u < 10 ^ 6 ∧ _ = 6)
    by_cases d : 10 ^ 6 ≤ u
    · exact .inl ⟨d, by (repeat' split) <;> omega⟩
    · exact .inr ⟨by omega, by (repeat' split) <;> omega⟩

  omega
set_option maxRecDepth 100000 in
theorem nd_any (u : Nat) (h1 : 100 ≤ u) (h2 : u < 2097152) (w : World) (hw : Laid w) : Calls Tryz.prog 145 ([.int .u64 u] : List Value).toArray w fun e w' => e = .returned (.int .i64 (ndN u : Nat)) ∧ Below w.heap.size w w' := by
  obtain ⟨h3, h4⟩ := nd_est u h1 h2
  have hl : lg u ≤ 21 := lg_lt (k := 21) h2
  refine enterV tab_ok Tryz.func145 rfl Tryz.ntmps145 rfl (St.laid hw) ?_
  refine cv (fun w => len64_any u (by omega) w) ?_
  refine inl (C := ⟨Tryz.prog, tab, _, [], w, _⟩) tab_ok Tryz.func161 rfl Tryz.ntmps161 rfl ?_
  refine .as ((lg u * 78913 : Nat) : Int) (by omega) (by simp only [mn]; omega) (by simp only [mx]; omega) ?_
  refine ⟨by decide, ?_⟩
  refine bk ?_
  have hsh : ((lg u * 78913 : Nat) : Int).fdiv (2 ^ (min (18 : Int).toNat IntKind.i64.bits)) = ((lg u * 78913 / 262144 : Nat) : Int) := shN (k := .i64) 18 262144 rfl (by decide)
  generalize lg u * 78913 / 262144 = d at h3 h4 hsh
  refine ⟨by rw [hsh]; omega, by rw [hsh]; omega, ?_⟩
  refine .mk (.int .u64 (10 ^ d : Nat)) (fun w' hs => ?_) ?_
  · have h := (hs.res (k := 0) rfl : Laid w').f d (by omega)
    rw [hsh, nad_eq, nmu_eq, Int.toNat_natCast]; simpa using h
  refine inl (C := ⟨Tryz.prog, tab, _, [], w, _⟩) tab_ok Tryz.func162 rfl Tryz.ntmps162 rfl ?_
  rcases h4 with ⟨h5, h6⟩ | ⟨h5, h6⟩
  · refine ct (decide_eq_true (by omega)) ?_
    refine bk ?_
    refine .as ((ndN u : Nat) : Int) (by rw [hsh, h6]; omega) (by simp only [mn]; omega) (by simp only [mx]; omega) ?_
    exact rt rfl
  · refine cf (decide_eq_false (by omega)) ?_
    refine bk ?_
    refine .as ((ndN u : Nat) : Int) (by rw [hsh, h6]; omega) (by simp only [mn]; omega) (by simp only [mx]; omega) ?_
    exact rt rfl
theorem beq_list (a b : List UInt8) : ((ByteArray.mk a.toArray).toList == (ByteArray.mk b.toArray).toList) = decide (a = b) := by rw [Bool.eq_iff_iff]; simp
set_option maxRecDepth 100000 in
theorem hasp_any (s p : Bs) (w : World) : Calls Tryz.prog 66 ([VS s, VS p] : List Value).toArray w fun e w' => e = .returned (.bool (List.isPrefixOf p s)) ∧ Below w.heap.size w w' := by
  refine enterV tab_ok Tryz.func66 rfl Tryz.ntmps66 rfl (St.start w) ?_
  refine inl (C := ⟨Tryz.prog, tab, _, [], w, _⟩) tab_ok Tryz.func114 rfl Tryz.ntmps114 rfl ?_
  have hz : ∀ l : Bs, (⟨l.toArray⟩ : ByteArray).size = l.length := fun l => by simp [ByteArray.size]
  have hpre : List.isPrefixOf p s = decide (p.length ≤ s.length ∧ s.take p.length = p) := by
    rw [Bool.eq_iff_iff, List.isPrefixOf_iff_prefix, decide_eq_true_eq, List.prefix_iff_eq_take]
    constructor
    · intro h
      have h2 := congrArg List.length h
      rw [List.length_take] at h2
      exact ⟨by omega, h.symm⟩
    · exact fun h => h.2.symm
  by_cases hl : p.length ≤ s.length
  · have e1 : decide (((⟨s.toArray⟩ : ByteArray).size : Int) ≥ ((⟨p.toArray⟩ : ByteArray).size : Int)) = true := decide_eq_true (by rw [hz, hz]; omega)
    have e2 : (decide (((⟨s.toArray⟩ : ByteArray).size : Int) ≥ ((⟨p.toArray⟩ : ByteArray).size : Int)) == true) = true := by rw [e1]; rfl
    iterate 4 refine ct e2 ?_
    refine slTT p.length hl (by rw [hz]) ?_
    iterate 2 refine ct e2 ?_
    refine ct e1 ?_
    refine bk ?_
    refine rt ?_
    show Value.bool _ = Value.bool _
    rw [beq_list, hpre]
    congr 1
    simp [hl]
  · have e1 : decide (((⟨s.toArray⟩ : ByteArray).size : Int) ≥ ((⟨p.toArray⟩ : ByteArray).size : Int)) = false := decide_eq_false (by rw [hz, hz]; omega)
    iterate 6 refine cf (by rw [e1]; rfl) ?_
    refine cf e1 ?_
    refine bk ?_
    refine rt ?_
    show Value.bool _ = Value.bool _
    rw [hpre]
    simp [hl]
end Go.Proofs.YteamnhpplclmfaaGreatDoor
end
section
namespace Go.Proofs.YteamnhpplclmfaaGreatDoor
open Go.RowKit Go.Sx
set_option linter.unusedVariables false
def SM : Bs := [48, 48, 48, 49, 48, 50, 48, 51, 48, 52, 48, 53, 48, 54, 48, 55, 48, 56, 48, 57, 49, 48, 49, 49, 49, 50, 49, 51, 49, 52, 49, 53, 49, 54, 49, 55, 49, 56, 49, 57, 50, 48, 50, 49, 50, 50, 50, 51, 50, 52, 50, 53, 50, 54, 50, 55, 50, 56, 50, 57, 51, 48, 51, 49, 51, 50, 51, 51, 51, 52, 51, 53, 51, 54, 51, 55, 51, 56, 51, 57, 52, 48, 52, 49, 52, 50, 52, 51, 52, 52, 52, 53, 52, 54, 52, 55, 52, 56, 52, 57, 53, 48, 53, 49, 53, 50, 53, 51, 53, 52, 53, 53, 53, 54, 53, 55, 53, 56, 53, 57, 54, 48, 54, 49, 54, 50, 54, 51, 54, 52, 54, 53, 54, 54, 54, 55, 54, 56, 54, 57, 55, 48, 55, 49, 55, 50, 55, 51, 55, 52, 55, 53, 55, 54, 55, 55, 55, 56, 55, 57, 56, 48, 56, 49, 56, 50, 56, 51, 56, 52, 56, 53, 56, 54, 56, 55, 56, 56, 56, 57, 57, 48, 57, 49, 57, 50, 57, 51, 57, 52, 57, 53, 57, 54, 57, 55, 57, 56, 57, 57]
def DG : Bs := [48, 49, 50, 51, 52, 53, 54, 55, 56, 57, 97, 98, 99, 100, 101, 102, 103, 104, 105, 106, 107, 108, 109, 110, 111, 112, 113, 114, 115, 116, 117, 118, 119, 120, 121, 122]
theorem sm_at (v : Nat) (h : v < 100) : SM[2 * v]? = some (UInt8.ofNat (48 + v / 10)) ∧ SM[2 * v + 1]? = some (UInt8.ofNat (48 + v % 10)) := by
  have : (List.range 100).all (fun v => decide (SM[2 * v]? = some (UInt8.ofNat (48 + v / 10)) ∧ SM[2 * v + 1]? = some (UInt8.ofNat (48 + v % 10)))) = true := by decide +kernel
  exact of_decide_eq_true (List.all_eq_true.1 this v (by simpa using h))
def fg (u k : Nat) : UInt8 := UInt8.ofNat (48 + u / 10 ^ k % 10)
/-- a number's figures -/
def decN (u : Nat) : Bs := if u < 10 then [fg u 0] else if u < 100 then [fg u 1, fg u 0] else if u < 1000 then [fg u 2, fg u 1, fg u 0] else if u < 10000 then [fg u 3, fg u 2, fg u 1, fg u 0] else if u < 100000 then [fg u 4, fg u 3, fg u 2, fg u 1, fg u 0] else if u < 1000000 then [fg u 5, fg u 4, fg u 3, fg u 2, fg u 1, fg u 0] else [fg u 6, fg u 5, fg u 4, fg u 3, fg u 2, fg u 1, fg u 0]
def Z24 : Array Value := (List.replicate 24 (Value.int .u8 0)).toArray
abbrev T24 : Nat := 183
set_option maxRecDepth 100000 in
set_option maxHeartbeats 4000000 in
theorem itoa_any (u : Nat) (hu : u < 2097152) (w : World) (hw : Laid w) : Calls Tryz.prog 101 ([.int .i64 u] : List Value).toArray w fun e w' => e = .returned (VS (decN u)) ∧ Below w.heap.size w w' := by
  refine enterV tab_ok Tryz.func101 rfl Tryz.ntmps101 rfl (St.laid hw) ?_
  refine inl (C := ⟨Tryz.prog, tab, _, [], w, _⟩) tab_ok Tryz.func122 rfl Tryz.ntmps122 rfl ?_
  refine inl (C := ⟨Tryz.prog, tab, _, [], w, _⟩) tab_ok Tryz.func136 rfl Tryz.ntmps136 rfl ?_
  refine ct rfl ?_
  have e0 : decide ((0 : Int) ≤ (u : Int)) = true := decide_eq_true (by omega)
  have e0' : (decide ((0 : Int) ≤ (u : Int)) == true) = true := by rw [e0]; rfl
  iterate 2 refine ct e0' ?_
  refine ct e0 ?_
  by_cases h100 : u < 100
  · refine ct (decide_eq_true (by omega)) ?_
    refine inl (C := ⟨Tryz.prog, tab, _, [], w, _⟩) tab_ok Tryz.func144 rfl Tryz.ntmps144 rfl ?_
    obtain ⟨k1, k2⟩ := sm_at u h100
    by_cases h10 : u < 10
    · refine ct (decide_eq_true (by omega)) ?_
      refine .as ((u + 1 : Nat) : Int) (by omega) (by simp only [mn]; omega) (by simp only [mx]; omega) ?_
      refine slB (s := DG) u (u + 1) (by omega) (by show u + 1 ≤ 36; omega) rfl rfl ?_
      iterate 3 refine bk ?_
      refine rt ?_
      show VS _ = VS _
      congr 2
      unfold decN
      rw [if_pos h10]
      have : (List.range 10).all (fun u => decide (((DG.take (u + 1)).drop u) = [fg u 0])) = true := by decide +kernel
      exact of_decide_eq_true (List.all_eq_true.1 this u (by simpa using h10))
    · refine cf (decide_eq_false (by omega)) ?_
      refine .as ((2 * u : Nat) : Int) (by omega) (by simp only [mn]; omega) (by simp only [mx]; omega) ?_
      refine .as ((2 * u : Nat) : Int) (by omega) (by simp only [mn]; omega) (by simp only [mx]; omega) ?_
      refine .as ((2 * u + 2 : Nat) : Int) (by omega) (by simp only [mn]; omega) (by simp only [mx]; omega) ?_
      refine slB (s := SM) (2 * u) (2 * u + 2) (by omega) (by show 2 * u + 2 ≤ 200; omega) rfl rfl ?_
      iterate 3 refine bk ?_
      refine rt ?_
      show VS _ = VS _
      congr 2
      unfold decN
      rw [if_neg h10, if_pos h100]
      have : (List.range 100).all (fun u => decide (u < 10) || decide (((SM.take (2 * u + 2)).drop (2 * u)) = [fg u 1, fg u 0])) = true := by decide +kernel
      have h := List.all_eq_true.1 this u (by simpa using h100)
      rw [decide_eq_false h10, Bool.false_or] at h
      exact of_decide_eq_true h
  refine cf (decide_eq_false (by omega)) ?_
  intro b5
  refine .same (by simp only [mn]; omega) (by simp only [mx]; omega) ?_
  refine cf (decide_eq_false (by omega)) ?_
  refine cvs (fun w hs => nd_any u (by omega) hu w (hs.res (k := 0) rfl)) ?_
  have nds : (u < 1000 ∧ ndN u = 3) ∨ (1000 ≤ u ∧ u < 10000 ∧ ndN u = 4) ∨ (10000 ≤ u ∧ u < 100000 ∧ ndN u = 5) ∨ (100000 ≤ u ∧ u < 1000000 ∧ ndN u = 6) ∨ (1000000 ≤ u ∧ ndN u = 7) := by
    unfold ndN; (repeat' split) <;> omega
  rcases nds with ⟨h3, e⟩ | ⟨h3, h4, e⟩ | ⟨h3, h4, e⟩ | ⟨h3, h4, e⟩ | ⟨h3, e⟩
  · rw [e]
    refine .as (4 : Int) (by decide) (by decide) (by decide) ?_
    refine ⟨.mk 1 4 24 rfl rfl rfl (by decide) (by decide) (Nat.le_refl _) (by simp) ?_⟩
    refine .on (by decide) ?_
    refine inl (C := ⟨Tryz.prog, tab, _, [], w, _⟩) tab_ok Tryz.func146 rfl Tryz.ntmps146 rfl ?_
    refine lp tab_ok (fun _ : Unit => True) (fun _ => ⟨[(0, .slice (some ⟨b5, 1, none⟩) 3 23), (1, .int .u64 u), (4, .int .i64 3)], [rs laidR, cl b5 Z24 T24], []⟩) (fun _ => 0) () trivial ⟨⟨rfl, rfl, rfl, trivial⟩, .cons (.cons .nil), rfl⟩ ?_
    intro _ _
    refine cf rfl ?_
    refine .same (by simp only [mn]; omega) (by simp only [mx]; omega) ?_
    refine cf rfl ?_
    refine ct rfl ?_
    refine ⟨by omega, by simp only [mx]; omega, by decide, ?_⟩
    refine .as ((2 * (u % 100) : Nat) : Int) (by omega) (by simp only [mn]; omega) (by simp only [mx]; omega) ?_
    refine ⟨by omega, by simp only [mx]; omega, by decide, ?_⟩
    refine dr [rs laidR, dead] 99 (.t 0 (.t 1 (.t 2 (.t 3 (.t 4 (.t 5 (.t 6 (.t 7 (.t 8 (.t 9 (.t 10 (.t 11 (.n 12 (.t 13 (.n 14 .nil))))))))))))))) tab_ok mixed_ok (by kernel_rfl) (.cons (.dead .nil)) ?_
    refine .as (2 : Int) (by decide) (by decide) (by decide) ?_
    refine .as (1 : Int) (by decide) (by decide) (by decide) ?_
    refine .as ((2 * (u % 100) + 1 : Nat) : Int) (by omega) (by simp only [mn]; omega) (by simp only [mx]; omega) ?_
    refine chL (s := SM) (2 * (u % 100) + 1) rfl (sm_at (u % 100) (by omega)).2 ?_
    refine chL (s := SM) (2 * (u % 100)) rfl (sm_at (u % 100) (by omega)).1 ?_
    refine ⟨by decide, by decide, ?_⟩
    refine s1 1 rfl (by show 3 < 24; decide) ?_
    refine ⟨.cons (.dead .nil), ?_⟩
    refine ⟨by decide, by decide, ?_⟩
    refine s1 1 rfl (by show 2 < 24; decide) ?_
    refine ⟨.cons (.dead .nil), ?_⟩
    refine .as (1 : Int) (by decide) (by decide) (by decide) ?_
    refine ct rfl ?_
    refine .as ((48 + u / 100 : Nat) : Int) (by omega) (by simp only [mn]; omega) (by simp only [mx]; omega) ?_
    refine .to (((UInt8.ofNat (48 + u / 100)).toNat : Nat) : Int) (by rw [UInt8.toNat_ofNat']; show ((48 + u / 100 : Nat) : Int) % 256 = _; omega) ?_
    refine ⟨by decide, by decide, ?_⟩
    refine s1 1 rfl (by show 1 < 24; decide) ?_
    refine bk ?_
    refine cf (decide_eq_false (by omega)) ?_
    refine .as (4 : Int) (by decide) (by decide) (by decide) ?_
    refine ⟨.mk 1 4 24 rfl rfl rfl (by decide) (by decide) (Nat.le_refl _) (by simp) ?_⟩
    refine .on (by decide) ?_
    refine semV (v := VS (decN u)) (fun w' hs => rd_str (l := decN u) ?_) ?_
    · have hd : decN u = [UInt8.ofNat (48 + u / 100), UInt8.ofNat (48 + u % 100 / 10), UInt8.ofNat (48 + u % 100 % 10)] := by
        unfold decN
        rw [if_neg (by omega), if_neg h100, if_pos (by omega)]
        unfold fg
        rw [show 48 + u / 10 ^ 2 % 10 = 48 + u / 100 by omega, show 48 + u / 10 ^ 1 % 10 = 48 + u % 100 / 10 by omega, show 48 + u / 10 ^ 0 % 10 = 48 + u % 100 % 10 by omega]
      rw [hd]
      exact Rd.ent hs 1 (n := 3) (o := 1) rfl rfl rfl
    iterate 2 refine bk ?_
    exact rt rfl
  · rw [e]
    refine .as (5 : Int) (by decide) (by decide) (by decide) ?_
    refine ⟨.mk 1 5 24 rfl rfl rfl (by decide) (by decide) (Nat.le_refl _) (by simp) ?_⟩
    refine .on (by decide) ?_
    refine inl (C := ⟨Tryz.prog, tab, _, [], w, _⟩) tab_ok Tryz.func146 rfl Tryz.ntmps146 rfl ?_
    refine lp tab_ok (fun _ : Unit => True) (fun _ => ⟨[(0, .slice (some ⟨b5, 1, none⟩) 4 23), (1, .int .u64 u), (4, .int .i64 4)], [rs laidR, cl b5 Z24 T24], []⟩) (fun _ => 0) () trivial ⟨⟨rfl, rfl, rfl, trivial⟩, .cons (.cons .nil), rfl⟩ ?_
    intro _ _
    refine cf rfl ?_
    refine .same (by simp only [mn]; omega) (by simp only [mx]; omega) ?_
    refine ct rfl ?_
    refine ⟨by omega, by simp only [mx]; omega, by decide, ?_⟩
    refine ⟨by omega, by simp only [mx]; omega, by decide, ?_⟩
    refine ⟨by omega, by simp only [mx]; omega, by decide, ?_⟩
    refine .as ((2 * (u % 10000 / 100) : Nat) : Int) (by omega) (by simp only [mn]; omega) (by simp only [mx]; omega) ?_
    refine ⟨by omega, by simp only [mx]; omega, by decide, ?_⟩
    refine .as ((2 * (u % 10000 % 100) : Nat) : Int) (by omega) (by simp only [mn]; omega) (by simp only [mx]; omega) ?_
    refine dr [rs laidR, dead] 99 (.t 0 (.t 1 (.t 2 (.t 3 (.t 4 (.t 5 (.t 6 (.t 7 (.t 8 (.t 9 (.t 10 (.t 11 (.n 12 (.t 13 (.n 14 .nil))))))))))))))) tab_ok mixed_ok (by kernel_rfl) (.cons (.dead .nil)) ?_
    refine .as (3 : Int) (by decide) (by decide) (by decide) ?_
    refine .as (2 : Int) (by decide) (by decide) (by decide) ?_
    refine .as ((2 * (u % 10000 % 100) + 1 : Nat) : Int) (by omega) (by simp only [mn]; omega) (by simp only [mx]; omega) ?_
    refine chL (s := SM) (2 * (u % 10000 % 100) + 1) rfl (sm_at (u % 10000 % 100) (by omega)).2 ?_
    refine chL (s := SM) (2 * (u % 10000 % 100)) rfl (sm_at (u % 10000 % 100) (by omega)).1 ?_
    refine ⟨by decide, by decide, ?_⟩
    refine s1 1 rfl (by show 4 < 24; decide) ?_
    refine ⟨.cons (.dead .nil), ?_⟩
    refine ⟨by decide, by decide, ?_⟩
    refine s1 1 rfl (by show 3 < 24; decide) ?_
    refine ⟨.cons (.dead .nil), ?_⟩
    refine dr [rs laidR, dead] 99 (.t 0 (.t 1 (.t 2 (.t 3 (.t 4 (.t 5 (.t 6 (.t 7 (.t 8 (.t 9 (.t 10 (.t 11 (.n 12 (.t 13 (.n 14 .nil))))))))))))))) tab_ok mixed_ok (by kernel_rfl) (.cons (.dead .nil)) ?_
    refine .as (1 : Int) (by decide) (by decide) (by decide) ?_
    refine .as (0 : Int) (by decide) (by decide) (by decide) ?_
    refine .as ((2 * (u % 10000 / 100) + 1 : Nat) : Int) (by omega) (by simp only [mn]; omega) (by simp only [mx]; omega) ?_
    refine chL (s := SM) (2 * (u % 10000 / 100) + 1) rfl (sm_at (u % 10000 / 100) (by omega)).2 ?_
    refine chL (s := SM) (2 * (u % 10000 / 100)) rfl (sm_at (u % 10000 / 100) (by omega)).1 ?_
    refine ⟨by decide, by decide, ?_⟩
    refine s1 1 rfl (by show 2 < 24; decide) ?_
    refine ⟨.cons (.dead .nil), ?_⟩
    refine ⟨by decide, by decide, ?_⟩
    refine s1 1 rfl (by show 1 < 24; decide) ?_
    refine ⟨.cons (.dead .nil), ?_⟩
    refine .as (0 : Int) (by decide) (by decide) (by decide) ?_
    refine cf rfl ?_
    refine cf rfl ?_
    refine bk ?_
    refine cf (decide_eq_false (by omega)) ?_
    refine .as (5 : Int) (by decide) (by decide) (by decide) ?_
    refine ⟨.mk 1 5 24 rfl rfl rfl (by decide) (by decide) (Nat.le_refl _) (by simp) ?_⟩
    refine .on (by decide) ?_
    refine semV (v := VS (decN u)) (fun w' hs => rd_str (l := decN u) ?_) ?_
    · have hd : decN u = [UInt8.ofNat (48 + u % 10000 / 100 / 10), UInt8.ofNat (48 + u % 10000 / 100 % 10), UInt8.ofNat (48 + u % 10000 % 100 / 10), UInt8.ofNat (48 + u % 10000 % 100 % 10)] := by
        unfold decN
        rw [if_neg (by omega), if_neg h100, if_neg (by omega), if_pos (by omega)]
        unfold fg
        rw [show 48 + u / 10 ^ 3 % 10 = 48 + u % 10000 / 100 / 10 by omega, show 48 + u / 10 ^ 2 % 10 = 48 + u % 10000 / 100 % 10 by omega, show 48 + u / 10 ^ 1 % 10 = 48 + u % 10000 % 100 / 10 by omega, show 48 + u / 10 ^ 0 % 10 = 48 + u % 10000 % 100 % 10 by omega]
      rw [hd]
      exact Rd.ent hs 1 (n := 4) (o := 1) rfl rfl rfl
    iterate 2 refine bk ?_
    exact rt rfl
  · rw [e]
    refine .as (6 : Int) (by decide) (by decide) (by decide) ?_
    refine ⟨.mk 1 6 24 rfl rfl rfl (by decide) (by decide) (Nat.le_refl _) (by simp) ?_⟩
    refine .on (by decide) ?_
    refine inl (C := ⟨Tryz.prog, tab, _, [], w, _⟩) tab_ok Tryz.func146 rfl Tryz.ntmps146 rfl ?_
    refine lp tab_ok (fun _ : Unit => True) (fun _ => ⟨[(0, .slice (some ⟨b5, 1, none⟩) 5 23), (1, .int .u64 u), (4, .int .i64 5)], [rs laidR, cl b5 Z24 T24], []⟩) (fun _ => 0) () trivial ⟨⟨rfl, rfl, rfl, trivial⟩, .cons (.cons .nil), rfl⟩ ?_
    intro _ _
    refine cf rfl ?_
    refine .same (by simp only [mn]; omega) (by simp only [mx]; omega) ?_
    refine ct rfl ?_
    refine ⟨by omega, by simp only [mx]; omega, by decide, ?_⟩
    refine ⟨by omega, by simp only [mx]; omega, by decide, ?_⟩
    refine ⟨by omega, by simp only [mx]; omega, by decide, ?_⟩
    refine .as ((2 * (u % 10000 / 100) : Nat) : Int) (by omega) (by simp only [mn]; omega) (by simp only [mx]; omega) ?_
    refine ⟨by omega, by simp only [mx]; omega, by decide, ?_⟩
    refine .as ((2 * (u % 10000 % 100) : Nat) : Int) (by omega) (by simp only [mn]; omega) (by simp only [mx]; omega) ?_
    refine dr [rs laidR, dead] 99 (.t 0 (.t 1 (.t 2 (.t 3 (.t 4 (.t 5 (.t 6 (.t 7 (.t 8 (.t 9 (.t 10 (.t 11 (.n 12 (.t 13 (.n 14 .nil))))))))))))))) tab_ok mixed_ok (by kernel_rfl) (.cons (.dead .nil)) ?_
    refine .as (4 : Int) (by decide) (by decide) (by decide) ?_
    refine .as (3 : Int) (by decide) (by decide) (by decide) ?_
    refine .as ((2 * (u % 10000 % 100) + 1 : Nat) : Int) (by omega) (by simp only [mn]; omega) (by simp only [mx]; omega) ?_
    refine chL (s := SM) (2 * (u % 10000 % 100) + 1) rfl (sm_at (u % 10000 % 100) (by omega)).2 ?_
    refine chL (s := SM) (2 * (u % 10000 % 100)) rfl (sm_at (u % 10000 % 100) (by omega)).1 ?_
    refine ⟨by decide, by decide, ?_⟩
    refine s1 1 rfl (by show 5 < 24; decide) ?_
    refine ⟨.cons (.dead .nil), ?_⟩
    refine ⟨by decide, by decide, ?_⟩
    refine s1 1 rfl (by show 4 < 24; decide) ?_
    refine ⟨.cons (.dead .nil), ?_⟩
    refine dr [rs laidR, dead] 99 (.t 0 (.t 1 (.t 2 (.t 3 (.t 4 (.t 5 (.t 6 (.t 7 (.t 8 (.t 9 (.t 10 (.t 11 (.n 12 (.t 13 (.n 14 .nil))))))))))))))) tab_ok mixed_ok (by kernel_rfl) (.cons (.dead .nil)) ?_
    refine .as (2 : Int) (by decide) (by decide) (by decide) ?_
    refine .as (1 : Int) (by decide) (by decide) (by decide) ?_
    refine .as ((2 * (u % 10000 / 100) + 1 : Nat) : Int) (by omega) (by simp only [mn]; omega) (by simp only [mx]; omega) ?_
    refine chL (s := SM) (2 * (u % 10000 / 100) + 1) rfl (sm_at (u % 10000 / 100) (by omega)).2 ?_
    refine chL (s := SM) (2 * (u % 10000 / 100)) rfl (sm_at (u % 10000 / 100) (by omega)).1 ?_
    refine ⟨by decide, by decide, ?_⟩
    refine s1 1 rfl (by show 3 < 24; decide) ?_
    refine ⟨.cons (.dead .nil), ?_⟩
    refine ⟨by decide, by decide, ?_⟩
    refine s1 1 rfl (by show 2 < 24; decide) ?_
    refine ⟨.cons (.dead .nil), ?_⟩
    refine .as (1 : Int) (by decide) (by decide) (by decide) ?_
    refine cf rfl ?_
    refine ct rfl ?_
    refine .as ((48 + u / 10000 : Nat) : Int) (by omega) (by simp only [mn]; omega) (by simp only [mx]; omega) ?_
    refine .to (((UInt8.ofNat (48 + u / 10000)).toNat : Nat) : Int) (by rw [UInt8.toNat_ofNat']; show ((48 + u / 10000 : Nat) : Int) % 256 = _; omega) ?_
    refine ⟨by decide, by decide, ?_⟩
    refine s1 1 rfl (by show 1 < 24; decide) ?_
    refine bk ?_
    refine cf (decide_eq_false (by omega)) ?_
    refine .as (6 : Int) (by decide) (by decide) (by decide) ?_
    refine ⟨.mk 1 6 24 rfl rfl rfl (by decide) (by decide) (Nat.le_refl _) (by simp) ?_⟩
    refine .on (by decide) ?_
    refine semV (v := VS (decN u)) (fun w' hs => rd_str (l := decN u) ?_) ?_
    · have hd : decN u = [UInt8.ofNat (48 + u / 10000), UInt8.ofNat (48 + u % 10000 / 100 / 10), UInt8.ofNat (48 + u % 10000 / 100 % 10), UInt8.ofNat (48 + u % 10000 % 100 / 10), UInt8.ofNat (48 + u % 10000 % 100 % 10)] := by
        unfold decN
        rw [if_neg (by omega), if_neg h100, if_neg (by omega), if_neg (by omega), if_pos (by omega)]
        unfold fg
        rw [show 48 + u / 10 ^ 4 % 10 = 48 + u / 10000 by omega, show 48 + u / 10 ^ 3 % 10 = 48 + u % 10000 / 100 / 10 by omega, show 48 + u / 10 ^ 2 % 10 = 48 + u % 10000 / 100 % 10 by omega, show 48 + u / 10 ^ 1 % 10 = 48 + u % 10000 % 100 / 10 by omega, show 48 + u / 10 ^ 0 % 10 = 48 + u % 10000 % 100 % 10 by omega]
      rw [hd]
      exact Rd.ent hs 1 (n := 5) (o := 1) rfl rfl rfl
    iterate 2 refine bk ?_
    exact rt rfl
  · rw [e]
    refine .as (7 : Int) (by decide) (by decide) (by decide) ?_
    refine ⟨.mk 1 7 24 rfl rfl rfl (by decide) (by decide) (Nat.le_refl _) (by simp) ?_⟩
    refine .on (by decide) ?_
    refine inl (C := ⟨Tryz.prog, tab, _, [], w, _⟩) tab_ok Tryz.func146 rfl Tryz.ntmps146 rfl ?_
    refine lp tab_ok (fun _ : Unit => True) (fun _ => ⟨[(0, .slice (some ⟨b5, 1, none⟩) 6 23), (1, .int .u64 u), (4, .int .i64 6)], [rs laidR, cl b5 Z24 T24], []⟩) (fun _ => 0) () trivial ⟨⟨rfl, rfl, rfl, trivial⟩, .cons (.cons .nil), rfl⟩ ?_
    intro _ _
    refine cf rfl ?_
    refine .same (by simp only [mn]; omega) (by simp only [mx]; omega) ?_
    refine ct rfl ?_
    refine ⟨by omega, by simp only [mx]; omega, by decide, ?_⟩
    refine ⟨by omega, by simp only [mx]; omega, by decide, ?_⟩
    refine ⟨by omega, by simp only [mx]; omega, by decide, ?_⟩
    refine .as ((2 * (u % 10000 / 100) : Nat) : Int) (by omega) (by simp only [mn]; omega) (by simp only [mx]; omega) ?_
    refine ⟨by omega, by simp only [mx]; omega, by decide, ?_⟩
    refine .as ((2 * (u % 10000 % 100) : Nat) : Int) (by omega) (by simp only [mn]; omega) (by simp only [mx]; omega) ?_
    refine dr [rs laidR, dead] 99 (.t 0 (.t 1 (.t 2 (.t 3 (.t 4 (.t 5 (.t 6 (.t 7 (.t 8 (.t 9 (.t 10 (.t 11 (.n 12 (.t 13 (.n 14 .nil))))))))))))))) tab_ok mixed_ok (by kernel_rfl) (.cons (.dead .nil)) ?_
    refine .as (5 : Int) (by decide) (by decide) (by decide) ?_
    refine .as (4 : Int) (by decide) (by decide) (by decide) ?_
    refine .as ((2 * (u % 10000 % 100) + 1 : Nat) : Int) (by omega) (by simp only [mn]; omega) (by simp only [mx]; omega) ?_
    refine chL (s := SM) (2 * (u % 10000 % 100) + 1) rfl (sm_at (u % 10000 % 100) (by omega)).2 ?_
    refine chL (s := SM) (2 * (u % 10000 % 100)) rfl (sm_at (u % 10000 % 100) (by omega)).1 ?_
    refine ⟨by decide, by decide, ?_⟩
    refine s1 1 rfl (by show 6 < 24; decide) ?_
    refine ⟨.cons (.dead .nil), ?_⟩
    refine ⟨by decide, by decide, ?_⟩
    refine s1 1 rfl (by show 5 < 24; decide) ?_
    refine ⟨.cons (.dead .nil), ?_⟩
    refine dr [rs laidR, dead] 99 (.t 0 (.t 1 (.t 2 (.t 3 (.t 4 (.t 5 (.t 6 (.t 7 (.t 8 (.t 9 (.t 10 (.t 11 (.n 12 (.t 13 (.n 14 .nil))))))))))))))) tab_ok mixed_ok (by kernel_rfl) (.cons (.dead .nil)) ?_
    refine .as (3 : Int) (by decide) (by decide) (by decide) ?_
    refine .as (2 : Int) (by decide) (by decide) (by decide) ?_
    refine .as ((2 * (u % 10000 / 100) + 1 : Nat) : Int) (by omega) (by simp only [mn]; omega) (by simp only [mx]; omega) ?_
    refine chL (s := SM) (2 * (u % 10000 / 100) + 1) rfl (sm_at (u % 10000 / 100) (by omega)).2 ?_
    refine chL (s := SM) (2 * (u % 10000 / 100)) rfl (sm_at (u % 10000 / 100) (by omega)).1 ?_
    refine ⟨by decide, by decide, ?_⟩
    refine s1 1 rfl (by show 4 < 24; decide) ?_
    refine ⟨.cons (.dead .nil), ?_⟩
    refine ⟨by decide, by decide, ?_⟩
    refine s1 1 rfl (by show 3 < 24; decide) ?_
    refine ⟨.cons (.dead .nil), ?_⟩
    refine .as (2 : Int) (by decide) (by decide) (by decide) ?_
    refine ct rfl ?_
    refine ⟨by omega, by simp only [mx]; omega, by decide, ?_⟩
    refine .as ((2 * (u / 10000 % 100) : Nat) : Int) (by omega) (by simp only [mn]; omega) (by simp only [mx]; omega) ?_
    refine ⟨by omega, by simp only [mx]; omega, by decide, ?_⟩
    refine dr [rs laidR, dead] 99 (.t 0 (.t 1 (.t 2 (.t 3 (.t 4 (.t 5 (.t 6 (.t 7 (.t 8 (.t 9 (.t 10 (.t 11 (.n 12 (.t 13 (.n 14 .nil))))))))))))))) tab_ok mixed_ok (by kernel_rfl) (.cons (.dead .nil)) ?_
    refine .as (1 : Int) (by decide) (by decide) (by decide) ?_
    refine .as (0 : Int) (by decide) (by decide) (by decide) ?_
    refine .as ((2 * (u / 10000 % 100) + 1 : Nat) : Int) (by omega) (by simp only [mn]; omega) (by simp only [mx]; omega) ?_
    refine chL (s := SM) (2 * (u / 10000 % 100) + 1) rfl (sm_at (u / 10000 % 100) (by omega)).2 ?_
    refine chL (s := SM) (2 * (u / 10000 % 100)) rfl (sm_at (u / 10000 % 100) (by omega)).1 ?_
    refine ⟨by decide, by decide, ?_⟩
    refine s1 1 rfl (by show 2 < 24; decide) ?_
    refine ⟨.cons (.dead .nil), ?_⟩
    refine ⟨by decide, by decide, ?_⟩
    refine s1 1 rfl (by show 1 < 24; decide) ?_
    refine ⟨.cons (.dead .nil), ?_⟩
    refine .as (0 : Int) (by decide) (by decide) (by decide) ?_
    refine cf rfl ?_
    refine bk ?_
    refine cf (decide_eq_false (by omega)) ?_
    refine .as (7 : Int) (by decide) (by decide) (by decide) ?_
    refine ⟨.mk 1 7 24 rfl rfl rfl (by decide) (by decide) (Nat.le_refl _) (by simp) ?_⟩
    refine .on (by decide) ?_
    refine semV (v := VS (decN u)) (fun w' hs => rd_str (l := decN u) ?_) ?_
    · have hd : decN u = [UInt8.ofNat (48 + u / 10000 % 100 / 10), UInt8.ofNat (48 + u / 10000 % 100 % 10), UInt8.ofNat (48 + u % 10000 / 100 / 10), UInt8.ofNat (48 + u % 10000 / 100 % 10), UInt8.ofNat (48 + u % 10000 % 100 / 10), UInt8.ofNat (48 + u % 10000 % 100 % 10)] := by
        unfold decN
        rw [if_neg (by omega), if_neg h100, if_neg (by omega), if_neg (by omega), if_neg (by omega), if_pos (by omega)]
        unfold fg
        rw [show 48 + u / 10 ^ 5 % 10 = 48 + u / 10000 % 100 / 10 by omega, show 48 + u / 10 ^ 4 % 10 = 48 + u / 10000 % 100 % 10 by omega, show 48 + u / 10 ^ 3 % 10 = 48 + u % 10000 / 100 / 10 by omega, show 48 + u / 10 ^ 2 % 10 = 48 + u % 10000 / 100 % 10 by omega, show 48 + u / 10 ^ 1 % 10 = 48 + u % 10000 % 100 / 10 by omega, show 48 + u / 10 ^ 0 % 10 = 48 + u % 10000 % 100 % 10 by omega]
      rw [hd]
      exact Rd.ent hs 1 (n := 6) (o := 1) rfl rfl rfl
    iterate 2 refine bk ?_
    exact rt rfl
  · rw [e]
    refine .as (8 : Int) (by decide) (by decide) (by decide) ?_
    refine ⟨.mk 1 8 24 rfl rfl rfl (by decide) (by decide) (Nat.le_refl _) (by simp) ?_⟩
    refine .on (by decide) ?_
    refine inl (C := ⟨Tryz.prog, tab, _, [], w, _⟩) tab_ok Tryz.func146 rfl Tryz.ntmps146 rfl ?_
    refine lp tab_ok (fun _ : Unit => True) (fun _ => ⟨[(0, .slice (some ⟨b5, 1, none⟩) 7 23), (1, .int .u64 u), (4, .int .i64 7)], [rs laidR, cl b5 Z24 T24], []⟩) (fun _ => 0) () trivial ⟨⟨rfl, rfl, rfl, trivial⟩, .cons (.cons .nil), rfl⟩ ?_
    intro _ _
    refine cf rfl ?_
    refine .same (by simp only [mn]; omega) (by simp only [mx]; omega) ?_
    refine ct rfl ?_
    refine ⟨by omega, by simp only [mx]; omega, by decide, ?_⟩
    refine ⟨by omega, by simp only [mx]; omega, by decide, ?_⟩
    refine ⟨by omega, by simp only [mx]; omega, by decide, ?_⟩
    refine .as ((2 * (u % 10000 / 100) : Nat) : Int) (by omega) (by simp only [mn]; omega) (by simp only [mx]; omega) ?_
    refine ⟨by omega, by simp only [mx]; omega, by decide, ?_⟩
    refine .as ((2 * (u % 10000 % 100) : Nat) : Int) (by omega) (by simp only [mn]; omega) (by simp only [mx]; omega) ?_
    refine dr [rs laidR, dead] 99 (.t 0 (.t 1 (.t 2 (.t 3 (.t 4 (.t 5 (.t 6 (.t 7 (.t 8 (.t 9 (.t 10 (.t 11 (.n 12 (.t 13 (.n 14 .nil))))))))))))))) tab_ok mixed_ok (by kernel_rfl) (.cons (.dead .nil)) ?_
    refine .as (6 : Int) (by decide) (by decide) (by decide) ?_
    refine .as (5 : Int) (by decide) (by decide) (by decide) ?_
    refine .as ((2 * (u % 10000 % 100) + 1 : Nat) : Int) (by omega) (by simp only [mn]; omega) (by simp only [mx]; omega) ?_
    refine chL (s := SM) (2 * (u % 10000 % 100) + 1) rfl (sm_at (u % 10000 % 100) (by omega)).2 ?_
    refine chL (s := SM) (2 * (u % 10000 % 100)) rfl (sm_at (u % 10000 % 100) (by omega)).1 ?_
    refine ⟨by decide, by decide, ?_⟩
    refine s1 1 rfl (by show 7 < 24; decide) ?_
    refine ⟨.cons (.dead .nil), ?_⟩
    refine ⟨by decide, by decide, ?_⟩
    refine s1 1 rfl (by show 6 < 24; decide) ?_
    refine ⟨.cons (.dead .nil), ?_⟩
    refine dr [rs laidR, dead] 99 (.t 0 (.t 1 (.t 2 (.t 3 (.t 4 (.t 5 (.t 6 (.t 7 (.t 8 (.t 9 (.t 10 (.t 11 (.n 12 (.t 13 (.n 14 .nil))))))))))))))) tab_ok mixed_ok (by kernel_rfl) (.cons (.dead .nil)) ?_
    refine .as (4 : Int) (by decide) (by decide) (by decide) ?_
    refine .as (3 : Int) (by decide) (by decide) (by decide) ?_
    refine .as ((2 * (u % 10000 / 100) + 1 : Nat) : Int) (by omega) (by simp only [mn]; omega) (by simp only [mx]; omega) ?_
    refine chL (s := SM) (2 * (u % 10000 / 100) + 1) rfl (sm_at (u % 10000 / 100) (by omega)).2 ?_
    refine chL (s := SM) (2 * (u % 10000 / 100)) rfl (sm_at (u % 10000 / 100) (by omega)).1 ?_
    refine ⟨by decide, by decide, ?_⟩
    refine s1 1 rfl (by show 5 < 24; decide) ?_
    refine ⟨.cons (.dead .nil), ?_⟩
    refine ⟨by decide, by decide, ?_⟩
    refine s1 1 rfl (by show 4 < 24; decide) ?_
    refine ⟨.cons (.dead .nil), ?_⟩
    refine .as (3 : Int) (by decide) (by decide) (by decide) ?_
    refine ct rfl ?_
    refine ⟨by omega, by simp only [mx]; omega, by decide, ?_⟩
    refine .as ((2 * (u / 10000 % 100) : Nat) : Int) (by omega) (by simp only [mn]; omega) (by simp only [mx]; omega) ?_
    refine ⟨by omega, by simp only [mx]; omega, by decide, ?_⟩
    refine dr [rs laidR, dead] 99 (.t 0 (.t 1 (.t 2 (.t 3 (.t 4 (.t 5 (.t 6 (.t 7 (.t 8 (.t 9 (.t 10 (.t 11 (.n 12 (.t 13 (.n 14 .nil))))))))))))))) tab_ok mixed_ok (by kernel_rfl) (.cons (.dead .nil)) ?_
    refine .as (2 : Int) (by decide) (by decide) (by decide) ?_
    refine .as (1 : Int) (by decide) (by decide) (by decide) ?_
    refine .as ((2 * (u / 10000 % 100) + 1 : Nat) : Int) (by omega) (by simp only [mn]; omega) (by simp only [mx]; omega) ?_
    refine chL (s := SM) (2 * (u / 10000 % 100) + 1) rfl (sm_at (u / 10000 % 100) (by omega)).2 ?_
    refine chL (s := SM) (2 * (u / 10000 % 100)) rfl (sm_at (u / 10000 % 100) (by omega)).1 ?_
    refine ⟨by decide, by decide, ?_⟩
    refine s1 1 rfl (by show 3 < 24; decide) ?_
    refine ⟨.cons (.dead .nil), ?_⟩
    refine ⟨by decide, by decide, ?_⟩
    refine s1 1 rfl (by show 2 < 24; decide) ?_
    refine ⟨.cons (.dead .nil), ?_⟩
    refine .as (1 : Int) (by decide) (by decide) (by decide) ?_
    refine ct rfl ?_
    refine .as ((48 + u / 10000 / 100 : Nat) : Int) (by omega) (by simp only [mn]; omega) (by simp only [mx]; omega) ?_
    refine .to (((UInt8.ofNat (48 + u / 10000 / 100)).toNat : Nat) : Int) (by rw [UInt8.toNat_ofNat']; show ((48 + u / 10000 / 100 : Nat) : Int) % 256 = _; omega) ?_
    refine ⟨by decide, by decide, ?_⟩
    refine s1 1 rfl (by show 1 < 24; decide) ?_
    refine bk ?_
    refine cf (decide_eq_false (by omega)) ?_
    refine .as (8 : Int) (by decide) (by decide) (by decide) ?_
    refine ⟨.mk 1 8 24 rfl rfl rfl (by decide) (by decide) (Nat.le_refl _) (by simp) ?_⟩
    refine .on (by decide) ?_
    refine semV (v := VS (decN u)) (fun w' hs => rd_str (l := decN u) ?_) ?_
    · have hd : decN u = [UInt8.ofNat (48 + u / 10000 / 100), UInt8.ofNat (48 + u / 10000 % 100 / 10), UInt8.ofNat (48 + u / 10000 % 100 % 10), UInt8.ofNat (48 + u % 10000 / 100 / 10), UInt8.ofNat (48 + u % 10000 / 100 % 10), UInt8.ofNat (48 + u % 10000 % 100 / 10), UInt8.ofNat (48 + u % 10000 % 100 % 10)] := by
        unfold decN
        rw [if_neg (by omega), if_neg h100, if_neg (by omega), if_neg (by omega), if_neg (by omega), if_neg (by omega)]
        unfold fg
        rw [show 48 + u / 10 ^ 6 % 10 = 48 + u / 10000 / 100 by omega, show 48 + u / 10 ^ 5 % 10 = 48 + u / 10000 % 100 / 10 by omega, show 48 + u / 10 ^ 4 % 10 = 48 + u / 10000 % 100 % 10 by omega, show 48 + u / 10 ^ 3 % 10 = 48 + u % 10000 / 100 / 10 by omega, show 48 + u / 10 ^ 2 % 10 = 48 + u % 10000 / 100 % 10 by omega, show 48 + u / 10 ^ 1 % 10 = 48 + u % 10000 % 100 / 10 by omega, show 48 + u / 10 ^ 0 % 10 = 48 + u % 10000 % 100 % 10 by omega]
      rw [hd]
      exact Rd.ent hs 1 (n := 7) (o := 1) rfl rfl rfl
    iterate 2 refine bk ?_
    exact rt rfl
end Go.Proofs.YteamnhpplclmfaaGreatDoor
end
section
namespace Go.Proofs.YteamnhpplclmfaaGreatDoor
open Go.RowKit Go.Sx
set_option linter.unusedVariables false
def SP128 : Bs := List.replicate 128 32
def DA128 : Bs := List.replicate 128 45
def ZE64 : Bs := List.replicate 64 48
set_option maxRecDepth 100000 in
set_option maxHeartbeats 1000000 in
theorem mul64_any (c : Nat) (hc : c < 4294967296) (w : World) : Calls Tryz.prog 138 ([.int .u64 1, .int .u64 c] : List Value).toArray w fun e w' => e = .returned (.tuple #[.int .u64 0, .int .u64 c]) ∧ Below w.heap.size w w' := by
  have a1 : bitI .and .u64 1 4294967295 = 1 := by decide +kernel
  have ac : bitI .and .u64 (c : Int) 4294967295 = (c : Int) := by
    show IntKind.u64.wrap ((BitVec.ofInt 64 (c : Int) &&& BitVec.ofInt 64 ((4294967295 : Nat) : Int)).toNat : Int) = _
    simp only [BitVec.ofInt_natCast, BitVec.toNat_and, BitVec.toNat_ofNat]
    rw [Nat.mod_eq_of_lt (by omega), Nat.mod_eq_of_lt (by omega), show (4294967295 : Nat) = 2 ^ 32 - 1 from rfl, Nat.and_two_pow_sub_one_eq_mod, Nat.mod_eq_of_lt (by omega)]
    show ((c : Nat) : Int) % 18446744073709551616 = _; omega
  have a0 : bitI .and .u64 0 4294967295 = 0 := by decide +kernel
  have s1' : (1 : Int).fdiv (2 ^ (min (32 : Int).toNat IntKind.u64.bits)) = 0 := by decide +kernel
  have s0 : (0 : Int).fdiv (2 ^ (min (32 : Int).toNat IntKind.u64.bits)) = 0 := by decide +kernel
  have sc : (c : Int).fdiv (2 ^ (min (32 : Int).toNat IntKind.u64.bits)) = 0 := by
    have := shN (k := .u64) (c := c) 32 4294967296 rfl (by decide)
    rw [Nat.div_eq_of_lt hc] at this; exact this
  refine enterV tab_ok Tryz.func138 rfl Tryz.ntmps138 rfl (St.start w) ?_
  refine ⟨by decide, ?_⟩
  refine ⟨by decide, ?_⟩
  refine .as (c : Int) (by rw [a1, ac]; omega) (by simp only [mn]; omega) (by simp only [mx]; omega) ?_
  refine .as (0 : Int) (by rw [s1']; omega) (by decide) (by decide) ?_
  refine ⟨by decide, ?_⟩
  refine .as (0 : Int) (by rw [sc]; omega) (by decide) (by decide) ?_
  refine ⟨by decide, ?_⟩
  refine .as (0 : Int) (by rw [a1, sc]; omega) (by decide) (by decide) ?_
  refine .as (0 : Int) (by rw [a0]; omega) (by decide) (by decide) ?_
  refine .as (0 : Int) (by rw [s1', sc]; omega) (by decide) (by decide) ?_
  refine .as (0 : Int) (by rw [s0]; omega) (by decide) (by decide) ?_
  refine ⟨by decide, ?_⟩
  refine .as (0 : Int) (by rw [s0]; omega) (by decide) (by decide) ?_
  refine .as (c : Int) (by omega) (by simp only [mn]; omega) (by simp only [mx]; omega) ?_
  exact rt rfl
set_option maxRecDepth 100000 in
set_option maxHeartbeats 1000000 in
theorem repeat_any (c : Nat) (hc : c ≤ 8) (w : World) : Calls Tryz.prog 102 ([VS [48], .int .i64 c] : List Value).toArray w fun e w' => e = .returned (VS (List.replicate c 48)) ∧ Below w.heap.size w w' := by
  refine enterV tab_ok Tryz.func102 rfl Tryz.ntmps102 rfl (St.start w) ?_
  by_cases h0 : c = 0
  · refine ct (by rw [h0]; rfl) ?_
    subst h0
    exact rt rfl
  refine cf (by rw [beq_eq_false_iff_ne]; omega) ?_
  by_cases h1 : c = 1
  · refine ct (by rw [h1]; rfl) ?_
    subst h1
    exact rt rfl
  refine cf (by rw [beq_eq_false_iff_ne]; omega) ?_
  refine cf (decide_eq_false (by omega)) ?_
  refine .as (1 : Int) (by decide) (by decide) (by decide) ?_
  refine .same (by simp only [mn]; omega) (by simp only [mx]; omega) ?_
  refine inl (C := ⟨Tryz.prog, tab, _, [], w, _⟩) tab_ok Tryz.func123 rfl Tryz.ntmps123 rfl ?_
  refine cf rfl ?_
  refine cv (fun w => mul64_any c (by omega) w) ?_
  refine bk ?_
  refine ct rfl ?_
  refine ct rfl ?_
  refine cf rfl ?_
  refine cf (decide_eq_false (by omega)) ?_
  refine .same (by simp only [mn]; omega) (by simp only [mx]; omega) ?_
  refine cf rfl ?_
  refine chL (s := [48]) 0 rfl rfl ?_
  refine cf rfl ?_
  refine cf rfl ?_
  refine ct rfl ?_
  refine ct rfl ?_
  have e1 : decide ((c : Int) ≤ 128) = true := decide_eq_true (by omega)
  have e2 : (decide ((c : Int) ≤ 128) == true) = true := by rw [e1]; rfl
  have e3 : decide ((c : Int) ≤ 64) = true := decide_eq_true (by omega)
  have e4 : (decide ((c : Int) ≤ 64) == true) = true := by rw [e3]; rfl
  iterate 2 refine ct e2 ?_
  refine cv (v := .bool false) (fun w => hasp_any SP128 [48] w) ?_
  refine ct e1 ?_
  refine cf rfl ?_
  iterate 2 refine ct e2 ?_
  refine cv (v := .bool false) (fun w => hasp_any DA128 [48] w) ?_
  refine ct e1 ?_
  refine cf rfl ?_
  iterate 2 refine ct e4 ?_
  refine cv (v := .bool true) (fun w => hasp_any ZE64 [48] w) ?_
  refine ct e3 ?_
  refine ct rfl ?_
  refine slTT (s := ZE64) c (by show c ≤ 64; omega) rfl ?_
  refine rt ?_
  show VS _ = VS _
  rw [ZE64, List.take_replicate, Nat.min_eq_left (by omega)]
theorem str_app (a b : Bs) : (⟨a.toArray⟩ : ByteArray) ++ ⟨b.toArray⟩ = ⟨(a ++ b).toArray⟩ := by
  apply ByteArray.ext
  simp
theorem dec_len (u : Nat) : 1 ≤ (decN u).length ∧ (decN u).length ≤ 7 := by
  unfold decN; (repeat' split) <;> simp
theorem dec_fig (u : Nat) (h : u < 2097152) : List.replicate (8 - (decN u).length) 48 ++ decN u = fig8 u := by
  have z : ∀ n : Nat, n = 0 → UInt8.ofNat (48 + n % 10) = 48 := fun n h => by subst h; rfl
  unfold decN fig8 fg
  rw [z (u / 10000000) (by omega)]
  by_cases h1 : u < 10
  · rw [if_pos h1, z (u / 1000000) (by omega), z (u / 100000) (by omega), z (u / 10000) (by omega), z (u / 1000) (by omega), z (u / 100) (by omega), z (u / 10) (by omega)]; simp [List.replicate]
  rw [if_neg h1]
  by_cases h2 : u < 100
  · rw [if_pos h2, z (u / 1000000) (by omega), z (u / 100000) (by omega), z (u / 10000) (by omega), z (u / 1000) (by omega), z (u / 100) (by omega)]; simp [List.replicate]
  rw [if_neg h2]
  by_cases h3 : u < 1000
  · rw [if_pos h3, z (u / 1000000) (by omega), z (u / 100000) (by omega), z (u / 10000) (by omega), z (u / 1000) (by omega)]; simp [List.replicate]
  rw [if_neg h3]
  by_cases h4 : u < 10000
  · rw [if_pos h4, z (u / 1000000) (by omega), z (u / 100000) (by omega), z (u / 10000) (by omega)]; simp [List.replicate]
  rw [if_neg h4]
  by_cases h5 : u < 100000
  · rw [if_pos h5, z (u / 1000000) (by omega), z (u / 100000) (by omega)]; simp [List.replicate]
  rw [if_neg h5]
  by_cases h6 : u < 1000000
  · rw [if_pos h6, z (u / 1000000) (by omega)]; simp [List.replicate]
  rw [if_neg h6]; simp
set_option maxRecDepth 100000 in
theorem name_any (n : Nat) (hn : n < 2097152) (w : World) (hw : Laid w) : Calls Tryz.prog 55 ([.int .i64 n] : List Value).toArray w fun e w' => e = .returned (VS (nameS n)) ∧ Below w.heap.size w w' := by
  have hl := dec_len n
  have hz : ∀ l : Bs, (⟨l.toArray⟩ : ByteArray).size = l.length := fun l => by simp [ByteArray.size]
  refine enterV tab_ok Tryz.func55 rfl Tryz.ntmps55 rfl (St.laid hw) ?_
  refine cvs (fun w hs => itoa_any n hn w (hs.res (k := 0) rfl)) ?_
  refine .as ((8 - (decN n).length : Nat) : Int) (by rw [hz]; omega) (by simp only [mn]; omega) (by simp only [mx]; omega) ?_
  refine biMax ?_
  rw [show max ((8 - (decN n).length : Nat) : Int) 0 = ((8 - (decN n).length : Nat) : Int) by omega]
  refine cv (fun w => repeat_any (8 - (decN n).length) (by omega) w) ?_
  refine ⟨by rw [hz]; simp [ByteArray.size]; omega, ?_⟩
  refine ⟨by simp [ByteArray.size]; omega, ?_⟩
  refine rt ?_
  show Value.string ((⟨([115, 101, 103, 45] : Bs).toArray⟩ : ByteArray) ++ ⟨(List.replicate (8 - (decN n).length) (48 : UInt8)).toArray⟩ ++ ⟨(decN n).toArray⟩) = _
  rw [str_app, str_app, List.append_assoc, dec_fig n hn]; rfl
end Go.Proofs.YteamnhpplclmfaaGreatDoor
end
section
namespace Go.Proofs.YteamnhpplclmfaaGreatDoor
open Go.RowKit Go.Sx
set_option linter.unusedVariables false
/-- a row that is read, where a box holds it -/
def rowH (b1 : Nat) (a : Option Addr) (c : Nat) (l : Bs) : Res where
  w := fun _ => False
  r := fun k => k = b1 ∨ (l ≠ [] ∧ ∃ o, a = some ⟨k, o, none⟩)
  p := fun u => u.heap[b1]? = some (.cells #[.slice a l.length c] 22 (0, 0)) ∧ Rd u (.slice a l.length c) (Lib.byteCells l)
  st := fun u v h ⟨h1, h2⟩ => by
    refine ⟨(h b1 (.inr (.inl rfl))).trans h1, ?_⟩
    obtain ⟨a', c', e, hr⟩ := h2
    refine ⟨a', c', e, fun hne => ?_⟩
    obtain ⟨b, o, g1, g2, g3⟩ := hr hne
    injection e with e1 _ _
    have hl : l ≠ [] := fun e => hne (by rw [e]; rfl)
    have hb := h b (.inr (.inr ⟨hl, o, by rw [e1, g1]⟩))
    refine ⟨b, o, g1, ?_, fun j x hx => ?_⟩
    · rw [Array.getElem?_eq_getElem g2] at hb
      exact (Array.getElem?_eq_some_iff.1 hb).1
    · rw [← g3 j x hx]; simp only [World.cell?, hb]
  bd := fun u ⟨h1, h2⟩ k hk => by
    rcases hk with hk | rfl | ⟨hl, o, hk⟩
    · exact hk.elim
    · exact (Array.getElem?_eq_some_iff.1 h1).1
    · obtain ⟨a', c', e, hr⟩ := h2
      obtain ⟨b, o2, g1, g2, _⟩ := hr (fun e => hl (by cases l with | nil => rfl | cons x t => simp [Lib.byteCells] at e))
      injection e with e1 _ _
      rw [hk, g1] at e1
      injection e1 with e1
      injection e1 with e1 _
      rw [e1]; exact g2
/-- a round: where the record begins, its payload «as» a row of one's own -/
def allNx (l : Bs) (ps : List Bs) (args : List Value) (q : List Ent) (ps' : List Bs) : Prop := ∃ p r, firstP (l.drop (wholeL ps)) = some p ∧ args = [.int .i64 (wholeL ps : Nat), sv r p.length] ∧ q = [se r (Lib.byteCells p) 5] ∧ Rw 1 p.length r (Lib.byteCells p) ∧ ps' = ps ++ [p]
theorem whole_app (ps : List Bs) (p : Bs) : wholeL (ps ++ [p]) = wholeL ps + (8 + p.length) := by simp [wholeL]
/-- what of the records is behind and what is ahead -/
theorem ahead {l : Bs} {ps : List Bs} {p : Bs} (h : ps ++ recsP (l.drop (wholeL ps)) = recsP l) (hf : firstP (l.drop (wholeL ps)) = some p) : ps ++ [p] ++ recsP (l.drop (wholeL (ps ++ [p]))) = recsP l := by
  rw [recs_some hf, List.drop_drop] at h
  rw [whole_app, List.append_assoc]; exact h
/-- a call that makes a row of one's own: its block is new -/
theorem coF {C : Cx} {L : List Ent} {g : FuncId} {vs : List Value} {n z : Nat} {xs : List Value} {e : TypeId} {next : Value → List Ent → Prop}
    (h : ∀ w, St C.M C.B w L → Calls C.P g vs.toArray w fun en w' => ∃ r, en = .returned (sv r n) ∧ Rw z n r xs ∧ Made w w' r xs e ∧ Below w.heap.size w w')
    (go : ∀ r, Rw z n r xs → (∀ k, (se r xs e).A k → C.B.heap.size ≤ k) → next (sv r n) (L ++ [se r xs e])) : CallP C g vs L next := by
  refine ⟨fun w hs => (h w hs).mono fun en w' ⟨r, he, hR, ho, hb⟩ => ⟨_, _, he, ?_, go r hR ?_⟩⟩
  · cases r with
    | none => exact (hs.call hb).deads
    | some p =>
      obtain ⟨b, c, j⟩ := p
      obtain ⟨h1, h2⟩ := ho b c j rfl
      exact hs.add hb h1 h2
  · cases r with
    | none => exact fun k hk => by simp [se] at hk
    | some p =>
      obtain ⟨b, c, j⟩ := p
      obtain ⟨h1, h2⟩ := ho b c j rfl
      intro k hk
      have : b = k := by simpa [se] using hk
      have := hs.size
      omega
set_option maxRecDepth 100000 in
set_option maxHeartbeats 1000000 in
theorem all_itr (b1 : Nat) (a : Option Addr) (c : Nat) (l : Bs) (hc : l.length ≤ c) (hm : l.length ≤ 16777216) (ha : ∀ x, a = some x → x.spot = none) :
    ItrO Tryz.prog 128 [ptr b1] [] (allNx l) (fun ps => firstP (l.drop (wholeL ps)) = none) (rowH b1 a c l) := by
  refine ⟨fun k α β R S W x0 hR hH hd hround => ?_⟩
  have hst : St [fun k => (R [] x0).w k] W W [rs (R [] x0), rs (rowH b1 a c l)] := by
    refine St.from W _ _ (fun y hy => ?_) ?_
    · simp only [List.mem_cons, List.not_mem_nil, or_false] at hy
      rcases hy with rfl | rfl
      · exact ⟨by simpa using hR, fun k hk => ⟨_, List.mem_singleton.2 rfl, by simpa using hk⟩⟩
      · exact ⟨(rsOk _ _).2 hH, fun k hk => ((rsW _ _).1 hk).elim⟩
    · refine .cons (fun y hy => ?_) (.cons (fun y hy => by simp at hy) .nil)
      obtain rfl : y = rs (rowH b1 a c l) := by simpa using hy
      exact fun k => ⟨fun h1 h2 => hd k ((rsA _ _).1 h2) ((rsW _ _).1 h1), fun h1 => ((rsW _ _).1 h1).elim⟩
  refine (enter tab_ok Tryz.func128 rfl Tryz.ntmps128 rfl hst (R := fun v w' => (∃ i y, firstP (l.drop (wholeL i)) = none ∧ Turns W w' (R [] x0) (R i y)) ∨ ∃ y, Turns W w' (R [] x0) (S y)) ?_).mono (fun e w' ⟨v, he, h⟩ => ⟨⟨v, he⟩, h⟩)
  have fin' : ∀ (r : Res) (L : List Ent) (w' : World), St [fun k => (R [] x0).w k] W w' L → L[0]? = some (rs r) → (∀ k, r.A k → (R [] x0).A k ∨ W.heap.size ≤ k) → Turns W w' (R [] x0) r := by
    intro r L w' hs h0 hA
    refine Turns.of_st hs (fun k hk => by simpa using hk) (hs.res h0) (fun k hk => ?_) hA
    rcases hs.ownW _ (List.mem_of_getElem? h0) k (by simpa using hk) with h | h
    · exact .inr h
    · exact .inl (by simpa using h)
  have hbox : ∀ {M : Bks} {B w : World} {L : List Ent}, St M B w L → L[1]? = some (rs (rowH b1 a c l)) → w.cell? ⟨b1, 0, none⟩ = some (.slice a l.length c) := fun hs h => by
    have := (hs.res h : _ ∧ _).1
    simp [World.cell?, this]
  refine .mk (.slice a l.length c) (fun w' hs => hbox hs rfl) ?_
  refine ce (Φ := fun x : Option Addr × Nat × Nat => ∀ p, firstP l = some p → x.2.1 = p.length ∧ ∀ w : World, Rd w (.slice a l.length c) (Lib.byteCells l) → Rd w (.slice x.1 x.2.1 x.2.2) (Lib.byteCells p)) (v := fun x => .tuple #[.slice x.1 x.2.1 x.2.2, .bool (firstP l).isSome]) (fun w hs => (first_any a l c hc (by unfold maxLen; omega) ha w (hs.res (k := 1) rfl : _ ∧ _).2).mono fun e w' ⟨⟨x, h1, h2⟩, h3⟩ => ⟨x, h1, h2, h3⟩) (fun x hx => ?_)
  refine lp tab_ok (fun q : List Bs × α × (Option Addr × Nat × Nat) => wholeL q.1 ≤ l.length ∧ (∀ b, (R q.1 q.2.1).A b → (R [] x0).A b ∨ W.heap.size ≤ b) ∧ ∀ p, firstP (l.drop (wholeL q.1)) = some p → q.2.2.2.1 = p.length ∧ ∀ w : World, Rd w (.slice a l.length c) (Lib.byteCells l) → Rd w (.slice q.2.2.1 q.2.2.2.1 q.2.2.2.2) (Lib.byteCells p))
    (fun q => ⟨[(0, .func (.yield k) #[] #[]), (1, ptr b1), (3, .int .i64 (wholeL q.1 : Nat)), (4, .slice q.2.2.1 q.2.2.2.1 q.2.2.2.2), (5, .bool (firstP (l.drop (wholeL q.1))).isSome)], [rs (R q.1 q.2.1), rs (rowH b1 a c l)], []⟩) (fun q => l.length - wholeL q.1) ([], x0, x) ⟨Nat.zero_le _, fun b h => .inl h, hx⟩ ⟨⟨rfl, rfl, rfl, rfl, rfl, trivial⟩, .cons (.cons .nil), rfl⟩ ?_
  rintro ⟨ps, y, xa, xn, xc⟩ ⟨hle, hA, hx⟩
  dsimp only at hle hA hx ⊢
  cases hf : firstP (l.drop (wholeL ps)) with
  | none =>
    refine cf rfl ?_
    exact ⟨fun w1 hs => .inl ⟨ps, y, hf, fin' _ _ _ hs rfl hA⟩⟩
  | some p =>
    obtain ⟨rfl, hrd⟩ := hx p hf
    have hl := first_len hf
    rw [List.length_drop] at hl
    refine ct rfl ?_
    refine coF (fun w' hs => clone_any _ p (by omega) w' (hrd w' (hs.res (k := 1) rfl : _ ∧ _).2)) (fun r hR hfr => ?_)
    refine ydO (L := [rs (rowH b1 a c l)]) (e := se r (Lib.byteCells p) 5) hround ⟨p, r, hf, rfl, rfl, hR, rfl⟩ (fun w hs k hk => hfr k hk) (fun y' hA' => ?_) (fun y' hA' => ?_)
    · refine cf rfl ?_
      refine .as ((8 + p.length : Nat) : Int) (by omega) (by simp only [mn]; omega) (by simp only [mx]; omega) ?_
      refine .as ((wholeL (ps ++ [p]) : Nat) : Int) (by rw [whole_app]; omega) (by simp only [mn]; omega) (by rw [whole_app]; simp only [mx]; omega) ?_
      refine .mk (.slice a l.length c) (fun w' hs => hbox hs rfl) ?_
      have hw2 : wholeL (ps ++ [p]) ≤ l.length := by rw [whole_app]; omega
      generalize hat : wholeL (ps ++ [p]) = at2 at hw2 ⊢
      refine slFrom (i := at2) ha hw2 hc (fun a2 hs2 hn2 hr2 => ?_)
      have hdl : (l.drop at2).length = l.length - at2 := List.length_drop
      rw [← hdl] at hr2 ⊢
      refine ce (Φ := fun x : Option Addr × Nat × Nat => ∀ p, firstP (l.drop at2) = some p → x.2.1 = p.length ∧ ∀ w : World, Rd w (.slice a2 (l.drop at2).length (c - at2)) (Lib.byteCells (l.drop at2)) → Rd w (.slice x.1 x.2.1 x.2.2) (Lib.byteCells p)) (v := fun x => .tuple #[.slice x.1 x.2.1 x.2.2, .bool (firstP (l.drop at2)).isSome]) (fun w hs => (first_any a2 (l.drop at2) (c - at2) (by omega) (by unfold maxLen; omega) hs2 w (hr2 w l (hs.res (k := 1) rfl : _ ∧ _).2 rfl)).mono fun e w' ⟨⟨x, h1, h2⟩, h3⟩ => ⟨x, h1, h2, h3⟩) (fun x hx => ?_)
      have hwa := whole_app ps p
      subst hat
      exact ⟨(ps ++ [p], y', x), ⟨hw2, fun b hb => (hA' b hb).elim (hA b) .inr, fun q hq => ⟨(hx q hq).1, fun w hw => (hx q hq).2 w (hr2 w l hw rfl)⟩⟩, by dsimp only; omega, ⟨⟨rfl, rfl, rfl, rfl, rfl, trivial⟩, .cons (.cons .nil), rfl⟩⟩
    · refine ct rfl ?_
      exact ⟨fun w1 hs => .inr ⟨y', fin' _ _ _ hs rfl fun b hb => (hA' b hb).elim (hA b) .inr⟩⟩
end Go.Proofs.YteamnhpplclmfaaGreatDoor
end
section
namespace Go.Proofs.YteamnhpplclmfaaGreatDoor
open Go.RowKit Go.Sx
set_option linter.unusedVariables false
theorem take_no (v : Value) (l : Bs) (h4 : l.length ≠ 4) (hm : l.length ≤ maxLen) (w : World) (hv : Rd w v (Lib.byteCells l)) : Calls Tryz.prog 107 ([v] : List Value).toArray w fun e w' => e = .returned (.tuple #[.int .u32 0, .bool false]) ∧ Below w.heap.size w w' := by
  obtain ⟨aa, cc, rfl, _⟩ := hv
  rw [Lib.byteCells_length]
  refine enterV tab_ok Tryz.func107 rfl Tryz.ntmps107 rfl (St.start w) ?_
  refine ct (by rw [bne_iff_ne]; omega) ?_
  exact rt rfl
theorem _root_.Go.Sx.Rd.lt {w : World} {x o n c : Nat} {l : Bs} (h : Rd w (.slice (some ⟨x, o, none⟩) n c) (Lib.byteCells l)) (hl : l ≠ []) : x < w.heap.size := by
  obtain ⟨a', c', e, hr⟩ := h
  injection e with e1 _ _
  obtain ⟨b, o', g1, g2, _⟩ := hr (fun e => hl (by cases l with | nil => rfl | cons x t => simp [Lib.byteCells] at e))
  rw [← e1] at g1
  injection g1 with g1
  injection g1 with g1 _
  rw [g1]; exact g2
theorem recs_whole_le (l : Bs) : ∀ n, l.length ≤ n → wholeL (recsP l) ≤ l.length := by
  intro n
  induction n generalizing l with
  | zero =>
    intro h
    have : l = [] := List.eq_nil_of_length_eq_zero (by omega)
    subst this; decide
  | succ n ih =>
    intro h
    cases hf : firstP l with
    | none => rw [recs_none hf]; exact Nat.zero_le _
    | some p =>
      have hl := first_len hf
      rw [recs_some hf, whole_cons]
      have := ih (l.drop (8 + p.length)) (by rw [List.length_drop]; omega)
      rw [List.length_drop] at this
      omega
theorem sv_sl {z n : Nat} {r : Sx.Own} {xs : List Value} (h : Rw z n r xs) : ∃ a c, sv r n = .slice a n c := by
  cases r with
  | none =>
    have : n = 0 := h.2
    subst this
    exact ⟨none, 0, rfl⟩
  | some p => obtain ⟨b, c, j⟩ := p; exact ⟨some ⟨b, 0, none⟩, c, rfl⟩
set_option maxRecDepth 100000 in
set_option maxHeartbeats 1000000 in
theorem whole_any (a : Option Addr) (l : Bs) (c : Nat) (hc : l.length ≤ c) (hm : l.length ≤ 16777216) (ha : ∀ x, a = some x → x.spot = none) (w : World) (hv : Rd w (.slice a l.length c) (Lib.byteCells l)) : Calls Tryz.prog 108 ([.slice a l.length c] : List Value).toArray w fun e w' => e = .returned (.int .i64 (wholeP l : Nat)) ∧ Below w.heap.size w w' := by
  refine enterV tab_ok Tryz.func108 rfl Tryz.ntmps108 rfl (St.start w) ?_
  intro b3
  refine s1 0 rfl (by show 0 < 1; decide) ?_
  refine inl (C := ⟨Tryz.prog, tab, _, [], w, _⟩) tab_ok Tryz.func106 rfl Tryz.ntmps106 rfl ?_
  intro b1
  refine bk ?_
  refine rfiO (C := ⟨Tryz.prog, tab, 16, [], w, none⟩) (L0 := [cl b1 #[.slice a l.length c] 22]) (α := Unit) (β := Empty) tab_ok rfl rfl rfl
    (all_itr b1 a c l hc hm ha) (fun ps _ => ps ++ recsP (l.drop (wholeL ps)) = recsP l ∧ wholeL ps ≤ l.length) (fun ps _ => [cl b3 #[.int .i64 (wholeL ps : Nat)] 3]) (fun y => y.elim) (fun y => y.elim) () ⟨rfl, Nat.zero_le _⟩ ?_
    (fun w' hs => ⟨⟨hs.nth (k := 0) rfl, hv.below (hs.below)⟩, ?_⟩) ?_ ?_ ?_ ?_
  · exact List.Perm.swap ..
  · rintro x (hx | hx | ⟨hx, o, ho⟩) e he hw
    · exact hx.elim
    · subst hx
      simp only [List.mem_cons, List.not_mem_nil, or_false] at he
      subst he
      exact (pw_ne hs.apart (i := 1) (j := 0) rfl rfl (by decide) _).1 hw (by simp)
    · simp only [List.mem_cons, List.not_mem_nil, or_false] at he
      subst ho
      have h1 := hv.lt hx
      rcases hs.ownW e (by rw [he]; simp) x hw with h2 | ⟨_, h2, _⟩
      · exact absurd h1 (by show ¬ x < w.heap.size; have : w.heap.size ≤ x := h2; omega)
      · cases h2
  · rintro i args q j ⟨p, r, _, rfl, _⟩; rfl
  · rintro lq ps args q ps' _ w' ready busy ⟨p, r, hf, rfl, rfl, hR, rfl⟩ ⟨hI1, hI2⟩
    have hl := first_len hf
    rw [List.length_drop] at hl
    obtain ⟨ra, rc, hre⟩ := sv_sl hR
    rw [hre]
    refine ⟨rfl, ?_⟩
    refine cv (fun w => size_any p.length (by unfold maxLen; omega) w) ?_
    have hsz : sizeN p.length = 8 + p.length := if_pos hl.2.1
    refine .as ((wholeL (ps ++ [p]) : Nat) : Int) (by rw [hsz, whole_app]; omega) (by simp only [mn]; omega) (by rw [whole_app]; simp only [mx]; omega) ?_
    refine s1 1 rfl (by show 0 < 1; decide) ?_
    exact ⟨(), ⟨ahead hI1 hf, by rw [whole_app]; omega⟩, .drop (.cons (.drop (.cons .nil))), fun e he b hb _ => by
      simp only [List.mem_cons, List.not_mem_nil, or_false] at he
      subst he
      exact .inl ⟨cl b3 #[.int .i64 (wholeL ps : Nat)] 3, by simp, by simpa using hb⟩⟩
  · rintro ps y b0 hf ⟨hI1, hI2⟩
    have he : wholeL ps = wholeP l := by
      rw [recs_none hf, List.append_nil] at hI1
      unfold wholeP; rw [hI1]
    refine ld1 1 rfl rfl ?_
    refine .mk 2 rfl ?_
    exact rt (by rw [he]; rfl)
  · intro y; exact y.elim
set_option maxRecDepth 100000 in
set_option maxHeartbeats 1000000 in
theorem told_any (a : Option Addr) (l : Bs) (c : Nat) (hc : l.length ≤ c) (hm : l.length ≤ 16777216) (ha : ∀ x, a = some x → x.spot = none) (w : World) (hv : Rd w (.slice a l.length c) (Lib.byteCells l)) : Calls Tryz.prog 62 ([.slice a l.length c] : List Value).toArray w fun e w' => e = .returned (.int .i64 (toldP l : Nat)) ∧ Below w.heap.size w w' := by
  refine enterV tab_ok Tryz.func62 rfl Tryz.ntmps62 rfl (St.start w) ?_
  intro b1 b2
  refine ld1 0 rfl rfl ?_
  refine inl (C := ⟨Tryz.prog, tab, _, [], w, _⟩) tab_ok Tryz.func106 rfl Tryz.ntmps106 rfl ?_
  intro b3
  refine bk ?_
  refine rfiO (C := ⟨Tryz.prog, tab, 37, [], w, none⟩) (L0 := [cl b1 #[.slice a l.length c] 22, cl b3 #[.slice a l.length c] 22]) (α := Unit) (β := Unit) tab_ok rfl rfl rfl
    (all_itr b3 a c l hc hm ha) (fun ps _ => ps = []) (fun ps _ => [cl b2 #[.int .i64 0] 3]) (fun y => ([cl b2 #[.int .i64 (toldP l : Nat)] 3], .ret)) (fun y => .inl rfl) () rfl ?_
    (fun w' hs => ⟨⟨hs.nth (k := 1) rfl, hv.below (hs.below)⟩, ?_⟩) ?_ ?_ ?_ ?_
  · exact (List.Perm.swap ..).cons _
  · rintro x (hx | hx | ⟨hx, o, ho⟩) e he hw
    · exact hx.elim
    · subst hx
      simp only [List.mem_cons, List.not_mem_nil, or_false] at he
      subst he
      exact (pw_ne hs.apart (i := 2) (j := 1) rfl rfl (by decide) _).1 hw (by simp)
    · simp only [List.mem_cons, List.not_mem_nil, or_false] at he
      subst ho
      have h1 := hv.lt hx
      rcases hs.ownW e (by rw [he]; simp) x hw with h2 | ⟨_, h2, _⟩
      · exact absurd h1 (by show ¬ x < w.heap.size; have : w.heap.size ≤ x := h2; omega)
      · cases h2
  · rintro i args q j ⟨p, r, _, rfl, _⟩; rfl
  · rintro lq ps args q ps' _ w' ready busy ⟨p, r, hf, rfl, rfl, hR, rfl⟩ rfl
    rw [show l.drop (wholeL []) = l by simp [wholeL]] at hf
    have hl := first_len hf
    have hT : toldP l = if p.length = 4 ∧ l.length = 12 ∧ 1 ≤ unle p ∧ unle p ≤ 1048576 then unle p else 0 := by
      unfold toldP; rw [recs_some hf]
    have hu := unle_lt p
    refine ⟨rfl, ?_⟩
    have fin : ∀ (x : Int), ((toldP l : Nat) : Int) = x → ∀ s : Sy, Sub ([cl b2 #[.int .i64 x] 3] ++ [⟨lq, some busy, false, none⟩]) s.L → roundW (fun (ps : List Bs) (_ : Unit) => ps = []) (fun ps _ => [cl b2 #[.int .i64 0] 3]) (fun y : Unit => ([cl b2 #[.int .i64 (toldP l : Nat)] 3], .ret)) lq busy w' ([cl b2 #[.int .i64 0] 3] ++ [se r (Lib.byteCells p) 5]) ([] ++ [p]) .ret s := fun x hx s hs =>
      ⟨(), rfl, by rw [hx]; exact hs, fun e he b hb _ => by
        simp only [List.mem_cons, List.not_mem_nil, or_false] at he
        subst he
        exact .inl ⟨cl b2 #[.int .i64 0] 3, by simp, by simpa using hb⟩⟩
    by_cases h4 : p.length = 4
    · rw [h4] at hu
      have hu : unle p < 4294967296 := hu
      refine cvs (fun w hs => take_any _ p h4 w (Rd.own hs 3 rfl hR)) ?_
      by_cases hB : l.length = 12
      case neg =>
        have B1 : (((l.length : Nat) : Int) == ((12 : Nat) : Int)) = false := by rw [beq_eq_false_iff_ne]; omega
        have B2 : ((((l.length : Nat) : Int) == ((12 : Nat) : Int)) == true) = false := by rw [B1]; rfl
        refine dr [cr b1 #[.slice a l.length c] 22] 99 (.t 0 (.t 1 (.t 2 (.t 3 (.t 4 (.t 5 (.t 6 (.t 7 (.t 8 (.t 9 (.t 10 (.t 11 (.t 12 (.t 13 (.t 14 (.t 15 (.t 16 (.t 17 (.t 18 .nil))))))))))))))))))) tab_ok mixed_ok (by kernel_rfl) (.cons (.drop (.drop (.drop (.drop .nil))))) ?_
        refine ct rfl ?_
        refine ct rfl ?_
        refine ct rfl ?_
        refine ld1 0 rfl rfl ?_
        refine ct rfl ?_
        refine ct rfl ?_
        refine cz (fun w => size_any 4 (by decide) w) ?_
        refine ct rfl ?_
        refine ct rfl ?_
        refine cf B2 ?_
        refine cf B2 ?_
        refine cf B1 ?_
        refine cf rfl ?_
        refine cf rfl ?_
        refine cf rfl ?_
        refine cf rfl ?_
        refine s1 2 rfl (by show 0 < 1; decide) ?_
        exact fin _ (by rw [hT, if_neg (fun h => by omega)]; rfl) _ (.drop (.drop (.cons (.drop (.cons .nil)))))
      have B1 : (((l.length : Nat) : Int) == ((12 : Nat) : Int)) = true := by rw [hB]; rfl
      have B2 : ((((l.length : Nat) : Int) == ((12 : Nat) : Int)) == true) = true := by rw [B1]; rfl
      by_cases hC : 1 ≤ unle p
      case neg =>
        have C1 : decide (((unle p : Nat) : Int) ≥ 1) = false := decide_eq_false (by omega)
        have C2 : (decide (((unle p : Nat) : Int) ≥ 1) == true) = false := by rw [C1]; rfl
        refine dr [cr b1 #[.slice a l.length c] 22] 99 (.t 0 (.t 1 (.t 2 (.t 3 (.t 4 (.t 5 (.t 6 (.t 7 (.t 8 (.t 9 (.t 10 (.t 11 (.t 12 (.t 13 (.t 14 (.t 15 (.t 16 (.t 17 (.t 18 .nil))))))))))))))))))) tab_ok mixed_ok (by kernel_rfl) (.cons (.drop (.drop (.drop (.drop .nil))))) ?_
        refine ct rfl ?_
        refine ct rfl ?_
        refine ct rfl ?_
        refine ld1 0 rfl rfl ?_
        refine ct rfl ?_
        refine ct rfl ?_
        refine cz (fun w => size_any 4 (by decide) w) ?_
        refine ct rfl ?_
        refine ct rfl ?_
        refine ct B2 ?_
        refine ct B2 ?_
        refine ct B1 ?_
        refine cf C2 ?_
        refine cf C2 ?_
        refine cf C1 ?_
        refine cf rfl ?_
        refine s1 2 rfl (by show 0 < 1; decide) ?_
        exact fin _ (by rw [hT, if_neg (fun h => by omega)]; rfl) _ (.drop (.drop (.cons (.drop (.cons .nil)))))
      have C1 : decide (((unle p : Nat) : Int) ≥ 1) = true := decide_eq_true (by omega)
      have C2 : (decide (((unle p : Nat) : Int) ≥ 1) == true) = true := by rw [C1]; rfl
      by_cases hD : unle p ≤ 1048576
      case neg =>
        have D1 : decide (((unle p : Nat) : Int) ≤ 1048576) = false := decide_eq_false (by omega)
        have D2 : (decide (((unle p : Nat) : Int) ≤ 1048576) == true) = false := by rw [D1]; rfl
        refine dr [cr b1 #[.slice a l.length c] 22] 99 (.t 0 (.t 1 (.t 2 (.t 3 (.t 4 (.t 5 (.t 6 (.t 7 (.t 8 (.t 9 (.t 10 (.t 11 (.t 12 (.t 13 (.t 14 (.t 15 (.t 16 (.t 17 (.t 18 .nil))))))))))))))))))) tab_ok mixed_ok (by kernel_rfl) (.cons (.drop (.drop (.drop (.drop .nil))))) ?_
        refine ct rfl ?_
        refine ct rfl ?_
        refine ct rfl ?_
        refine ld1 0 rfl rfl ?_
        refine ct rfl ?_
        refine ct rfl ?_
        refine cz (fun w => size_any 4 (by decide) w) ?_
        refine ct rfl ?_
        refine ct rfl ?_
        refine ct B2 ?_
        refine ct B2 ?_
        refine ct B1 ?_
        refine ct C2 ?_
        refine ct C2 ?_
        refine ct C1 ?_
        refine cf D1 ?_
        refine s1 2 rfl (by show 0 < 1; decide) ?_
        exact fin _ (by rw [hT, if_neg (fun h => by omega)]; rfl) _ (.drop (.drop (.cons (.drop (.cons .nil)))))
      have D1 : decide (((unle p : Nat) : Int) ≤ 1048576) = true := decide_eq_true (by omega)
      have D2 : (decide (((unle p : Nat) : Int) ≤ 1048576) == true) = true := by rw [D1]; rfl
      refine dr [cr b1 #[.slice a l.length c] 22] 99 (.t 0 (.t 1 (.t 2 (.t 3 (.t 4 (.t 5 (.t 6 (.t 7 (.t 8 (.t 9 (.t 10 (.t 11 (.t 12 (.t 13 (.t 14 (.t 15 (.t 16 (.t 17 (.t 18 .nil))))))))))))))))))) tab_ok mixed_ok (by kernel_rfl) (.cons (.drop (.drop (.drop (.drop .nil))))) ?_
      refine ct rfl ?_
      refine ct rfl ?_
      refine ct rfl ?_
      refine ld1 0 rfl rfl ?_
      refine ct rfl ?_
      refine ct rfl ?_
      refine cz (fun w => size_any 4 (by decide) w) ?_
      refine ct rfl ?_
      refine ct rfl ?_
      refine ct B2 ?_
      refine ct B2 ?_
      refine ct B1 ?_
      refine ct C2 ?_
      refine ct C2 ?_
      refine ct C1 ?_
      refine ct D1 ?_
      refine .same (by simp only [mn]; omega) (by simp only [mx]; omega) ?_
      refine s1 2 rfl (by show 0 < 1; decide) ?_
      exact fin _ (by rw [hT, if_pos ⟨h4, by omega, by omega, by omega⟩]) _ (.drop (.drop (.cons (.drop (.cons .nil)))))
    · refine cvs (fun w hs => take_no _ p h4 (by unfold maxLen; omega) w (Rd.own hs 3 rfl hR)) ?_
      refine dr [cr b1 #[.slice a l.length c] 22] 99 (.t 0 (.t 1 (.t 2 (.t 3 (.t 4 (.t 5 (.t 6 (.t 7 (.t 8 (.t 9 (.t 10 (.t 11 (.t 12 (.t 13 (.t 14 (.t 15 (.t 16 (.t 17 (.t 18 .nil))))))))))))))))))) tab_ok mixed_ok (by kernel_rfl) (.cons (.drop (.drop (.drop (.drop .nil))))) ?_
      refine ct rfl ?_
      refine ct rfl ?_
      refine cf rfl ?_
      refine cf rfl ?_
      refine cf rfl ?_
      refine cf rfl ?_
      refine cf rfl ?_
      refine cf rfl ?_
      refine cf rfl ?_
      refine cf rfl ?_
      refine cf rfl ?_
      refine cf rfl ?_
      refine cf rfl ?_
      refine cf rfl ?_
      refine s1 2 rfl (by show 0 < 1; decide) ?_
      exact fin _ (by rw [hT, if_neg (fun h => h4 h.1)]; rfl) _ (.drop (.drop (.cons (.drop (.cons .nil)))))
  · rintro ps y b0 hf rfl
    rw [show l.drop (wholeL []) = l by simp [wholeL]] at hf
    have he : toldP l = 0 := by unfold toldP; rw [recs_none hf]
    refine s1 2 rfl (by show 0 < 1; decide) ?_
    refine .mk 3 rfl ?_
    refine ld1 2 rfl rfl ?_
    exact rt (by rw [he]; rfl)
  · intro y b0
    refine .mk 3 rfl ?_
    refine ld1 2 rfl rfl ?_
    exact rt rfl
end Go.Proofs.YteamnhpplclmfaaGreatDoor
end
section
namespace Go.Proofs.YteamnhpplclmfaaGreatDoor
open Go.Shelf
def Lkeys_ren : Go.Shelf.Ren := ⟨fun | 7 => 113 | 10 => 133 | n => n, fun | 23 => 99 | 26 => 9 | 3 => 113 | 28 => 150 | 0 => 0 | 27 => 149 | 33 => 97 | 4 => 4 | n => n, fun | n => n⟩
theorem Lkeys : Go.Proofs.SlLaysZ.n7 Tryz.prog Lkeys_ren := {
  mixed := by kernel_rfl
  f7 := ⟨Tryz.f113.name, by decide, Tryz.func113.trans (congrArg some (by kernel_rfl))⟩
  f10 := ⟨Tryz.f133.name, by decide, Tryz.func133.trans (congrArg some (by kernel_rfl))⟩
  t0 := Tryz.underlying0
  a0 := Tryz.isAgg0
  z0 := Tryz.sizeOf0
  v0 := Tryz.zeroValue0
  t4 := Tryz.underlying4
  a4 := Tryz.isAgg4
  z4 := Tryz.sizeOf4
  v4 := Tryz.zeroValue4
  t23 := Tryz.underlying99
  a23 := Tryz.isAgg99
  z23 := Tryz.sizeOf99
  v23 := Tryz.zeroValue99
  t26 := Tryz.underlying9
  a26 := Tryz.isAgg9
  z26 := Tryz.sizeOf9
  v26 := Tryz.zeroValue9
  t27 := Tryz.underlying149
  a27 := Tryz.isAgg149
  z27 := Tryz.sizeOf149
  v27 := Tryz.zeroValue149
  t28 := Tryz.underlying150
  a28 := Tryz.isAgg150
  z28 := Tryz.sizeOf150
  v28 := Tryz.zeroValue150
  t33 := Tryz.underlying97
  a33 := Tryz.isAgg97
  z33 := Tryz.sizeOf97
  v33 := Tryz.zeroValue97 }
def Lsorted_ren : Go.Shelf.Ren := ⟨fun | 6 => 112 | 8 => 131 | 9 => 132 | 11 => 141 | 13 => 143 | 12 => 142 | 23 => 159 | 24 => 160 | 14 => 150 | 15 => 151 | 16 => 152 | 17 => 153 | 18 => 154 | 19 => 155 | 20 => 156 | 21 => 157 | 22 => 158 | 25 => 165 | 26 => 166 | 27 => 167 | 28 => 168 | 29 => 169 | 30 => 170 | 31 => 173 | n => n, fun | 26 => 9 | 28 => 150 | 24 => 106 | 0 => 0 | 3 => 3 | 37 => 40 | 48 => 127 | 50 => 176 | 4 => 4 | 40 => 193 | 39 => 192 | 45 => 197 | 5 => 5 | 9 => 9 | 51 => 204 | 55 => 208 | 57 => 210 | 58 => 211 | 33 => 97 | n => n, fun | n => n⟩
theorem Lsorted : Go.Proofs.SlLaysZ.n6 Tryz.prog Lsorted_ren := {
  mixed := by kernel_rfl
  f6 := ⟨Tryz.f112.name, by decide, Tryz.func112.trans (congrArg some (by kernel_rfl))⟩
  f8 := ⟨Tryz.f131.name, by decide, Tryz.func131.trans (congrArg some (by kernel_rfl))⟩
  f11 := ⟨Tryz.f141.name, by decide, Tryz.func141.trans (congrArg some (by kernel_rfl))⟩
  t0 := Tryz.underlying0
  a0 := Tryz.isAgg0
  z0 := Tryz.sizeOf0
  v0 := Tryz.zeroValue0
  t24 := Tryz.underlying106
  a24 := Tryz.isAgg106
  z24 := Tryz.sizeOf106
  v24 := Tryz.zeroValue106
  t26 := Tryz.underlying9
  a26 := Tryz.isAgg9
  z26 := Tryz.sizeOf9
  v26 := Tryz.zeroValue9
  t28 := Tryz.underlying150
  a28 := Tryz.isAgg150
  z28 := Tryz.sizeOf150
  v28 := Tryz.zeroValue150
  i26 := by kernel_rfl }
def Lsort_ren : Go.Shelf.Ren := ⟨fun | 6 => 132 | 8 => 143 | 9 => 142 | 19 => 159 | 20 => 160 | 21 => 150 | 22 => 151 | 23 => 152 | 24 => 153 | 25 => 154 | 26 => 155 | 27 => 156 | 28 => 157 | 29 => 158 | 36 => 165 | 31 => 166 | 32 => 167 | 37 => 168 | 38 => 169 | 39 => 170 | 41 => 173 | n => n, fun | 27 => 106 | 29 => 9 | 3 => 3 | 32 => 40 | 26 => 106 | 0 => 0 | 44 => 127 | 46 => 176 | 4 => 4 | 36 => 193 | 35 => 192 | 41 => 197 | 5 => 5 | 9 => 9 | 53 => 204 | 57 => 208 | 63 => 210 | 64 => 211 | n => n, fun | n => n⟩
theorem Lsort : Go.Proofs.SlLaysM.n6 Tryz.prog Lsort_ren := {
  mixed := by kernel_rfl
  f6 := ⟨Tryz.f132.name, by decide, Tryz.func132.trans (congrArg some (by kernel_rfl))⟩
  f8 := Tryz.func143.trans (congrArg some (by kernel_rfl))
  f9 := ⟨Tryz.f142.name, by decide, Tryz.func142.trans (congrArg some (by kernel_rfl))⟩
  f19 := Tryz.func159.trans (congrArg some (by kernel_rfl))
  f20 := Tryz.func160.trans (congrArg some (by kernel_rfl))
  f21 := ⟨Tryz.f150.name, by decide, Tryz.func150.trans (congrArg some (by kernel_rfl))⟩
  f22 := ⟨Tryz.f151.name, by decide, Tryz.func151.trans (congrArg some (by kernel_rfl))⟩
  f23 := ⟨Tryz.f152.name, by decide, Tryz.func152.trans (congrArg some (by kernel_rfl))⟩
  f24 := ⟨Tryz.f153.name, by decide, Tryz.func153.trans (congrArg some (by kernel_rfl))⟩
  f25 := ⟨Tryz.f154.name, by decide, Tryz.func154.trans (congrArg some (by kernel_rfl))⟩
  f26 := ⟨Tryz.f155.name, by decide, Tryz.func155.trans (congrArg some (by kernel_rfl))⟩
  f27 := ⟨Tryz.f156.name, by decide, Tryz.func156.trans (congrArg some (by kernel_rfl))⟩
  f28 := ⟨Tryz.f157.name, by decide, Tryz.func157.trans (congrArg some (by kernel_rfl))⟩
  f29 := ⟨Tryz.f158.name, by decide, Tryz.func158.trans (congrArg some (by kernel_rfl))⟩
  f31 := Tryz.func166.trans (congrArg some (by kernel_rfl))
  f32 := Tryz.func167.trans (congrArg some (by kernel_rfl))
  f36 := ⟨Tryz.f165.name, by decide, Tryz.func165.trans (congrArg some (by kernel_rfl))⟩
  f37 := ⟨Tryz.f168.name, by decide, Tryz.func168.trans (congrArg some (by kernel_rfl))⟩
  f38 := ⟨Tryz.f169.name, by decide, Tryz.func169.trans (congrArg some (by kernel_rfl))⟩
  f39 := ⟨Tryz.f170.name, by decide, Tryz.func170.trans (congrArg some (by kernel_rfl))⟩
  f41 := ⟨Tryz.f173.name, by decide, Tryz.func173.trans (congrArg some (by kernel_rfl))⟩
  t0 := Tryz.underlying0
  a0 := Tryz.isAgg0
  z0 := Tryz.sizeOf0
  v0 := Tryz.zeroValue0
  t3 := Tryz.underlying3
  a3 := Tryz.isAgg3
  z3 := Tryz.sizeOf3
  v3 := Tryz.zeroValue3
  t4 := Tryz.underlying4
  a4 := Tryz.isAgg4
  z4 := Tryz.sizeOf4
  v4 := Tryz.zeroValue4
  t5 := Tryz.underlying5
  a5 := Tryz.isAgg5
  z5 := Tryz.sizeOf5
  v5 := Tryz.zeroValue5
  t9 := Tryz.underlying9
  a9 := Tryz.isAgg9
  z9 := Tryz.sizeOf9
  v9 := Tryz.zeroValue9
  t26 := Tryz.underlying106
  a26 := Tryz.isAgg106
  z26 := Tryz.sizeOf106
  v26 := Tryz.zeroValue106
  t27 := Tryz.underlying106
  a27 := Tryz.isAgg106
  z27 := Tryz.sizeOf106
  v27 := Tryz.zeroValue106
  t29 := Tryz.underlying9
  a29 := Tryz.isAgg9
  z29 := Tryz.sizeOf9
  v29 := Tryz.zeroValue9
  t32 := Tryz.underlying40
  a32 := Tryz.isAgg40
  z32 := Tryz.sizeOf40
  v32 := Tryz.zeroValue40
  t35 := Tryz.underlying192
  a35 := Tryz.isAgg192
  z35 := Tryz.sizeOf192
  v35 := Tryz.zeroValue192
  t36 := Tryz.underlying193
  a36 := Tryz.isAgg193
  z36 := Tryz.sizeOf193
  v36 := Tryz.zeroValue193
  t41 := Tryz.underlying197
  a41 := Tryz.isAgg197
  z41 := Tryz.sizeOf197
  v41 := Tryz.zeroValue197
  t44 := Tryz.underlying127
  a44 := Tryz.isAgg127
  z44 := Tryz.sizeOf127
  v44 := Tryz.zeroValue127
  t46 := Tryz.underlying176
  a46 := Tryz.isAgg176
  z46 := Tryz.sizeOf176
  v46 := Tryz.zeroValue176
  t53 := Tryz.underlying204
  a53 := Tryz.isAgg204
  z53 := Tryz.sizeOf204
  v53 := Tryz.zeroValue204
  t57 := Tryz.underlying208
  a57 := Tryz.isAgg208
  z57 := Tryz.sizeOf208
  v57 := Tryz.zeroValue208
  t63 := Tryz.underlying210
  a63 := Tryz.isAgg210
  z63 := Tryz.sizeOf210
  v63 := Tryz.zeroValue210
  t64 := Tryz.underlying211
  a64 := Tryz.isAgg211
  z64 := Tryz.sizeOf211
  v64 := Tryz.zeroValue211 }
end Go.Proofs.YteamnhpplclmfaaGreatDoor
end
section
namespace Go.Proofs.YteamnhpplclmfaaGreatDoor
open Go.RowKit Go.Sx Go.Maps Go.Sort Go.Shelf
set_option linter.unusedVariables false

/-- texts in their order -/
def sortT (l : List (List UInt8)) : List (List UInt8) := l.mergeSort fun x y => decide (x ≤ y)
theorem sortT_pw (l : List (List UInt8)) : (sortT l).Pairwise (· ≤ ·) := by
  have h := List.pairwise_mergeSort (le := fun x y : List UInt8 => decide (x ≤ y)) (fun a b c h1 h2 => by simp at *; exact List.le_trans h1 h2) (fun a b => by simp; exact List.le_total a b) l
  exact h.imp (by simp)
theorem sortT_perm (l : List (List UInt8)) : (sortT l).Perm l := List.mergeSort_perm l _
theorem sorted_eq {l m : List (List UInt8)} (h : l.Perm m) (hl : l.Pairwise (· ≤ ·)) (hm : m.Pairwise (· ≤ ·)) : l = m := by
  induction l generalizing m with
  | nil => exact (List.Perm.nil_eq h)
  | cons a l ih =>
    cases m with
    | nil => exact absurd h.length_eq (by simp)
    | cons b m =>
      have hab : a = b := by
        have h1 : a ∈ b :: m := h.mem_iff.1 (by simp)
        have h2 : b ∈ a :: l := h.mem_iff.2 (by simp)
        rcases List.mem_cons.1 h1 with h1 | h1
        · exact h1
        · rcases List.mem_cons.1 h2 with h2 | h2
          · exact h2.symm
          · exact List.le_antisymm ((List.pairwise_cons.1 hl).1 b h2) ((List.pairwise_cons.1 hm).1 a h1)
      subst hab
      rw [ih (h.cons_inv) (List.pairwise_cons.1 hl).2 (List.pairwise_cons.1 hm).2]
theorem sortT_congr {l m : List (List UInt8)} (h : l.Perm m) : sortT l = sortT m := sorted_eq ((sortT_perm l).trans (h.trans (sortT_perm m).symm)) (sortT_pw l) (sortT_pw m)
theorem sorts (m : Nat) : AnyZ.SortsIn Tryz.prog Lsorted_ren Fence.wide m :=
  ⟨fun blk off cap ss W hH hblk hsz => callsIn_wide.2 (AnyM.slices_Sort_string Lsort blk off cap ss W hH hblk hsz),
   fun p cap W => callsIn_wide.2 (AnyM.slices_Sort_string_none Lsort p cap W)⟩
theorem keys_call (mb : Option Nat) (W : World) : CallsIn Fence.wide 5 Tryz.prog 113 #[.map mb] W fun e w' => e = .returned (.func (.func 133) #[] #[.pointer (some ⟨W.heap.size, 0, none⟩)]) ∧ w' = W.alloc (.cells #[.map mb] TM) :=
  AnyZ.keys_in Lkeys Fence.wide 5 trivial rfl mb W
set_option maxHeartbeats 1000000 in
theorem sorted_call {H : Type} (Bm b nn : Nat) (D0 : DataW H) (R : Value → Option (DataW H × List MemPlace)) (w : World) (hBm : Bm < w.heap.size) (hm : w.cell? ⟨Bm, 0, none⟩ = some (.map (some b))) (hown : w.ownsMap Tryz.prog 9 R b nn D0) (hmax : Maps.size D0 ≤ maxLen) (hbytes : Maps.size D0 * 16 ≤ 140737488355328) :
    Calls Tryz.prog 112 ([.func (.func 133) #[] #[ptr Bm]] : List Value).toArray w fun e w' => ∃ (v : Value) (ss : List (List UInt8)), e = .returned v ∧ ss.Perm (strKeys D0) ∧
      w'.ownsRow w.heap.size 9 1 v ss.length ((sortT ss).map encStr) ∧ (v = .slice none 0 0 ↔ ss = []) ∧ Below w.heap.size w w' := by
  have hseq : SeqGives Fence.wide 2 Tryz.prog 133 #[.pointer (some ⟨Bm, 0, none⟩)] encStr (fun ss => ss.Perm (strKeys D0)) (Maps.size D0) w :=
    AnyZ.keys_gives (ρ := Lkeys_ren) { Lkeys with } Fence.wide _ trivial rfl (by omega) Bm b nn D0 _ hBm hm hown
  exact (callsIn_wide (n := 5)).1 (AnyZ.sorted_in Lsorted Fence.wide 5 trivial trivial trivial trivial rfl (by omega) (sorts _) (enters_of Tryz.func132 (by kernel_rfl) rfl) 133 #[.pointer (some ⟨Bm, 0, none⟩)] trivial (enters_of Tryz.func133 (by kernel_rfl) rfl) _ _ hmax hbytes _ hseq)
/-- the map's keys, «as» the contracts speak of them -/
theorem insert_perm {H : Type} (x : Lit × DataW H) (l : List (Lit × DataW H)) : (DataW.insert x l).Perm (x :: l) := by
  induction l with
  | nil => exact .refl _
  | cons y l ih =>
    unfold DataW.insert
    split
    · exact .refl _
    · exact (ih.cons y).trans (.swap x y l)
theorem foldr_perm {H : Type} (l : List (Lit × DataW H)) : (l.foldr DataW.insert []).Perm l := by
  induction l with
  | nil => exact .refl _
  | cons y l ih => exact (insert_perm y _).trans (ih.cons y)
def RU : Value → Option (DataW Unit × List MemPlace) := fun _ => some (.nil, [])
theorem own_of {w : World} {bm clk : Nat} {es : Es (List UInt8)} {rr : Nat → Prop} {fs : List Fe} (hm : w.heap[bm]? = some (mapO keS es clk)) (hF : FilesOk rr w es clk fs) (hn : fs.length ≤ 1000000) :
    ∃ D0 : DataW Unit, w.ownsMap Tryz.prog 9 RU bm es.length D0 ∧ Maps.size D0 = es.length ∧ (strKeys D0).Perm (fs.map (·.name)) := by
  have hlen := hF.all.len
  have hnames := all2_names hF.all
  have hkey : ∀ e ∈ es, WideElems.rd Tryz.prog 9 RU (entS keS e) = some (.string e.1, .nil) := fun e he => by
    obtain ⟨f, hf, h1, _⟩ := hF.all.memL he
    have := (hF.sz f hf).2.2
    unfold WideElems.rd
    have hk : keyOf Tryz.prog 9 (entS keS e).key = some (.string e.1) := by
      have := WideMaps.keyOf_string_mk (k := 9) undST (s := ⟨e.1.toArray⟩) (by rw [size_mk, h1]; unfold maxLen; omega)
      simpa [entS, keS] using this
    rw [hk]; rfl
  have hrg : (es.map (entS keS)).map (WideElems.rg Tryz.prog 9 RU) = es.map fun e => (Lit.string e.1, DataW.nil) := by
    rw [List.map_map]
    exact List.map_congr_left fun e he => by simp only [Function.comp_apply, WideElems.rg, hkey e he]; rfl
  refine ⟨.map (((es.map (entS keS)).map (WideElems.rg Tryz.prog 9 RU)).foldr DataW.insert []), ⟨_, clk, hm, ⟨?_, ⟨?_, ?_, ?_⟩, ?_⟩, by simp, by simp⟩, ?_, ?_⟩
  · simp; unfold maxLen; omega
  · intro x hx
    simp only [List.mem_map] at hx
    obtain ⟨e, he, rfl⟩ := hx
    exact hF.lt e he
  · have := hF.nb
    simpa [List.map_map, Function.comp_def, entS] using this
  · have h1 : (es.map (·.1)).Nodup := by rw [hnames]; exact hF.nn
    have : ((es.map (·.1)).map keS).Nodup := by
      rw [List.nodup_iff_pairwise_ne] at *
      rw [List.pairwise_map]
      exact h1.imp fun {a b} h e => h (by simpa [keS] using e)
    simpa [List.map_map, Function.comp_def, entS] using this
  · intro x hx
    simp only [List.mem_map] at hx
    obtain ⟨e, he, rfl⟩ := hx
    exact ⟨_, hkey e he⟩
  · show List.length _ = _
    rw [(foldr_perm _).length_eq]; simp
  · show (List.map (fun p : Lit × DataW Unit => strOf p.1) _).Perm _
    refine ((foldr_perm _).map _).trans ?_
    rw [hrg, List.map_map, ← hnames]
    exact .refl _
set_option maxRecDepth 100000 in
theorem names_any (S : DkS) (w : World) (h : DkP S w) (hn : S.D.files.length ≤ 1000000) : Calls Tryz.prog 65 ([ptr S.bd] : List Value).toArray w fun e w' =>
    ∃ r, e = .returned (sv r S.D.files.length) ∧ Rw 1 S.D.files.length r (txtCells (sortT (S.D.files.map (·.name)))) ∧ Made w w' r (txtCells (sortT (S.D.files.map (·.name)))) 9 ∧ Below w.heap.size w w' := by
  refine (enter tab_ok Tryz.func65 rfl Tryz.ntmps65 rfl (dk_ro h) (R := fun v w' => ∃ r, v = sv r S.D.files.length ∧ Rw 1 S.D.files.length r (txtCells (sortT (S.D.files.map (·.name)))) ∧ Made w w' r (txtCells (sortT (S.D.files.map (·.name)))) 9 ∧ Below w.heap.size w w') ?_).mono (fun e w' ⟨v, he, r, h1, h2⟩ => ⟨r, by rw [he, h1], h2⟩)
  refine cf rfl ?_
  refine ld1 0 rfl (v := .map (some S.bm)) rfl ?_
  refine cn (v := fun b => .func (.func 133) #[] #[ptr b]) (o := .cells #[.map (some S.bm)] TM (0, 0)) (fun w1 hs => ?_) (fun bk1 => ?_)
  · refine ((callsIn_wide (n := 5)).1 (keys_call (some S.bm) w1)).mono ?_
    rintro e w2 ⟨rfl, rfl⟩
    exact ⟨w1.heap.size, rfl, Nat.le_refl _, heap_alloc_new w1 _, below_alloc1 w1 _⟩
  refine coV (n := S.D.files.length) (z := 1) (xs := txtCells (sortT (S.D.files.map (·.name)))) (e := 9) id (fun w1 hs => ?_) (fun r hR => ?_)
  · have hk := hs.nth (k := 2) rfl
    have hm : w1.cell? ⟨bk1, 0, none⟩ = some (.map (some S.bm)) := hs.cell (k := 2) rfl 0
    have hr : ∀ k, S.rr k → w1.heap[k]? = w.heap[k]? := fun k hk => hs.below.block k (h.r k hk).1
    obtain ⟨D0, hown, hsz, hp⟩ := own_of (w := w1) (hs.nth (k := 1) rfl) (h.f.same hr) hn
    have hl := h.f.all.len
    refine (sorted_call bk1 S.bm _ D0 RU w1 (hs.lt (List.mem_of_getElem? (i := 2) rfl) rfl) hm hown (by rw [hsz]; unfold maxLen; omega) (by rw [hsz]; omega)).mono ?_
    rintro e w2 ⟨v, ss, rfl, hss, hrow, hnil, hb⟩
    have hsl : ss.length = S.D.files.length := by rw [(hss.trans hp).length_eq]; simp
    have hst : (sortT ss).map encStr = txtCells (sortT (S.D.files.map (·.name))) := by rw [sortT_congr (hss.trans hp)]; rfl
    rw [hst, hsl] at hrow
    obtain ⟨h1, h2 | ⟨g, cap, cur, h2, h3, h4, h5, h6, h7, h8⟩⟩ := hrow
    · obtain ⟨rfl, h0⟩ := h2
      exact ⟨none, by rw [h0]; rfl, ⟨h1, h0⟩, fun _ _ _ h => (by cases h), hb⟩
    · rw [Nat.mul_one] at h8
      have hcur : cur = (txtCells (sortT (S.D.files.map (·.name))) ++ cur.toList.drop S.D.files.length).toArray := by
        apply Array.ext'
        rw [← h8]; simp
      refine ⟨some (g, cap, cur.toList.drop S.D.files.length), by rw [h2]; rfl, ⟨h1, h5, h6, ?_⟩, ?_, hb⟩
      · rw [← h8, List.take_append_drop]; simpa using h7
      · rintro b c j hj
        obtain ⟨rfl, rfl, rfl⟩ : g = b ∧ cap = c ∧ cur.toList.drop S.D.files.length = j := by injection hj with hj; injection hj with a1 a2; injection a2 with a2 a3; exact ⟨a1, a2, a3⟩
        exact ⟨h3, by rw [← hcur]; exact h4⟩
  exact ⟨fun w1 hs => ⟨r, rfl, hR, made_of hs rfl 3 rfl, hs.below⟩⟩
theorem clone_run (bm : Nat) (w : World) {es : Array MapEntry} {clk : Nat} (hm : w.heap[bm]? = some (.map es clk)) : (callFunc 134 #[.iface TM (.map (some bm))]).run Tryz.prog w = .ok (.value (.iface TM (.map (some w.heap.size)))) (w.alloc (.map es clk)) := by
  rw [run_callFunc_extern Tryz.func134 (by kernel_rfl) (by kernel_rfl) (by kernel_rfl) (e := Extern.MapsClone.clone) (by kernel_rfl)]
  have e : Extern.MapsClone.clone #[.iface TM (.map (some bm))] = (getObj bm >>= fun o => match o with
    | .map entries clock => (newObj (.map entries clock) >>= fun r => pure (.iface TM (.map (some r))))
    | _ => stuck "maps.clone: a map expected") := rfl
  simp only [e, Sem.run_bind, run_getObj hm (by simp), Result.andThen_ok, run_newObj_alloc, Sem.run_pure]
theorem assertM (b : Nat) (w : World) : (Instr.typeAssert (.iface TM (.map (some b))) 20 TM false).run Tryz.prog w = .ok (.map (some b)) w := by
  kernel_rfl
/-- a function that the program's text doesn't have, and that makes a block -/
theorem extA {C : Cx} {L : List Ent} {o : Oper} {σ : Fr} {v : Nat → Value} {ob : Obj} {next : Value → List Ent → Prop} {x : Operand} {aa : Array Operand} {ts : Array TypeId} {g : FuncId} {vs : List Value} (ho : o.op = .call ⟨.value x, aa, ts⟩) (hx : ev σ x (· = .func (.func g) #[] #[])) (ha : evs σ aa.toList (· = vs))
    (h : ∀ w, St C.M C.B w L → (callFunc g vs.toArray).run C.P w = .ok (.value (v w.heap.size)) (w.alloc ob)) (go : ∀ b, next (v b) (L ++ [⟨b, some ob, false, none⟩])) : OpP C o σ L next := by
  refine ⟨fun ρ w hf hs => ?_⟩
  have e1 := hf x _ hx
  have e2 := hf.evs _ _ ha
  have e3 : aa.map ρ = vs.toArray := by apply Array.ext'; rw [← e2]; simp
  refine Go.Sx.Fin.val (v := v w.heap.size) (w' := w.alloc ob) ?_ (hs.alloc ob) (go _)
  unfold execOp
  simp only [ho, resolve, e1, e3]
  simp [Deferred.ofValue, invoke, h w hs]
/-- another disk like it, elsewhere -/
def DkS.at (S : DkS) (x : Nat × Nat) : DkS := { S with bd := x.1, bm := x.2 }
set_option maxRecDepth 100000 in
theorem copyd_any (S : DkS) (w : World) (h : DkP S w) : Calls Tryz.prog 83 ([ptr S.bd] : List Value).toArray w fun e w' => ∃ x : Nat × Nat, True ∧ e = .returned (ptr x.1) ∧ Below w.heap.size w w' ∧ (dkR (S.at x)).p w' ∧ (∀ k, (dkR (S.at x)).w k → w.heap.size ≤ k) := by
  refine (enter tab_ok Tryz.func83 rfl Tryz.ntmps83 rfl (dk_ro h) (R := fun v w' => ∃ x : Nat × Nat, v = ptr x.1 ∧ Below w.heap.size w w' ∧ (dkR (S.at x)).p w' ∧ (∀ k, (dkR (S.at x)).w k → w.heap.size ≤ k)) ?_).mono (fun e w' ⟨v, he, x, h1, h2⟩ => ⟨x, trivial, by rw [he, h1], h2⟩)
  refine cf rfl ?_
  refine dr [cr S.bd (dkC S.D S.bm) TD, mr S.bm S.es S.clk] 99 (.t 0 (.t 1 (.t 2 (.t 3 (.t 4 (.t 5 (.t 6 (.t 7 (.t 8 (.t 9 (.t 10 (.t 11 (.n 12 (.t 13 (.n 14 (.t 15 .nil)))))))))))))))) tab_ok mixed_ok (by kernel_rfl) (.cons (.cons .nil)) ?_
  refine ldP 0 rfl (d := #[.int .i64 S.D.steps, .int .i64 S.D.left, .bool S.D.armed, .bool S.D.gone]) rfl (by simp [dkC, nad_eq]) ?_
  refine ld1 0 rfl (v := .int .i64 S.D.quota) rfl ?_
  refine ld1 0 rfl (v := .map (some S.bm)) rfl ?_
  refine inl (C := ⟨Tryz.prog, tab, 20, [], w, none⟩) tab_ok Tryz.func118 rfl Tryz.ntmps118 rfl ?_
  refine cf rfl ?_
  refine extA (v := fun b => .iface TM (.map (some b))) (ob := mapO keS S.es S.clk) rfl rfl rfl (fun w1 hs => clone_run S.bm w1 (hs.nth (k := 1) rfl)) (fun bm' => ?_)
  refine semV (fun w _ => assertM bm' w) ?_
  refine bk ?_
  refine ⟨.cons (.cons .nil), ?_⟩
  refine bu (c := #[.int .i64 S.D.steps, .int .i64 S.D.left, .bool S.D.armed, .bool S.D.gone, .int .i64 S.D.quota, .map (some bm')]) (by kernel_rfl) ?_
  intro bd'
  refine ⟨.cons (.cons .nil), ?_⟩
  refine ⟨fun w1 hs => ⟨(bd', bm'), rfl, hs.below, ?_, ?_⟩⟩
  · have hr : ∀ k, S.rr k → w1.heap[k]? = w.heap[k]? := fun k hk => hs.below.block k (h.r k hk).1
    have n1 : w.heap.size ≤ bm' := by
      rcases hs.own _ (List.mem_of_getElem? (i := 2) rfl) rfl rfl with h | h
      · exact h
      · simp at h
    have n2 : w.heap.size ≤ bd' := by
      rcases hs.own _ (List.mem_of_getElem? (i := 3) rfl) rfl rfl with h | h
      · exact h
      · simp at h
    refine ⟨hs.nth (k := 3) rfl, hs.nth (k := 2) rfl, h.f.same hr, ?_, fun k hk => ?_⟩
    · have := pw_ne hs.apart (i := 2) (j := 3) rfl rfl (by decide)
      have h2 := (this bd').2 (by simp)
      simp at h2
      exact fun e => h2 e.symm
    · have := (h.r k hk).1
      have hsz : w.heap.size ≤ w1.heap.size := hs.size
      exact ⟨by omega, by show k ≠ bd'; omega, by show k ≠ bm'; omega⟩
  · rintro k (rfl | rfl)
    · rcases hs.own _ (List.mem_of_getElem? (i := 3) rfl) rfl rfl with h | h
      · exact h
      · simp at h
    · rcases hs.own _ (List.mem_of_getElem? (i := 2) rfl) rfl rfl with h | h
      · exact h
      · simp at h
end Go.Proofs.YteamnhpplclmfaaGreatDoor
end
section
namespace Go.Proofs.YteamnhpplclmfaaGreatDoor
open Go.RowKit Go.Sx
set_option linter.unusedVariables false

abbrev TR : Nat := 58
abbrev TFi : Nat := 77
abbrev TFs : Nat := 56
/-- the cells of files, each with its bytes' slice -/
def rfC (ps : List (Value × Fe)) : List Value := ps.flatMap fun p => [VS p.2.name, p.1, .int .i64 p.2.sure]
theorem rfC_len (ps : List (Value × Fe)) : (rfC ps).length = ps.length * 3 := by
  induction ps with
  | nil => rfl
  | cons p l ih => simp only [rfC, List.flatMap_cons, List.length_append, List.length_cons, List.length_nil] at *; omega
theorem rfC_app (a b : List (Value × Fe)) : rfC (a ++ b) = rfC a ++ rfC b := by simp [rfC]
theorem rfC_get (ps : List (Value × Fe)) (i : Nat) (h : i < ps.length) : (rfC ps)[i * 3]? = some (VS ps[i].2.name) ∧ (rfC ps)[i * 3 + 1]? = some ps[i].1 ∧ (rfC ps)[i * 3 + 2]? = some (.int .i64 ps[i].2.sure) := by
  induction ps generalizing i with
  | nil => cases h
  | cons p l ih =>
    cases i with
    | zero => exact ⟨rfl, rfl, rfl⟩
    | succ i =>
      have := ih i (by simpa using h)
      rw [show (i + 1) * 3 = i * 3 + 3 by omega]
      exact this
/-- files that a slice reads, in blocks of a kind -/
def RFs (rr : Nat → Prop) (u : World) (fv : Value) (fs : List Fe) : Prop := ∃ ps : List (Value × Fe), ps.map (·.2) = fs ∧ (∀ p ∈ ps, RdR rr u p.1 (Lib.byteCells p.2.bs)) ∧ ∃ a c, fv = .slice a fs.length c ∧ (fs ≠ [] → ∃ b o, a = some ⟨b, o, none⟩ ∧ rr b ∧ b < u.heap.size ∧ ∀ j x, (rfC ps)[j]? = some x → u.cell? ⟨b, o + j, none⟩ = some x)
theorem RFs.same {rr : Nat → Prop} {u v : World} {fv : Value} {fs : List Fe} (hs : ∀ k, rr k → v.heap[k]? = u.heap[k]?) (h : RFs rr u fv fs) : RFs rr v fv fs := by
  obtain ⟨ps, h1, h2, a, c, h3, h4⟩ := h
  refine ⟨ps, h1, fun p hp => (h2 p hp).same hs, a, c, h3, fun hne => ?_⟩
  obtain ⟨b, o, e, hb, hl, hc⟩ := h4 hne
  have hbb := hs b hb
  refine ⟨b, o, e, hb, ?_, fun j x hx => ?_⟩
  · rw [Array.getElem?_eq_getElem hl] at hbb
    exact (Array.getElem?_eq_some_iff.1 hbb).1
  · rw [← hc j x hx]; simp only [World.cell?, hbb]
theorem RFs.nil (rr : Nat → Prop) (u : World) (a : Option Addr) (c : Nat) : RFs rr u (.slice a 0 c) [] := ⟨[], rfl, (fun p hp => by cases hp), a, c, rfl, fun h => absurd rfl h⟩
theorem RFs.mono {rr rr' : Nat → Prop} {u : World} {fv : Value} {fs : List Fe} (hr : ∀ k, rr k → rr' k) (h : RFs rr u fv fs) : RFs rr' u fv fs := by
  obtain ⟨ps, h1, h2, a, c, h3, h4⟩ := h
  refine ⟨ps, h1, fun p hp => (h2 p hp).mono hr, a, c, h3, fun hne => ?_⟩
  obtain ⟨b, o, e, hb, hl, hc⟩ := h4 hne
  exact ⟨b, o, e, hr b hb, hl, hc⟩
/-- a disk's cells -/
def rdC (M : Dk) (fv : Value) : Array Value := #[.int .i64 M.quota, .int .i64 M.steps, .int .i64 M.left, .bool M.armed, .bool M.gone, fv]
/-- where a file stands -/
def atF (n : List UInt8) : List Fe → Nat → Int
  | [], _ => -1
  | f :: l, i => if f.name = n then i else atF n l (i + 1)
theorem atF_drop (n : List UInt8) (fs : List Fe) (i : Nat) (h : i < fs.length) : atF n (fs.drop i) i = if fs[i].name = n then (i : Int) else atF n (fs.drop (i + 1)) (i + 1) := by
  rw [List.drop_eq_getElem_cons h]; rfl
theorem bytesLess_eq (a b : List UInt8) : Op.bytesLess a b = decide (a < b) := by
  induction a generalizing b with
  | nil => cases b <;> simp [Op.bytesLess]
  | cons x a ih =>
    cases b with
    | nil => simp [Op.bytesLess]
    | cons y b =>
      simp only [Op.bytesLess, ih, List.cons_lt_cons_iff]
      rw [Bool.eq_iff_iff]
      simp
theorem str_beq (a b : List UInt8) : ((ByteArray.mk a.toArray).toList == (ByteArray.mk b.toArray).toList) = decide (a = b) := list_beq a b
theorem str_less (a b : List UInt8) : Op.bytesLess (ByteArray.mk a.toArray).toList (ByteArray.mk b.toArray).toList = decide (a < b) := by
  have : ∀ l : List UInt8, (ByteArray.mk l.toArray).toList = l := fun l => by simp
  rw [this, this, bytesLess_eq]
end Go.Proofs.YteamnhpplclmfaaGreatDoor
end
section
namespace Go.Proofs.YteamnhpplclmfaaGreatDoor
open Go.RowKit Go.Sx
set_option linter.unusedVariables false

set_option maxRecDepth 100000 in
set_option maxHeartbeats 4000000 in
theorem rnamed_any (l : List UInt8) (hl : l.length ≤ 1000000) (w : World) : Calls Tryz.prog 90 ([VS l] : List Value).toArray w fun e w' => e = .returned (.bool (namedL l)) ∧ Below w.heap.size w w' := by
  refine enterV tab_ok Tryz.func90 rfl Tryz.ntmps90 rfl (St.start w) ?_
  have hs := size_mk l
  by_cases h1 : l.length < 1
  · have d1 : decide (((ByteArray.mk l.toArray).size : Int) < 1) = true := decide_eq_true (by rw [hs]; omega)
    have d2 : (decide (((ByteArray.mk l.toArray).size : Int) < 1) == false) = false := by rw [d1]; rfl
    iterate 3 refine cf d2 ?_
    refine ct d1 ?_
    refine ct rfl ?_
    refine rt (congrArg Value.bool ?_)
    unfold namedL; rw [decide_eq_false (show ¬ 1 ≤ l.length by omega)]; rfl
  · have d1 : decide (((ByteArray.mk l.toArray).size : Int) < 1) = false := decide_eq_false (by rw [hs]; omega)
    have d2 : (decide (((ByteArray.mk l.toArray).size : Int) < 1) == false) = true := by rw [d1]; rfl
    iterate 3 refine ct d2 ?_
    refine cf d1 ?_
    by_cases h2 : 64 < l.length
    · refine ct (decide_eq_true (by rw [hs]; omega)) ?_
      refine rt (congrArg Value.bool ?_)
      unfold namedL; rw [decide_eq_false (show ¬ l.length ≤ 64 by omega), Bool.and_false]; rfl
    · refine cf (decide_eq_false (by rw [hs]; omega)) ?_
      refine lp tab_ok (fun i : Nat => i ≤ l.length ∧ (l.take i).all nameB = true) (fun i => ⟨[(0, VS l), (3, .int .i64 i)], [], []⟩) (fun i => l.length - i) 0 ⟨Nat.zero_le _, rfl⟩ ⟨⟨rfl, rfl, trivial⟩, .nil, rfl⟩ ?_
      rintro i ⟨hi, hall⟩
      refine cd (fun h => ?_) (fun h => ?_)
      · have hlt : i < l.length := by rw [hs] at h; omega
        refine ⟨by omega, by rw [hs]; omega, ?_⟩
        have hgi : ((ByteArray.mk l.toArray)[((i : Nat) : Int).toNat]'(by rw [hs]; omega)) = l[i] := by
          show l.toArray[((i : Nat) : Int).toNat]'_ = _
          simp
        rw [hgi]
        have htk : l.take (i + 1) = l.take i ++ [l[i]] := List.take_succ_eq_append_getElem hlt
        have hok : nameN l[i].toNat = true → (l.take (i + 1)).all nameB = true := fun h => by rw [htk, List.all_append, hall]; simpa [nameB] using h
        have hno : nameN l[i].toNat = false → namedL l = false := fun h => by
          have : l.all nameB = false := List.all_eq_false.2 ⟨l[i], List.getElem_mem hlt, by simp [nameB, h]⟩
          unfold namedL; rw [this, Bool.and_false]
        generalize l[i].toNat = n at *
        by_cases h0 : 97 ≤ n
        · have d1 : decide ((n : Int) ≥ 97) = true := decide_eq_true (by omega)
          have d2 : (decide ((n : Int) ≥ 97) == true) = true := by rw [d1]; rfl
          refine ct d2 ?_
          refine ct d2 ?_
          refine ct d1 ?_
          by_cases g0 : n ≤ 122
          · have e5 : decide ((n : Int) ≤ 122) = true := decide_eq_true (by omega)
            by_cases h1 : 48 ≤ n
            · have d1 : decide ((n : Int) ≥ 48) = true := decide_eq_true (by omega)
              have d2 : (decide ((n : Int) ≥ 48) == true) = true := by rw [d1]; rfl
              refine ct d2 ?_
              refine ct d2 ?_
              refine ct d1 ?_
              by_cases g1 : n ≤ 57
              · have e6 : decide ((n : Int) ≤ 57) = true := decide_eq_true (by omega)
                refine cf (by first | rfl | (rw [e5]; rfl)) ?_
                refine cf (by first | rfl | (rw [e5]; rfl)) ?_
                refine cf (by first | rfl | (rw [e5]; rfl)) ?_
                refine cf rfl ?_
                refine cf rfl ?_
                refine cf rfl ?_
                refine cf rfl ?_
                refine cf rfl ?_
                refine cf rfl ?_
                refine cf rfl ?_
                refine .as ((i + 1 : Nat) : Int) (by simp) (by simp only [mn]; omega) (by simp only [mx]; omega) ?_
                exact ⟨i + 1, ⟨by omega, hok (by unfold nameN; simp; omega)⟩, by omega, ⟨⟨rfl, rfl, trivial⟩, .nil, rfl⟩⟩
              · have e6 : decide ((n : Int) ≤ 57) = false := decide_eq_false (by omega)
                refine cf (by first | rfl | (rw [e5]; rfl)) ?_
                refine cf (by first | rfl | (rw [e5]; rfl)) ?_
                refine cf (by first | rfl | (rw [e5]; rfl)) ?_
                refine cf rfl ?_
                refine cf rfl ?_
                refine cf rfl ?_
                refine cf rfl ?_
                refine cf rfl ?_
                refine cf rfl ?_
                refine cf rfl ?_
                refine .as ((i + 1 : Nat) : Int) (by simp) (by simp only [mn]; omega) (by simp only [mx]; omega) ?_
                exact ⟨i + 1, ⟨by omega, hok (by unfold nameN; simp; omega)⟩, by omega, ⟨⟨rfl, rfl, trivial⟩, .nil, rfl⟩⟩
            · have d1 : decide ((n : Int) ≥ 48) = false := decide_eq_false (by omega)
              have d2 : (decide ((n : Int) ≥ 48) == true) = false := by rw [d1]; rfl
              refine cf d2 ?_
              refine cf d2 ?_
              refine cf d1 ?_
              have e6 : false = false := rfl
              refine cf (by first | rfl | (rw [e5]; rfl)) ?_
              refine cf (by first | rfl | (rw [e5]; rfl)) ?_
              refine cf (by first | rfl | (rw [e5]; rfl)) ?_
              refine cf rfl ?_
              refine cf rfl ?_
              refine cf rfl ?_
              refine cf rfl ?_
              refine cf rfl ?_
              refine cf rfl ?_
              refine cf rfl ?_
              refine .as ((i + 1 : Nat) : Int) (by simp) (by simp only [mn]; omega) (by simp only [mx]; omega) ?_
              exact ⟨i + 1, ⟨by omega, hok (by unfold nameN; simp; omega)⟩, by omega, ⟨⟨rfl, rfl, trivial⟩, .nil, rfl⟩⟩
          · have e5 : decide ((n : Int) ≤ 122) = false := decide_eq_false (by omega)
            by_cases h1 : 48 ≤ n
            · have d1 : decide ((n : Int) ≥ 48) = true := decide_eq_true (by omega)
              have d2 : (decide ((n : Int) ≥ 48) == true) = true := by rw [d1]; rfl
              refine ct d2 ?_
              refine ct d2 ?_
              refine ct d1 ?_
              by_cases g1 : n ≤ 57
              · have e6 : decide ((n : Int) ≤ 57) = true := decide_eq_true (by omega)
                refine ct (by first | rfl | (rw [e5]; rfl)) ?_
                refine ct (by first | rfl | (rw [e5]; rfl)) ?_
                refine ct (by first | rfl | (rw [e5]; rfl)) ?_
                refine cf (by first | rfl | (rw [e6]; rfl)) ?_
                refine cf (by first | rfl | (rw [e6]; rfl)) ?_
                refine cf (by first | rfl | (rw [e6]; rfl)) ?_
                refine cf rfl ?_
                refine cf rfl ?_
                refine cf rfl ?_
                refine cf rfl ?_
                refine .as ((i + 1 : Nat) : Int) (by simp) (by simp only [mn]; omega) (by simp only [mx]; omega) ?_
                exact ⟨i + 1, ⟨by omega, hok (by unfold nameN; simp; omega)⟩, by omega, ⟨⟨rfl, rfl, trivial⟩, .nil, rfl⟩⟩
              · have e6 : decide ((n : Int) ≤ 57) = false := decide_eq_false (by omega)
                refine ct (by first | rfl | (rw [e5]; rfl)) ?_
                refine ct (by first | rfl | (rw [e5]; rfl)) ?_
                refine ct (by first | rfl | (rw [e5]; rfl)) ?_
                refine ct (by first | rfl | (rw [e6]; rfl)) ?_
                refine ct (by first | rfl | (rw [e6]; rfl)) ?_
                refine ct (by first | rfl | (rw [e6]; rfl)) ?_
                by_cases h46 : n = 46
                · have e7 : ((n : Int) != 46) = false := by rw [h46]; rfl
                  refine cf (by rw [e7]; rfl) ?_
                  refine cf (by rw [e7]; rfl) ?_
                  refine cf e7 ?_
                  refine cf rfl ?_
                  refine .as ((i + 1 : Nat) : Int) (by simp) (by simp only [mn]; omega) (by simp only [mx]; omega) ?_
                  exact ⟨i + 1, ⟨by omega, hok (by unfold nameN; simp; omega)⟩, by omega, ⟨⟨rfl, rfl, trivial⟩, .nil, rfl⟩⟩
                · have e7 : ((n : Int) != 46) = true := bne_iff_ne.2 (by omega)
                  refine ct (by rw [e7]; rfl) ?_
                  refine ct (by rw [e7]; rfl) ?_
                  refine ct e7 ?_
                  by_cases h45 : n = 45
                  · refine cf (by rw [h45]; rfl) ?_
                    refine .as ((i + 1 : Nat) : Int) (by simp) (by simp only [mn]; omega) (by simp only [mx]; omega) ?_
                    exact ⟨i + 1, ⟨by omega, hok (by unfold nameN; simp; omega)⟩, by omega, ⟨⟨rfl, rfl, trivial⟩, .nil, rfl⟩⟩
                  · refine ct (bne_iff_ne.2 (by omega)) ?_
                    exact rt (congrArg Value.bool (hno (by unfold nameN; simp; omega)).symm)
            · have d1 : decide ((n : Int) ≥ 48) = false := decide_eq_false (by omega)
              have d2 : (decide ((n : Int) ≥ 48) == true) = false := by rw [d1]; rfl
              refine cf d2 ?_
              refine cf d2 ?_
              refine cf d1 ?_
              have e6 : false = false := rfl
              refine ct (by first | rfl | (rw [e5]; rfl)) ?_
              refine ct (by first | rfl | (rw [e5]; rfl)) ?_
              refine ct (by first | rfl | (rw [e5]; rfl)) ?_
              refine ct (by first | rfl | (rw [e6]; rfl)) ?_
              refine ct (by first | rfl | (rw [e6]; rfl)) ?_
              refine ct (by first | rfl | (rw [e6]; rfl)) ?_
              by_cases h46 : n = 46
              · have e7 : ((n : Int) != 46) = false := by rw [h46]; rfl
                refine cf (by rw [e7]; rfl) ?_
                refine cf (by rw [e7]; rfl) ?_
                refine cf e7 ?_
                refine cf rfl ?_
                refine .as ((i + 1 : Nat) : Int) (by simp) (by simp only [mn]; omega) (by simp only [mx]; omega) ?_
                exact ⟨i + 1, ⟨by omega, hok (by unfold nameN; simp; omega)⟩, by omega, ⟨⟨rfl, rfl, trivial⟩, .nil, rfl⟩⟩
              · have e7 : ((n : Int) != 46) = true := bne_iff_ne.2 (by omega)
                refine ct (by rw [e7]; rfl) ?_
                refine ct (by rw [e7]; rfl) ?_
                refine ct e7 ?_
                by_cases h45 : n = 45
                · refine cf (by rw [h45]; rfl) ?_
                  refine .as ((i + 1 : Nat) : Int) (by simp) (by simp only [mn]; omega) (by simp only [mx]; omega) ?_
                  exact ⟨i + 1, ⟨by omega, hok (by unfold nameN; simp; omega)⟩, by omega, ⟨⟨rfl, rfl, trivial⟩, .nil, rfl⟩⟩
                · refine ct (bne_iff_ne.2 (by omega)) ?_
                  exact rt (congrArg Value.bool (hno (by unfold nameN; simp; omega)).symm)
        · have d1 : decide ((n : Int) ≥ 97) = false := decide_eq_false (by omega)
          have d2 : (decide ((n : Int) ≥ 97) == true) = false := by rw [d1]; rfl
          refine cf d2 ?_
          refine cf d2 ?_
          refine cf d1 ?_
          have e5 : false = false := rfl
          by_cases h1 : 48 ≤ n
          · have d1 : decide ((n : Int) ≥ 48) = true := decide_eq_true (by omega)
            have d2 : (decide ((n : Int) ≥ 48) == true) = true := by rw [d1]; rfl
            refine ct d2 ?_
            refine ct d2 ?_
            refine ct d1 ?_
            by_cases g1 : n ≤ 57
            · have e6 : decide ((n : Int) ≤ 57) = true := decide_eq_true (by omega)
              refine ct (by first | rfl | (rw [e5]; rfl)) ?_
              refine ct (by first | rfl | (rw [e5]; rfl)) ?_
              refine ct (by first | rfl | (rw [e5]; rfl)) ?_
              refine cf (by first | rfl | (rw [e6]; rfl)) ?_
              refine cf (by first | rfl | (rw [e6]; rfl)) ?_
              refine cf (by first | rfl | (rw [e6]; rfl)) ?_
              refine cf rfl ?_
              refine cf rfl ?_
              refine cf rfl ?_
              refine cf rfl ?_
              refine .as ((i + 1 : Nat) : Int) (by simp) (by simp only [mn]; omega) (by simp only [mx]; omega) ?_
              exact ⟨i + 1, ⟨by omega, hok (by unfold nameN; simp; omega)⟩, by omega, ⟨⟨rfl, rfl, trivial⟩, .nil, rfl⟩⟩
            · have e6 : decide ((n : Int) ≤ 57) = false := decide_eq_false (by omega)
              refine ct (by first | rfl | (rw [e5]; rfl)) ?_
              refine ct (by first | rfl | (rw [e5]; rfl)) ?_
              refine ct (by first | rfl | (rw [e5]; rfl)) ?_
              refine ct (by first | rfl | (rw [e6]; rfl)) ?_
              refine ct (by first | rfl | (rw [e6]; rfl)) ?_
              refine ct (by first | rfl | (rw [e6]; rfl)) ?_
              by_cases h46 : n = 46
              · have e7 : ((n : Int) != 46) = false := by rw [h46]; rfl
                refine cf (by rw [e7]; rfl) ?_
                refine cf (by rw [e7]; rfl) ?_
                refine cf e7 ?_
                refine cf rfl ?_
                refine .as ((i + 1 : Nat) : Int) (by simp) (by simp only [mn]; omega) (by simp only [mx]; omega) ?_
                exact ⟨i + 1, ⟨by omega, hok (by unfold nameN; simp; omega)⟩, by omega, ⟨⟨rfl, rfl, trivial⟩, .nil, rfl⟩⟩
              · have e7 : ((n : Int) != 46) = true := bne_iff_ne.2 (by omega)
                refine ct (by rw [e7]; rfl) ?_
                refine ct (by rw [e7]; rfl) ?_
                refine ct e7 ?_
                by_cases h45 : n = 45
                · refine cf (by rw [h45]; rfl) ?_
                  refine .as ((i + 1 : Nat) : Int) (by simp) (by simp only [mn]; omega) (by simp only [mx]; omega) ?_
                  exact ⟨i + 1, ⟨by omega, hok (by unfold nameN; simp; omega)⟩, by omega, ⟨⟨rfl, rfl, trivial⟩, .nil, rfl⟩⟩
                · refine ct (bne_iff_ne.2 (by omega)) ?_
                  exact rt (congrArg Value.bool (hno (by unfold nameN; simp; omega)).symm)
          · have d1 : decide ((n : Int) ≥ 48) = false := decide_eq_false (by omega)
            have d2 : (decide ((n : Int) ≥ 48) == true) = false := by rw [d1]; rfl
            refine cf d2 ?_
            refine cf d2 ?_
            refine cf d1 ?_
            have e6 : false = false := rfl
            refine ct (by first | rfl | (rw [e5]; rfl)) ?_
            refine ct (by first | rfl | (rw [e5]; rfl)) ?_
            refine ct (by first | rfl | (rw [e5]; rfl)) ?_
            refine ct (by first | rfl | (rw [e6]; rfl)) ?_
            refine ct (by first | rfl | (rw [e6]; rfl)) ?_
            refine ct (by first | rfl | (rw [e6]; rfl)) ?_
            by_cases h46 : n = 46
            · have e7 : ((n : Int) != 46) = false := by rw [h46]; rfl
              refine cf (by rw [e7]; rfl) ?_
              refine cf (by rw [e7]; rfl) ?_
              refine cf e7 ?_
              refine cf rfl ?_
              refine .as ((i + 1 : Nat) : Int) (by simp) (by simp only [mn]; omega) (by simp only [mx]; omega) ?_
              exact ⟨i + 1, ⟨by omega, hok (by unfold nameN; simp; omega)⟩, by omega, ⟨⟨rfl, rfl, trivial⟩, .nil, rfl⟩⟩
            · have e7 : ((n : Int) != 46) = true := bne_iff_ne.2 (by omega)
              refine ct (by rw [e7]; rfl) ?_
              refine ct (by rw [e7]; rfl) ?_
              refine ct e7 ?_
              by_cases h45 : n = 45
              · refine cf (by rw [h45]; rfl) ?_
                refine .as ((i + 1 : Nat) : Int) (by simp) (by simp only [mn]; omega) (by simp only [mx]; omega) ?_
                exact ⟨i + 1, ⟨by omega, hok (by unfold nameN; simp; omega)⟩, by omega, ⟨⟨rfl, rfl, trivial⟩, .nil, rfl⟩⟩
              · refine ct (bne_iff_ne.2 (by omega)) ?_
                exact rt (congrArg Value.bool (hno (by unfold nameN; simp; omega)).symm)
      · obtain rfl : i = l.length := by rw [hs] at h; omega
        rw [List.take_of_length_le (Nat.le_refl _)] at hall
        refine rt (congrArg Value.bool ?_)
        unfold namedL
        rw [hall, decide_eq_true (show 1 ≤ l.length by omega), decide_eq_true (show l.length ≤ 64 by omega)]; rfl
end Go.Proofs.YteamnhpplclmfaaGreatDoor
end
section
namespace Go.Proofs.YteamnhpplclmfaaGreatDoor
open Go.RowKit Go.Sx
set_option linter.unusedVariables false

theorem rfs_at {rr : Nat → Prop} {w : World} {a : Option Addr} {n c : Nat} {fs : List Fe} (h : RFs rr w (.slice a n c) fs) (hne : fs ≠ []) : n = fs.length ∧ ∃ b o, a = some ⟨b, o, none⟩ ∧ rr b ∧ b < w.heap.size ∧ ∃ ps : List (Value × Fe), ps.map (·.2) = fs ∧ (∀ p ∈ ps, RdR rr w p.1 (Lib.byteCells p.2.bs)) ∧ ∀ j x, (rfC ps)[j]? = some x → w.cell? ⟨b, o + j, none⟩ = some x := by
  obtain ⟨ps, h1, h2, a', c', h3, h4⟩ := h
  injection h3 with e1 e2 e3
  subst e1
  obtain ⟨b, o, ha, hr, hb, hc⟩ := h4 hne
  exact ⟨e2, b, o, ha, hr, hb, ps, h1, h2, hc⟩
set_option maxRecDepth 100000 in
theorem rat_any (M : Dk) (fv : Value) (fs : List Fe) (rr : Nat → Prop) (n : List UInt8) (hfs : fs.length ≤ 1000000) (w : World) (h : RFs rr w fv fs) : Calls Tryz.prog 69 ([.agg (rdC M fv), VS n] : List Value).toArray w fun e w' => e = .returned (.int .i64 (atF n fs 0)) ∧ Below w.heap.size w w' := by
  have h0 := h
  obtain ⟨_, _, _, a, c, rfl, _⟩ := h
  refine enterV tab_ok Tryz.func69 rfl Tryz.ntmps69 rfl (St.start w) ?_
  intro b2
  refine lp tab_ok (fun i : Nat => i ≤ fs.length ∧ atF n fs 0 = atF n (fs.drop i) i) (fun i => ⟨[(1, VS n), (2, ptr b2), (5, .int .i64 i)], [cl b2 (rdC M (.slice a fs.length c)) TR], []⟩) (fun i => fs.length - i) 0 ⟨Nat.zero_le _, rfl⟩ ⟨⟨rfl, rfl, rfl, trivial⟩, .cons .nil, rfl⟩ ?_
  rintro i ⟨hi, hat⟩
  refine ld1 0 rfl (v := .slice a fs.length c) rfl ?_
  refine cd (fun h => ?_) (fun h => ?_)
  · have hlt : i < fs.length := by omega
    obtain ⟨_, b, o, rfl, _, hb, ps, hps, _, hc⟩ := rfs_at h0 (by intro e; rw [e] at hlt; simp at hlt)
    have hpl : i < ps.length := by rw [← hps] at hlt; simpa using hlt
    have hpi : ps[i].2 = fs[i] := by subst hps; simp
    obtain ⟨c1, _, _⟩ := rfC_get ps i hpl
    rw [hpi] at c1
    rw [atF_drop n fs i hlt] at hat
    refine ld1 0 rfl (v := .slice (some ⟨b, o, none⟩) fs.length c) rfl ?_
    refine ⟨by omega, by omega, ?_⟩
    refine ldo (v := VS fs[i].name) (by rw [nad_eq, nad_eq, nmu_eq, Int.toNat_natCast, Nat.add_zero]; exact hc _ _ c1) hb ?_
    have hbe := list_beq fs[i].name n
    by_cases he : fs[i].name = n
    · rw [if_pos he] at hat
      refine ct (by rw [hbe, decide_eq_true he]) ?_
      exact rt (by rw [hat]; rfl)
    · rw [if_neg he] at hat
      refine cf (by rw [hbe, decide_eq_false he]) ?_
      refine .as ((i + 1 : Nat) : Int) (by simp) (by simp only [mn]; omega) (by simp only [mx]; omega) ?_
      exact ⟨i + 1, ⟨by omega, hat⟩, by omega, ⟨⟨rfl, rfl, rfl, trivial⟩, .cons .nil, rfl⟩⟩
  · obtain rfl : i = fs.length := by omega
    rw [List.drop_length] at hat
    exact rt (by rw [hat]; rfl)
theorem used_take (fs : List Fe) (i : Nat) (h : i < fs.length) : usedD (fs.take (i + 1)) = usedD (fs.take i) + fs[i].bs.length := by
  unfold usedD
  rw [List.take_succ_eq_append_getElem h, List.map_append, List.sum_append_nat]
  simp only [List.map_cons, List.map_nil, List.sum_cons, List.sum_nil, Nat.add_zero]
theorem used_take_le (fs : List Fe) (i : Nat) : usedD (fs.take i) ≤ usedD fs := by
  have h : usedD fs = usedD (fs.take i) + usedD (fs.drop i) := by
    unfold usedD
    rw [← List.sum_append_nat, ← List.map_append, List.take_append_drop]
  omega
set_option maxRecDepth 100000 in
theorem rused_any (M : Dk) (fv : Value) (fs : List Fe) (rr : Nat → Prop) (hfs : fs.length ≤ 1000000) (hu : usedD fs ≤ 1000000000000) (w : World) (h : RFs rr w fv fs) : Calls Tryz.prog 79 ([.agg (rdC M fv)] : List Value).toArray w fun e w' => e = .returned (.int .i64 (usedD fs)) ∧ Below w.heap.size w w' := by
  have h0 := h
  obtain ⟨_, _, _, a, c, rfl, _⟩ := h
  refine enterV tab_ok Tryz.func79 rfl Tryz.ntmps79 rfl (St.start w) ?_
  intro b2
  refine lp tab_ok (fun i : Nat => i ≤ fs.length) (fun i => ⟨[(1, ptr b2), (3, .int .i64 (usedD (fs.take i))), (4, .int .i64 i)], [cl b2 (rdC M (.slice a fs.length c)) TR], []⟩) (fun i => fs.length - i) 0 (Nat.zero_le _) ⟨⟨rfl, rfl, rfl, trivial⟩, .cons .nil, rfl⟩ ?_
  intro i hi
  refine ld1 0 rfl (v := .slice a fs.length c) rfl ?_
  refine cd (fun h => ?_) (fun h => ?_)
  · have hlt : i < fs.length := by omega
    obtain ⟨_, b, o, rfl, _, hb, ps, hps, hrd, hc⟩ := rfs_at h0 (by intro e; rw [e] at hlt; simp at hlt)
    have hpl : i < ps.length := by rw [← hps] at hlt; simpa using hlt
    have hpi : ps[i].2 = fs[i] := by subst hps; simp
    obtain ⟨_, c1, _⟩ := rfC_get ps i hpl
    obtain ⟨va, vc, hv, _⟩ := hrd ps[i] (List.getElem_mem hpl)
    rw [hpi, Lib.byteCells_length] at hv
    have hut := used_take fs i hlt
    have hle := used_take_le fs (i + 1)
    refine ld1 0 rfl (v := .slice (some ⟨b, o, none⟩) fs.length c) rfl ?_
    refine ⟨by omega, by omega, ?_⟩
    refine ldo (v := .slice va fs[i].bs.length vc) (by rw [nad_eq, nad_eq, nmu_eq, Int.toNat_natCast, ← hv]; have := hc _ _ c1; rwa [← Nat.add_assoc] at this) hb ?_
    refine .as ((usedD (fs.take (i + 1)) : Nat) : Int) (by rw [hut]; simp) (by simp only [mn]; omega) (by simp only [mx]; omega) ?_
    refine .as ((i + 1 : Nat) : Int) (by simp) (by simp only [mn]; omega) (by simp only [mx]; omega) ?_
    exact ⟨i + 1, by omega, by omega, ⟨⟨rfl, rfl, rfl, trivial⟩, .cons .nil, rfl⟩⟩
  · obtain rfl : i = fs.length := by omega
    exact rt (by rw [List.take_of_length_le (Nat.le_refl _)]; rfl)
theorem rdC_one (M : Dk) {fv : Value} (h : fv.oneCell' = true) : (rdC M fv).toList.all (·.oneCell') = true := by
  simp [rdC, h]
  simp [Value.oneCell']
set_option maxRecDepth 100000 in
/-- a step, in the reference -/
theorem rstep_any (M : Dk) (a : Option Addr) (n c : Nat) (hst : M.steps ≤ 1000000) (hl : M.left ≤ 9223372036854775807) (w : World) : Calls Tryz.prog 91 ([.agg (rdC M (.slice a n c))] : List Value).toArray w fun e w' => e = .returned (.tuple #[.agg (rdC (stepD M).2 (.slice a n c)), .bool (stepD M).1]) ∧ Below w.heap.size w w' := by
  refine enterV tab_ok Tryz.func91 rfl Tryz.ntmps91 rfl (St.start w) ?_
  obtain ⟨st, lf, ar, gn, qt, fs⟩ := M
  simp only at hst hl
  intro b1 b2
  refine ld1 0 rfl (v := .bool gn) rfl ?_
  cases gn with
  | true =>
    have e1 : stepD ⟨st, lf, ar, true, qt, fs⟩ = (false, ⟨st, lf, ar, true, qt, fs⟩) := rfl
    rw [e1]
    refine ct rfl ?_
    refine ldN 0 rfl rfl ?_
    refine sN 1 rfl rfl (rdC_one _ rfl) ?_ (by kernel_rfl)
    refine ldN 1 rfl rfl ?_
    exact rt rfl
  | false =>
    refine cf rfl ?_
    refine ld1 0 rfl (v := .bool ar) rfl ?_
    cases ar with
    | true =>
      refine ct rfl ?_
      refine ct rfl ?_
      refine ld1 0 rfl (v := .int .i64 lf) rfl ?_
      refine ct rfl ?_
      refine ct rfl ?_
      refine cq (fun h => ?_) (fun h => ?_)
      · obtain rfl : lf = 0 := by omega
        have e1 : stepD ⟨st, 0, true, false, qt, fs⟩ = (false, ⟨st, 0, true, true, qt, fs⟩) := by simp [stepD]
        rw [e1]
        refine s1 0 rfl (show 4 < 6 by decide) ?_
        refine ldN 0 rfl rfl ?_
        refine sN 1 rfl rfl (rdC_one ⟨st, 0, true, true, qt, fs⟩ rfl) ?_ (by kernel_rfl)
        refine ldN 1 rfl rfl ?_
        exact rt rfl
      · have e1 : stepD ⟨st, lf, true, false, qt, fs⟩ = (true, ⟨st + 1, lf - 1, true, false, qt, fs⟩) := by
          have : lf ≠ 0 := by omega
          simp [stepD, this]
        rw [e1]
        refine ld1 0 rfl (v := .bool true) rfl ?_
        refine ct rfl ?_
        refine ld1 0 rfl (v := .int .i64 lf) rfl ?_
        refine .as ((lf - 1 : Nat) : Int) (by omega) (by simp only [mn]; omega) (by simp only [mx]; omega) ?_
        refine s1 0 rfl (show 2 < 6 by decide) ?_
        refine ld1 0 rfl (v := .int .i64 st) rfl ?_
        refine .as ((st + 1 : Nat) : Int) (by simp) (by simp only [mn]; omega) (by simp only [mx]; omega) ?_
        refine s1 0 rfl (show 1 < 6 by decide) ?_
        refine ldN 0 rfl rfl ?_
        refine sN 1 rfl rfl (rdC_one ⟨st + 1, lf - 1, true, false, qt, fs⟩ rfl) ?_ (by kernel_rfl)
        refine ldN 1 rfl rfl ?_
        exact rt rfl
    | false =>
      have e1 : stepD ⟨st, lf, false, false, qt, fs⟩ = (true, ⟨st + 1, lf, false, false, qt, fs⟩) := by simp [stepD]
      rw [e1]
      iterate 3 refine cf rfl ?_
      refine cf rfl ?_
      refine cf rfl ?_
      refine ld1 0 rfl (v := .bool false) rfl ?_
      refine cf rfl ?_
      refine ld1 0 rfl (v := .int .i64 st) rfl ?_
      refine .as ((st + 1 : Nat) : Int) (by simp) (by simp only [mn]; omega) (by simp only [mx]; omega) ?_
      refine s1 0 rfl (show 1 < 6 by decide) ?_
      refine ldN 0 rfl rfl ?_
      refine sN 1 rfl rfl (rdC_one ⟨st + 1, lf, false, false, qt, fs⟩ rfl) ?_ (by kernel_rfl)
      refine ldN 1 rfl rfl ?_
      exact rt rfl
end Go.Proofs.YteamnhpplclmfaaGreatDoor
end
section
namespace Go.Proofs.YteamnhpplclmfaaGreatDoor
open Go.RowKit Go.Sx
set_option linter.unusedVariables false

abbrev PF := Value × Fe
def putStep (f : PF) (s : List PF × Bool) (q : PF) : List PF × Bool :=
  (fun s1 : List PF × Bool => if q.2.name = f.2.name then s1 else (s1.1 ++ [q], s1.2)) (if s.2 = false ∧ ¬ q.2.name < f.2.name then (s.1 ++ [f], true) else s)
def putS (f : PF) (ps : List PF) : List PF × Bool := ps.foldl (putStep f) ([], false)
def putP (f : PF) (ps : List PF) : List PF := if (putS f ps).2 then (putS f ps).1 else (putS f ps).1 ++ [f]
def woP (n : List UInt8) (ps : List PF) : List PF := ps.filter fun q => decide (q.2.name ≠ n)
theorem putS_len (f : PF) (ps : List PF) : (putS f ps).1.length ≤ ps.length + 1 ∧ ((putS f ps).2 = false → (putS f ps).1.length ≤ ps.length) := by
  suffices h : ∀ (s : List PF × Bool) (k : Nat), (s.1.length ≤ k + 1 ∧ (s.2 = false → s.1.length ≤ k)) → (ps.foldl (putStep f) s).1.length ≤ k + ps.length + 1 ∧ ((ps.foldl (putStep f) s).2 = false → (ps.foldl (putStep f) s).1.length ≤ k + ps.length) by
    have := h ([], false) 0 (by simp)
    simpa [putS] using this
  induction ps with
  | nil => intro s k h; simpa using h
  | cons q l ih =>
    intro s k h
    have : (putStep f s q).1.length ≤ (k + 1) + 1 ∧ ((putStep f s q).2 = false → (putStep f s q).1.length ≤ k + 1) := by
      obtain ⟨o, d⟩ := s
      simp only at h
      unfold putStep
      cases d
      · have h2 := h.2 rfl
        by_cases h1 : q.2.name < f.2.name <;> by_cases h3 : q.2.name = f.2.name <;> simp [h1, h3] <;> omega
      · by_cases h3 : q.2.name = f.2.name <;> simp [h3] <;> omega
    have := ih (putStep f s q) (k + 1) this
    simp only [List.foldl_cons, List.length_cons]
    rw [show k + (l.length + 1) = (k + 1) + l.length by omega]
    exact this
theorem putS_take (f : PF) (ps : List PF) (i : Nat) (h : i < ps.length) : putS f (ps.take (i + 1)) = putStep f (putS f (ps.take i)) ps[i] := by
  unfold putS
  rw [List.take_succ_eq_append_getElem h, List.foldl_append]; rfl
/-- some cells of what was there -/
theorem ldoN {P : Program} {T : Tab} {N : Nat} {F : Option Nat} {B : World} {L : List Ent} {b o n : Nat} {d : Array Value} {next : Value → Prop} (h : ∀ j u, d[j]? = some u → B.cell? ⟨b, o + j, none⟩ = some u) (hb : b < B.heap.size) (hn : d.size = n) (go : next (.agg d)) : LdN ⟨P, T, N, [], B, F⟩ L b o n next :=
  ⟨d, hn, fun w hs j v hv => (hs.below.cell (p := ⟨b, o + j, none⟩) hb).trans (h j v (by simpa using hv)), go⟩
theorem infoFi : (Tryz.prog.info? TFi).map (fun i => (i.zero, i.size, i.bytes)) = some (some (.agg #[.string ⟨#[]⟩, .slice none 0 0, .int .i64 0]), 3, 48) := by kernel_rfl
theorem undFs : Tryz.prog.underlying TFs = some (.slice TFi) := by kernel_rfl
theorem bsF (n : List UInt8) (a : Option Addr) (l c k : Nat) (w : World) : (Instr.buildSlice TFs 1 #[(0, .agg #[VS n, .slice a l c, .int .i64 k])]).run Tryz.prog w = .ok (.slice (some ⟨w.heap.size, 0, none⟩) 1 1) (w.alloc (.cells #[VS n, .slice a l c, .int .i64 k] TFi)) := by
  obtain ⟨i, hi, hz, hs, hb⟩ := infoOf infoFi
  exact run_buildSlice w _ _ 1 _ #[VS n, .slice a l c, .int .i64 k] i (.agg #[.string ⟨#[]⟩, .slice none 0 0, .int .i64 0]) undFs hi hz (by rw [hs]; decide) (by rw [hs]; decide) (by rw [hs]; kernel_rfl)
/-- a pair's slice is written out -/
structure IsSl (p : PF) (a : Option Addr) (l c : Nat) : Prop where
  e : p.1 = .slice a l c
set_option maxRecDepth 100000 in
set_option maxHeartbeats 2000000 in
/-- the files with one more, or another one of that name -/
theorem put_any (fa : Option Addr) (fc : Nat) (ps : List PF) (f : PF) (va : Option Addr) (vl vc : Nat) (hf : f.1 = .slice va vl vc) (hps : ∀ p ∈ ps, ∃ a l c, p.1 = .slice a l c) (hlen : ps.length ≤ 1000000) (w : World)
    (hrd : ps ≠ [] → ∃ b o, fa = some ⟨b, o, none⟩ ∧ b < w.heap.size ∧ ∀ j x, (rfC ps)[j]? = some x → w.cell? ⟨b, o + j, none⟩ = some x) :
    Calls Tryz.prog 92 ([.slice fa ps.length fc, .agg #[VS f.2.name, .slice va vl vc, .int .i64 f.2.sure]] : List Value).toArray w fun e w' => ∃ r, e = .returned (sv r (putP f ps).length) ∧ Rw 3 (putP f ps).length r (rfC (putP f ps)) ∧ Made w w' r (rfC (putP f ps)) TFi ∧ Below w.heap.size w w' := by
  refine (enter tab_ok Tryz.func92 rfl Tryz.ntmps92 rfl (St.start w) (R := fun v w' => ∃ r, v = sv r (putP f ps).length ∧ Rw 3 (putP f ps).length r (rfC (putP f ps)) ∧ Made w w' r (rfC (putP f ps)) TFi ∧ Below w.heap.size w w') ?_).mono (fun e w' ⟨v, he, r, h1, h2⟩ => ⟨r, by rw [he, h1], h2⟩)
  have e8 : ∀ out : List PF, rfC (out ++ [f]) = rfC out ++ [VS f.2.name, .slice va vl vc, .int .i64 f.2.sure] := fun out => by rw [rfC_app]; simp [rfC, hf]
  intro b3
  refine lp tab_ok (fun x : Nat × Sx.Own => x.1 ≤ ps.length ∧ Rw 3 (putS f (ps.take x.1)).1.length x.2 (rfC (putS f (ps.take x.1)).1)) (fun x => ⟨[(0, .slice fa ps.length fc), (3, ptr b3), (5, sv x.2 (putS f (ps.take x.1)).1.length), (6, .bool (putS f (ps.take x.1)).2), (7, .int .i64 x.1)], [cl b3 #[VS f.2.name, .slice va vl vc, .int .i64 f.2.sure] TFi, se x.2 (rfC (putS f (ps.take x.1)).1) TFi], []⟩) (fun x => ps.length - x.1)
    (0, none) ⟨Nat.zero_le _, Rw.nil 3⟩ ⟨⟨rfl, rfl, rfl, rfl, rfl, trivial⟩, .cons (.pad .nil), rfl⟩ ?_
  rintro ⟨i, r⟩ ⟨hi, hR⟩
  simp only at hi hR
  have hsl := (putS_len f (ps.take i)).1
  have htl : (ps.take i).length = i := by simp; omega
  rw [htl] at hsl
  refine cd (fun h => ?_) (fun h => ?_)
  · have hlt : i < ps.length := by (try simp only at h); omega
    obtain ⟨b, o, rfl, hb, hc⟩ := hrd (by intro e; rw [e] at hlt; simp at hlt)
    have hst := putS_take f ps i hlt
    obtain ⟨c1, c2, c3⟩ := rfC_get ps i hlt
    obtain ⟨qa, ql, qc, hq⟩ := hps ps[i] (List.getElem_mem hlt)
    have hcells : ∀ j u, (#[VS ps[i].2.name, .slice qa ql qc, .int .i64 ps[i].2.sure] : Array Value)[j]? = some u → w.cell? ⟨b, o + i * 3 + j, none⟩ = some u := by
      intro j u hu
      rw [Nat.add_assoc]
      refine hc _ _ ?_
      rw [← hq] at hu
      rcases j with _ | _ | _ | j
      · exact c1.trans hu
      · exact c2.trans hu
      · exact c3.trans hu
      · simp at hu
    have hname := hcells 0 _ rfl
    generalize hS : putS f (ps.take i) = s at *
    obtain ⟨out, done⟩ := s
    simp only at hR hsl
    generalize hQ : ps[i] = q at *
    cases done with
    | true =>
      have hfin : putS f (ps.take (i + 1)) = if q.2.name = f.2.name then (out, true) else (out ++ [q], true) := by rw [hst]; simp [putStep]
      refine dr [cl b3 #[VS f.2.name, .slice va vl vc, .int .i64 f.2.sure] TFi] 99 (.t 0 (.t 1 (.t 2 (.t 3 (.t 4 (.t 5 (.t 6 (.t 7 (.t 8 (.t 9 (.t 10 (.t 11 .nil)))))))))))) tab_ok mixed_ok (by kernel_rfl) (.cons .nil) ?_
      iterate 8 refine cf rfl ?_
      refine cf rfl ?_
      refine cf rfl ?_
      refine dr [cl b3 #[VS f.2.name, .slice va vl vc, .int .i64 f.2.sure] TFi] 99 (.t 0 (.t 1 (.t 2 (.t 3 (.t 4 (.t 5 (.t 6 (.t 7 .nil)))))))) tab_ok mixed_ok (by kernel_rfl) (.cons .nil) ?_
      refine ⟨by omega, by (try simp only); omega, ?_⟩
      refine ldo (v := VS q.2.name) (by rw [nad_eq, nad_eq, nmu_eq, Int.toNat_natCast]; exact hname) hb ?_
      refine ld1 0 rfl (v := VS f.2.name) rfl ?_
      have hbe := list_beq q.2.name f.2.name
      by_cases he : q.2.name = f.2.name
      · have hfin2 : putS f (ps.take (i + 1)) = (out, true) := by rw [hfin, if_pos he]
        refine cf (by show (!_) = false; rw [hbe, decide_eq_true he]; rfl) ?_
        refine .as ((i + 1 : Nat) : Int) (by simp) (by simp only [mn]; omega) (by simp only [mx]; omega) ?_
        refine ⟨(i + 1, r), ⟨by (try simp only); omega, by simp only [hfin2]; exact hR⟩, by (try simp only); omega, ⟨⟨rfl, rfl, by simp only [hfin2]; rfl, by simp only [hfin2]; rfl, rfl, trivial⟩, by simp only [hfin2]; exact .cons (.cons .nil), rfl⟩⟩
      · have hfin2 : putS f (ps.take (i + 1)) = (out ++ [q], true) := by rw [hfin, if_neg he]
        refine ct (by show (!_) = true; rw [hbe, decide_eq_false he]; rfl) ?_
        refine ⟨by omega, by (try simp only); omega, ?_⟩
        refine ldoN (d := #[VS q.2.name, .slice qa ql qc, .int .i64 q.2.sure]) (fun j u hu => by rw [nad_eq, nmu_eq, Int.toNat_natCast]; exact hcells j u hu) hb rfl ?_
        refine .mk _ _ (bsF _ _ _ _ _) (fun b8 => ?_)
        refine ap 1 (z := 3) (n := (out).length) (m := 1) (news := [VS q.2.name, .slice qa ql qc, .int .i64 q.2.sure]) tab_ok rfl infoFi rfl rfl hR (srcE (C := ⟨Tryz.prog, tab, 52, [], w, none⟩) (e' := TFi) (tx := TFs) (z := 3) rfl tab_ok (src 2 rfl rfl) rfl (by simp [Value.oneCell'])) (by (try simp only); omega) (by (try simp only); unfold maxLen; omega) (fun r' hR' => ?_)
        have e9 : rfC (out ++ [q]) = rfC (out) ++ [VS q.2.name, .slice qa ql qc, .int .i64 q.2.sure] := by rw [rfC_app]; simp [rfC, hq]
        refine .as ((i + 1 : Nat) : Int) (by simp) (by simp only [mn]; omega) (by simp only [mx]; omega) ?_
        refine ⟨(i + 1, r'), ⟨by (try simp only); omega, by simp only [hfin2, e9, List.length_append, List.length_singleton]; first | exact hR' | (rw [hl1] at hR'; exact hR')⟩, by (try simp only); omega, ⟨⟨rfl, rfl, by simp only [hfin2, List.length_append, List.length_singleton]; rfl, by simp only [hfin2]; rfl, rfl, trivial⟩, by simp only [hfin2, e9]; exact .cons (.cons .nil), rfl⟩⟩
    | false =>
      refine dr [cl b3 #[VS f.2.name, .slice va vl vc, .int .i64 f.2.sure] TFi] 99 (.t 0 (.t 1 (.t 2 (.t 3 (.t 4 (.t 5 (.t 6 (.t 7 (.t 8 (.t 9 (.t 10 (.t 11 .nil)))))))))))) tab_ok mixed_ok (by kernel_rfl) (.cons .nil) ?_
      refine ct rfl ?_
      refine ct rfl ?_
      refine ct rfl ?_
      refine ⟨by omega, by (try simp only); omega, ?_⟩
      refine ct rfl ?_
      refine ct rfl ?_
      refine ldo (v := VS q.2.name) (by rw [nad_eq, nad_eq, nmu_eq, Int.toNat_natCast]; exact hname) hb ?_
      refine ct rfl ?_
      refine ct rfl ?_
      refine ld1 0 rfl (v := VS f.2.name) rfl ?_
      refine ct rfl ?_
      refine ct rfl ?_
      have hless := str_less q.2.name f.2.name
      by_cases hlt2 : q.2.name < f.2.name
      · have hfin : putS f (ps.take (i + 1)) = if q.2.name = f.2.name then (out, false) else (out ++ [q], false) := by rw [hst]; simp [putStep, hlt2]
        refine cf (by show (!_) = false; rw [hless, decide_eq_true hlt2]; rfl) ?_
        refine dr [cl b3 #[VS f.2.name, .slice va vl vc, .int .i64 f.2.sure] TFi] 99 (.t 0 (.t 1 (.t 2 (.t 3 (.t 4 (.t 5 (.t 6 (.t 7 .nil)))))))) tab_ok mixed_ok (by kernel_rfl) (.cons .nil) ?_
        refine ⟨by omega, by (try simp only); omega, ?_⟩
        refine ldo (v := VS q.2.name) (by rw [nad_eq, nad_eq, nmu_eq, Int.toNat_natCast]; exact hname) hb ?_
        refine ld1 0 rfl (v := VS f.2.name) rfl ?_
        have hbe := list_beq q.2.name f.2.name
        by_cases he : q.2.name = f.2.name
        · have hfin2 : putS f (ps.take (i + 1)) = (out, false) := by rw [hfin, if_pos he]
          refine cf (by show (!_) = false; rw [hbe, decide_eq_true he]; rfl) ?_
          refine .as ((i + 1 : Nat) : Int) (by simp) (by simp only [mn]; omega) (by simp only [mx]; omega) ?_
          refine ⟨(i + 1, r), ⟨by (try simp only); omega, by simp only [hfin2]; exact hR⟩, by (try simp only); omega, ⟨⟨rfl, rfl, by simp only [hfin2]; rfl, by simp only [hfin2]; rfl, rfl, trivial⟩, by simp only [hfin2]; exact .cons (.cons .nil), rfl⟩⟩
        · have hfin2 : putS f (ps.take (i + 1)) = (out ++ [q], false) := by rw [hfin, if_neg he]
          refine ct (by show (!_) = true; rw [hbe, decide_eq_false he]; rfl) ?_
          refine ⟨by omega, by (try simp only); omega, ?_⟩
          refine ldoN (d := #[VS q.2.name, .slice qa ql qc, .int .i64 q.2.sure]) (fun j u hu => by rw [nad_eq, nmu_eq, Int.toNat_natCast]; exact hcells j u hu) hb rfl ?_
          refine .mk _ _ (bsF _ _ _ _ _) (fun b8 => ?_)
          refine ap 1 (z := 3) (n := (out).length) (m := 1) (news := [VS q.2.name, .slice qa ql qc, .int .i64 q.2.sure]) tab_ok rfl infoFi rfl rfl hR (srcE (C := ⟨Tryz.prog, tab, 52, [], w, none⟩) (e' := TFi) (tx := TFs) (z := 3) rfl tab_ok (src 2 rfl rfl) rfl (by simp [Value.oneCell'])) (by (try simp only); omega) (by (try simp only); unfold maxLen; omega) (fun r' hR' => ?_)
          have e9 : rfC (out ++ [q]) = rfC (out) ++ [VS q.2.name, .slice qa ql qc, .int .i64 q.2.sure] := by rw [rfC_app]; simp [rfC, hq]
          refine .as ((i + 1 : Nat) : Int) (by simp) (by simp only [mn]; omega) (by simp only [mx]; omega) ?_
          refine ⟨(i + 1, r'), ⟨by (try simp only); omega, by simp only [hfin2, e9, List.length_append, List.length_singleton]; first | exact hR' | (rw [hl1] at hR'; exact hR')⟩, by (try simp only); omega, ⟨⟨rfl, rfl, by simp only [hfin2, List.length_append, List.length_singleton]; rfl, by simp only [hfin2]; rfl, rfl, trivial⟩, by simp only [hfin2, e9]; exact .cons (.cons .nil), rfl⟩⟩
      · have hfin : putS f (ps.take (i + 1)) = if q.2.name = f.2.name then (out ++ [f], true) else (out ++ [f] ++ [q], true) := by rw [hst]; simp [putStep, hlt2]
        refine ct (by show (!_) = true; rw [hless, decide_eq_false hlt2]; rfl) ?_
        refine ldN 0 rfl rfl ?_
        refine .mk _ _ (bsF _ _ _ _ _) (fun b7 => ?_)
        refine ap 1 (z := 3) (n := out.length) (m := 1) (news := [VS f.2.name, .slice va vl vc, .int .i64 f.2.sure]) tab_ok rfl infoFi rfl rfl hR (srcE (C := ⟨Tryz.prog, tab, 52, [], w, none⟩) (e' := TFi) (tx := TFs) (z := 3) rfl tab_ok (src 2 rfl rfl) rfl (by simp [Value.oneCell'])) (by (try simp only); omega) (by (try simp only); unfold maxLen; omega) (fun r1 hR1 => ?_)
        have hl1 : (out ++ [f]).length = out.length + 1 := by simp
        rw [← e8] at hR1 ⊢
        rw [← hl1] at hR1 ⊢
        refine dr [cl b3 #[VS f.2.name, .slice va vl vc, .int .i64 f.2.sure] TFi] 99 (.t 0 (.t 1 (.t 2 (.t 3 (.t 4 (.t 5 (.t 6 (.t 7 .nil)))))))) tab_ok mixed_ok (by kernel_rfl) (.cons .nil) ?_
        refine ⟨by omega, by (try simp only); omega, ?_⟩
        refine ldo (v := VS q.2.name) (by rw [nad_eq, nad_eq, nmu_eq, Int.toNat_natCast]; exact hname) hb ?_
        refine ld1 0 rfl (v := VS f.2.name) rfl ?_
        have hbe := list_beq q.2.name f.2.name
        by_cases he : q.2.name = f.2.name
        · have hfin2 : putS f (ps.take (i + 1)) = ((out ++ [f]), true) := by rw [hfin, if_pos he]
          refine cf (by show (!_) = false; rw [hbe, decide_eq_true he]; rfl) ?_
          refine .as ((i + 1 : Nat) : Int) (by simp) (by simp only [mn]; omega) (by simp only [mx]; omega) ?_
          refine ⟨(i + 1, r1), ⟨by (try simp only); omega, by simp only [hfin2]; exact hR1⟩, by (try simp only); omega, ⟨⟨rfl, rfl, by simp only [hfin2]; rfl, by simp only [hfin2]; rfl, rfl, trivial⟩, by simp only [hfin2]; exact .cons (.cons .nil), rfl⟩⟩
        · have hfin2 : putS f (ps.take (i + 1)) = ((out ++ [f]) ++ [q], true) := by rw [hfin, if_neg he]
          refine ct (by show (!_) = true; rw [hbe, decide_eq_false he]; rfl) ?_
          refine ⟨by omega, by (try simp only); omega, ?_⟩
          refine ldoN (d := #[VS q.2.name, .slice qa ql qc, .int .i64 q.2.sure]) (fun j u hu => by rw [nad_eq, nmu_eq, Int.toNat_natCast]; exact hcells j u hu) hb rfl ?_
          refine .mk _ _ (bsF _ _ _ _ _) (fun b8 => ?_)
          refine ap 1 (z := 3) (n := ((out ++ [f])).length) (m := 1) (news := [VS q.2.name, .slice qa ql qc, .int .i64 q.2.sure]) tab_ok rfl infoFi rfl rfl hR1 (srcE (C := ⟨Tryz.prog, tab, 52, [], w, none⟩) (e' := TFi) (tx := TFs) (z := 3) rfl tab_ok (src 3 rfl rfl) rfl (by simp [Value.oneCell'])) (by (try simp only); omega) (by (try simp only); unfold maxLen; omega) (fun r' hR' => ?_)
          have e9 : rfC ((out ++ [f]) ++ [q]) = rfC ((out ++ [f])) ++ [VS q.2.name, .slice qa ql qc, .int .i64 q.2.sure] := by rw [rfC_app]; simp [rfC, hq]
          refine .as ((i + 1 : Nat) : Int) (by simp) (by simp only [mn]; omega) (by simp only [mx]; omega) ?_
          refine ⟨(i + 1, r'), ⟨by (try simp only); omega, by simp only [hfin2, e9, List.length_append, List.length_singleton]; first | exact hR' | (rw [hl1] at hR'; exact hR')⟩, by (try simp only); omega, ⟨⟨rfl, rfl, by simp only [hfin2, List.length_append, List.length_singleton]; rfl, by simp only [hfin2]; rfl, rfl, trivial⟩, by simp only [hfin2, e9]; exact .cons (.cons .nil), rfl⟩⟩
  · obtain rfl : i = ps.length := by (try simp only at h); omega
    rw [List.take_of_length_le (Nat.le_refl _)] at hR hsl
    simp only [List.take_of_length_le (Nat.le_refl _)]
    generalize hS : putS f ps = s at *
    obtain ⟨out, done⟩ := s
    have hP : putP f ps = if done then out else out ++ [f] := by unfold putP; rw [hS]
    simp only at hR hsl
    cases done with
    | true =>
      rw [hP, if_pos rfl]
      refine cf rfl ?_
      exact ⟨fun w1 hs => ⟨r, rfl, hR, made_of hs rfl 1 rfl, hs.below⟩⟩
    | false =>
      rw [hP, if_neg (by decide)]
      refine ct rfl ?_
      refine ldN 0 rfl rfl ?_
      refine .mk _ _ (bsF _ _ _ _ _) (fun b7 => ?_)
      refine ap 1 (z := 3) (n := out.length) (m := 1) (news := [VS f.2.name, .slice va vl vc, .int .i64 f.2.sure]) tab_ok rfl infoFi rfl rfl hR (srcE (C := ⟨Tryz.prog, tab, 52, [], w, none⟩) (e' := TFi) (tx := TFs) (z := 3) rfl tab_ok (src 2 rfl rfl) rfl (by simp [Value.oneCell'])) (by (try simp only); omega) (by (try simp only); unfold maxLen; omega) (fun r1 hR1 => ?_)
      have hl1 : (out ++ [f]).length = out.length + 1 := by simp
      rw [← e8] at hR1 ⊢
      rw [hl1]
      exact ⟨fun w1 hs => ⟨r1, rfl, hR1, made_of hs rfl 1 rfl, hs.below⟩⟩
end Go.Proofs.YteamnhpplclmfaaGreatDoor
end
section
namespace Go.Proofs.YteamnhpplclmfaaGreatDoor
open Go.RowKit Go.Sx
set_option linter.unusedVariables false

theorem woP_take (n : List UInt8) (ps : List PF) (i : Nat) (h : i < ps.length) : woP n (ps.take (i + 1)) = if ps[i].2.name = n then woP n (ps.take i) else woP n (ps.take i) ++ [ps[i]] := by
  unfold woP
  rw [List.take_succ_eq_append_getElem h, List.filter_append]
  by_cases he : ps[i].2.name = n
  · simp [he]
  · simp [he]
theorem woP_len (n : List UInt8) (ps : List PF) : (woP n ps).length ≤ ps.length := List.length_filter_le _ _
set_option maxRecDepth 100000 in
/-- the files but one -/
theorem without_any (fa : Option Addr) (fc : Nat) (ps : List PF) (n : List UInt8) (hps : ∀ p ∈ ps, ∃ a l c, p.1 = .slice a l c) (hlen : ps.length ≤ 1000000) (w : World)
    (hrd : ps ≠ [] → ∃ b o, fa = some ⟨b, o, none⟩ ∧ b < w.heap.size ∧ ∀ j x, (rfC ps)[j]? = some x → w.cell? ⟨b, o + j, none⟩ = some x) :
    Calls Tryz.prog 116 ([.slice fa ps.length fc, VS n] : List Value).toArray w fun e w' => ∃ r, e = .returned (sv r (woP n ps).length) ∧ Rw 3 (woP n ps).length r (rfC (woP n ps)) ∧ Made w w' r (rfC (woP n ps)) TFi ∧ Below w.heap.size w w' := by
  refine (enter tab_ok Tryz.func116 rfl Tryz.ntmps116 rfl (St.start w) (R := fun v w' => ∃ r, v = sv r (woP n ps).length ∧ Rw 3 (woP n ps).length r (rfC (woP n ps)) ∧ Made w w' r (rfC (woP n ps)) TFi ∧ Below w.heap.size w w') ?_).mono (fun e w' ⟨v, he, r, h1, h2⟩ => ⟨r, by rw [he, h1], h2⟩)
  refine lp tab_ok (fun x : Nat × Sx.Own => x.1 ≤ ps.length ∧ Rw 3 (woP n (ps.take x.1)).length x.2 (rfC (woP n (ps.take x.1)))) (fun x => ⟨[(0, .slice fa ps.length fc), (1, VS n), (5, sv x.2 (woP n (ps.take x.1)).length), (6, .int .i64 x.1)], [se x.2 (rfC (woP n (ps.take x.1))) TFi], []⟩) (fun x => ps.length - x.1)
    (0, none) ⟨Nat.zero_le _, Rw.nil 3⟩ ⟨⟨rfl, rfl, rfl, rfl, trivial⟩, .pad .nil, rfl⟩ ?_
  rintro ⟨i, r⟩ ⟨hi, hR⟩
  simp only at hi hR
  have hsl := woP_len n (ps.take i)
  have htl : (ps.take i).length = i := by simp; omega
  rw [htl] at hsl
  refine cd (fun h => ?_) (fun h => ?_)
  · have hlt : i < ps.length := by (try simp only at h); omega
    obtain ⟨b, o, rfl, hb, hc⟩ := hrd (by intro e; rw [e] at hlt; simp at hlt)
    have hst := woP_take n ps i hlt
    obtain ⟨c1, c2, c3⟩ := rfC_get ps i hlt
    obtain ⟨qa, ql, qc, hq⟩ := hps ps[i] (List.getElem_mem hlt)
    have hcells : ∀ j u, (#[VS ps[i].2.name, .slice qa ql qc, .int .i64 ps[i].2.sure] : Array Value)[j]? = some u → w.cell? ⟨b, o + i * 3 + j, none⟩ = some u := by
      intro j u hu
      rw [Nat.add_assoc]
      refine hc _ _ ?_
      rw [← hq] at hu
      rcases j with _ | _ | _ | j
      · exact c1.trans hu
      · exact c2.trans hu
      · exact c3.trans hu
      · simp at hu
    have hname := hcells 0 _ rfl
    generalize hS : woP n (ps.take i) = out at *
    generalize hQ : ps[i] = q at *
    refine ⟨by omega, by (try simp only); omega, ?_⟩
    refine ldo (v := VS q.2.name) (by rw [nad_eq, nad_eq, nmu_eq, Int.toNat_natCast]; exact hname) hb ?_
    have hbe := list_beq q.2.name n
    by_cases he : q.2.name = n
    · have hfin2 : woP n (ps.take (i + 1)) = out := by rw [hst, if_pos he]
      refine cf (by show (!_) = false; rw [hbe, decide_eq_true he]; rfl) ?_
      refine .as ((i + 1 : Nat) : Int) (by simp) (by simp only [mn]; omega) (by simp only [mx]; omega) ?_
      refine ⟨(i + 1, r), ⟨by (try simp only); omega, by simp only [hfin2]; exact hR⟩, by (try simp only); omega, ⟨⟨rfl, rfl, by simp only [hfin2]; rfl, rfl, trivial⟩, by simp only [hfin2]; exact .cons .nil, rfl⟩⟩
    · have hfin2 : woP n (ps.take (i + 1)) = out ++ [q] := by rw [hst, if_neg he]
      refine ct (by show (!_) = true; rw [hbe, decide_eq_false he]; rfl) ?_
      refine ⟨by omega, by (try simp only); omega, ?_⟩
      refine ldoN (d := #[VS q.2.name, .slice qa ql qc, .int .i64 q.2.sure]) (fun j u hu => by rw [nad_eq, nmu_eq, Int.toNat_natCast]; exact hcells j u hu) hb rfl ?_
      refine .mk _ _ (bsF _ _ _ _ _) (fun b8 => ?_)
      refine ap 0 (z := 3) (n := out.length) (m := 1) (news := [VS q.2.name, .slice qa ql qc, .int .i64 q.2.sure]) tab_ok rfl infoFi rfl rfl hR (srcE (C := ⟨Tryz.prog, tab, 28, [], w, none⟩) (e' := TFi) (tx := TFs) (z := 3) rfl tab_ok (src 1 rfl rfl) rfl (by simp [Value.oneCell'])) (by (try simp only); omega) (by (try simp only); unfold maxLen; omega) (fun r' hR' => ?_)
      have e9 : rfC (out ++ [q]) = rfC out ++ [VS q.2.name, .slice qa ql qc, .int .i64 q.2.sure] := by rw [rfC_app]; simp [rfC, hq]
      refine .as ((i + 1 : Nat) : Int) (by simp) (by simp only [mn]; omega) (by simp only [mx]; omega) ?_
      refine ⟨(i + 1, r'), ⟨by (try simp only); omega, by simp only [hfin2, e9, List.length_append, List.length_singleton]; exact hR'⟩, by (try simp only); omega, ⟨⟨rfl, rfl, by simp only [hfin2, List.length_append, List.length_singleton]; rfl, rfl, trivial⟩, by simp only [hfin2, e9]; exact .cons .nil, rfl⟩⟩
  · obtain rfl : i = ps.length := by (try simp only at h); omega
    rw [List.take_of_length_le (Nat.le_refl _)] at hR
    simp only [List.take_of_length_le (Nat.le_refl _)]
    exact ⟨fun w1 hs => ⟨r, rfl, hR, made_of hs rfl 0 rfl, hs.below⟩⟩
/-- the same on files alone -/
def putStepF (f : Fe) (s : List Fe × Bool) (q : Fe) : List Fe × Bool :=
  (fun s1 : List Fe × Bool => if q.name = f.name then s1 else (s1.1 ++ [q], s1.2)) (if s.2 = false ∧ ¬ q.name < f.name then (s.1 ++ [f], true) else s)
def putF (f : Fe) (fs : List Fe) : List Fe := if (fs.foldl (putStepF f) ([], false)).2 then (fs.foldl (putStepF f) ([], false)).1 else (fs.foldl (putStepF f) ([], false)).1 ++ [f]
def woF (n : List UInt8) (fs : List Fe) : List Fe := fs.filter fun q => decide (q.name ≠ n)
theorem putF_map (f : PF) (ps : List PF) : (putP f ps).map (·.2) = putF f.2 (ps.map (·.2)) := by
  have h1 : ∀ (s : List PF × Bool) (q : PF), ((putStep f s q).1.map (·.2), (putStep f s q).2) = putStepF f.2 (s.1.map (·.2), s.2) q.2 := by
    intro s q
    unfold putStep putStepF
    obtain ⟨o, d⟩ := s
    cases d <;> by_cases h1 : q.2.name < f.2.name <;> by_cases h3 : q.2.name = f.2.name <;> simp [h1, h3]
  have h2 : ∀ (l : List PF) (s : List PF × Bool), ((l.foldl (putStep f) s).1.map (·.2), (l.foldl (putStep f) s).2) = (l.map (·.2)).foldl (putStepF f.2) (s.1.map (·.2), s.2) := by
    intro l
    induction l with
    | nil => intro s; rfl
    | cons q l ih => intro s; simp only [List.foldl_cons, List.map_cons]; rw [ih, h1]
  have h3 := h2 ps ([], false)
  unfold putP putF putS
  rw [show (([] : List PF).map (·.2), false) = (([] : List Fe), false) from rfl] at h3
  have h4 := congrArg Prod.fst h3
  have h5 := congrArg Prod.snd h3
  simp only at h4 h5
  rw [← h4, ← h5]
  split <;> simp
theorem woF_map (n : List UInt8) (ps : List PF) : (woP n ps).map (·.2) = woF n (ps.map (·.2)) := by
  unfold woP woF
  rw [List.filter_map]; rfl
theorem putP_mem {f p : PF} {ps : List PF} (h : p ∈ putP f ps) : p = f ∨ p ∈ ps := by
  have h1 : ∀ (l : List PF) (s : List PF × Bool), p ∈ (l.foldl (putStep f) s).1 → p ∈ s.1 ∨ p = f ∨ p ∈ l := by
    intro l
    induction l with
    | nil => intro s h; exact .inl h
    | cons q l ih =>
      intro s h
      rcases ih _ h with h | h | h
      · have e : ∀ s1 : List PF × Bool, p ∈ ((fun s1 : List PF × Bool => if q.2.name = f.2.name then s1 else (s1.1 ++ [q], s1.2)) s1).1 → p ∈ s1.1 ∨ p = q := by
          intro s1 h
          simp only at h
          split at h
          · exact .inl h
          · rcases List.mem_append.1 h with h | h
            · exact .inl h
            · exact .inr (by simpa using h)
        rcases e _ h with h | h
        · split at h
          · rcases List.mem_append.1 h with h | h
            · exact .inl h
            · exact .inr (.inl (by simpa using h))
          · exact .inl h
        · exact .inr (.inr (h ▸ List.mem_cons_self))
      · exact .inr (.inl h)
      · exact .inr (.inr (List.mem_cons_of_mem _ h))
  unfold putP at h
  split at h
  · rcases h1 ps _ h with h | h
    · cases h
    · exact h
  · rcases List.mem_append.1 h with h | h
    · rcases h1 ps _ h with h | h
      · cases h
      · exact h
    · exact .inl (by simpa using h)
theorem woP_mem {n : List UInt8} {p : PF} {ps : List PF} (h : p ∈ woP n ps) : p ∈ ps := (List.mem_filter.1 h).1
/-- files that are known by an entry -/
theorem RFs.own {M : Bks} {B w : World} {L : List Ent} (hs : St M B w L) (k : Nat) {r : Sx.Own} {ps : List PF} {rr : Nat → Prop} (hk : L[k]? = some (se r (rfC ps) TFi)) (hR : Rw 3 ps.length r (rfC ps)) (hp : ∀ p ∈ ps, RdR rr w p.1 (Lib.byteCells p.2.bs)) :
    RFs (fun k => rr k ∨ rowB r k) w (sv r ps.length) (ps.map (·.2)) := by
  refine ⟨ps, rfl, fun p h => (hp p h).mono fun k hk => .inl hk, ?_⟩
  rw [List.length_map]
  cases r with
  | none =>
    have h0 : ps.length = 0 := hR.2
    have : ps = [] := List.eq_nil_of_length_eq_zero h0
    subst this
    exact ⟨none, 0, rfl, fun h => absurd rfl h⟩
  | some q =>
    obtain ⟨b, c, j⟩ := q
    refine ⟨some ⟨b, 0, none⟩, c, rfl, fun _ => ⟨b, 0, rfl, .inr ⟨b, c, j, rfl, rfl⟩, hs.lt (List.mem_of_getElem? hk) rfl, fun i x hx => ?_⟩⟩
    rw [hs.cell (k := k) (b := b) hk (0 + i), Nat.zero_add]
    have hi := (List.getElem?_eq_some_iff.1 hx).1
    simp [List.getElem?_append_left hi, hx]
/-- files, «as» functions want them -/
theorem RFs.pairs {rr : Nat → Prop} {w : World} {fv : Value} {fs : List Fe} (h : RFs rr w fv fs) : ∃ (ps : List PF) (fa : Option Addr) (fc : Nat), ps.map (·.2) = fs ∧ fv = .slice fa ps.length fc ∧ (∀ p ∈ ps, RdR rr w p.1 (Lib.byteCells p.2.bs)) ∧ (ps ≠ [] → ∃ b o, fa = some ⟨b, o, none⟩ ∧ b < w.heap.size ∧ rr b ∧ ∀ j x, (rfC ps)[j]? = some x → w.cell? ⟨b, o + j, none⟩ = some x) := by
  obtain ⟨ps, h1, h2, a, c, h3, h4⟩ := h
  refine ⟨ps, a, c, h1, by rw [h3, ← h1, List.length_map], h2, fun hne => ?_⟩
  obtain ⟨b, o, e, hr, hb, hc⟩ := h4 (by rw [← h1]; simpa using hne)
  exact ⟨b, o, e, hb, hr, hc⟩
theorem rdr_slice {rr : Nat → Prop} {w : World} {v : Value} {l : List UInt8} (h : RdR rr w v (Lib.byteCells l)) : ∃ a c, v = .slice a l.length c := by
  obtain ⟨a, c, h1, _⟩ := h
  exact ⟨a, c, by rw [h1, Lib.byteCells_length]⟩
theorem at_find (n : List UInt8) (fs : List Fe) : (findF n fs = none ∧ atF n fs 0 = -1) ∨ ∃ i f, fs[i]? = some f ∧ findF n fs = some f ∧ atF n fs 0 = (i : Nat) := by
  have h : ∀ (k : Nat), (findF n fs = none ∧ atF n fs k = -1) ∨ ∃ i f, fs[i]? = some f ∧ findF n fs = some f ∧ atF n fs k = ((i + k : Nat) : Int) := by
    induction fs with
    | nil => intro k; exact .inl ⟨rfl, rfl⟩
    | cons f l ih =>
      intro k
      unfold findF atF
      by_cases he : f.name = n
      · right; rw [if_pos he, if_pos he.symm]; exact ⟨0, f, rfl, rfl, by simp⟩
      · rw [if_neg he, if_neg (fun h => he h.symm)]
        rcases ih (k + 1) with h | ⟨i, g, h1, h2, h3⟩
        · exact .inl h
        · exact .inr ⟨i + 1, g, by simpa using h1, h2, by rw [h3]; congr 1; omega⟩
  exact h 0
/-- what a reference's function hands back -/
def RefR (rr : Nat → Prop) (w : World) (M' : Dk) (code : Nat) (e : Ending) (w' : World) : Prop := ∃ (fv' : Value) (rr' : Nat → Prop), e = .returned (.tuple #[.agg (rdC M' fv'), .int .i64 code]) ∧ Below w.heap.size w w' ∧ RFs rr' w' fv' M'.files ∧ (∀ k, rr' k → rr k ∨ w.heap.size ≤ k)
theorem RFs.below {rr : Nat → Prop} {w w' : World} {fv : Value} {fs : List Fe} (hb : Below w.heap.size w w') (hr : ∀ k, rr k → k < w.heap.size) (h : RFs rr w fv fs) : RFs rr w' fv fs := h.same fun k hk => hb.block k (hr k hk)
theorem RefR.same {rr : Nat → Prop} {w w1 : World} {L : List Ent} (hs : St [] w w1 L) (hr : ∀ k, rr k → k < w.heap.size) {M M' : Dk} {fv v : Value} {code : Nat} (h : RFs rr w fv M.files) (hf : M'.files = M.files) (hv : v = .tuple #[.agg (rdC M' fv), .int .i64 code]) : RefR rr w M' code (.returned v) w1 :=
  ⟨fv, rr, by rw [hv], hs.below, by rw [hf]; exact h.below hs.below hr, fun k hk => .inl hk⟩
theorem own_new {w w1 : World} {L : List Ent} (hs : St [] w w1 L) (k : Nat) {r : Sx.Own} {xs : List Value} {e : TypeId} (hk : L[k]? = some (se r xs e)) (j : Nat) (hj : rowB r j) : w.heap.size ≤ j := by
  obtain ⟨b, c, jj, rfl, rfl⟩ := hj
  rcases hs.own _ (List.mem_of_getElem? hk) rfl rfl with h | h
  · exact h
  · simp at h
end Go.Proofs.YteamnhpplclmfaaGreatDoor
end
section
namespace Go.Proofs.YteamnhpplclmfaaGreatDoor
open Go.RowKit Go.Sx
set_option linter.unusedVariables false

def rappendD (M : Dk) (n x : List UInt8) : Dk × Nat :=
  if namedL n = false then (M, 5) else if (M.quota : Int) - usedD M.files < x.length then (M, 3) else
  actD M (putF ⟨n, (match findF n M.files with | some f => f.bs | none => []) ++ x, match findF n M.files with | some f => f.sure | none => 0⟩ M.files)
def rsyncD (M : Dk) (n : List UInt8) : Dk × Nat := match findF n M.files with
  | none => (M, 5)
  | some f => actD M (putF ⟨n, f.bs, f.bs.length⟩ M.files)
def rcutD (M : Dk) (n : List UInt8) (size : Int) : Dk × Nat := match findF n M.files with
  | none => (M, 5)
  | some f => if size < 0 ∨ (f.bs.length : Int) < size then (M, 2) else actD M (putF ⟨n, f.bs.take size.toNat, min f.sure size.toNat⟩ M.files)
def rrenameD (M : Dk) (n m : List UInt8) : Dk × Nat := match findF n M.files with
  | none => (M, 5)
  | some f => if namedL m = false then (M, 5) else actD M (putF ⟨m, f.bs, f.bs.length⟩ (woF n M.files))
def rdropD (M : Dk) (n : List UInt8) : Dk × Nat := match findF n M.files with
  | none => (M, 5)
  | some _ => actD M (woF n M.files)
theorem sv_slice (r : Sx.Own) (n : Nat) : ∃ a c, (r = none → n = 0) → sv r n = .slice a n c := by
  cases r with
  | none => exact ⟨none, 0, fun h => by rw [h rfl]; rfl⟩
  | some p => obtain ⟨b, c, j⟩ := p; exact ⟨some ⟨b, 0, none⟩, c, fun _ => rfl⟩
theorem rw_slice {z n : Nat} {r : Sx.Own} {xs : List Value} (h : Rw z n r xs) : ∃ a c, sv r n = .slice a n c := by
  obtain ⟨a, c, hh⟩ := sv_slice r n
  exact ⟨a, c, hh fun e => by subst e; exact h.2⟩
theorem act_off {M : Dk} (h : (stepD M).1 = false) (fs : List Fe) : actD M fs = ((stepD M).2, 4) := if_neg (by rw [h]; decide)
theorem act_on {M : Dk} (h : (stepD M).1 = true) (fs : List Fe) : actD M fs = ({ (stepD M).2 with files := fs }, 0) := if_pos h
/-- the last steps: the files that were put stand in the disk -/
theorem RefR.put {rr : Nat → Prop} {w w1 : World} {L : List Ent} (hs : St [] w w1 L) {M : Dk} (k : Nat) {r : Sx.Own} {ps : List PF} {rr1 : Nat → Prop} (hk : L[k]? = some (se r (rfC ps) TFi)) (hR : Rw 3 ps.length r (rfC ps)) (hp : ∀ p ∈ ps, RdR rr1 w1 p.1 (Lib.byteCells p.2.bs)) (hr1 : ∀ j, rr1 j → rr j ∨ w.heap.size ≤ j)
    {fs : List Fe} (hfs : ps.map (·.2) = fs) (hst : (stepD M).1 = true) {v : Value} (hv : v = .tuple #[.agg (rdC (stepD M).2 (sv r ps.length)), .int .i64 0]) : RefR rr w (actD M fs).1 (actD M fs).2 (.returned v) w1 := by
  rw [act_on hst]
  refine ⟨sv r ps.length, fun j => rr1 j ∨ rowB r j, by rw [hv]; rfl, hs.below, by subst hfs; exact RFs.own hs k hk hR hp, fun j hj => ?_⟩
  rcases hj with h | h
  · exact hr1 j h
  · exact .inr (own_new hs k hk j h)
theorem cells_at {w w1 : World} {L : List Ent} (hs : St [] w w1 L) {ps : List PF} {fa : Option Addr} {rr : Nat → Prop} (h : ps ≠ [] → ∃ b o, fa = some ⟨b, o, none⟩ ∧ b < w.heap.size ∧ rr b ∧ ∀ j x, (rfC ps)[j]? = some x → w.cell? ⟨b, o + j, none⟩ = some x) :
    ps ≠ [] → ∃ b o, fa = some ⟨b, o, none⟩ ∧ b < w1.heap.size ∧ ∀ j x, (rfC ps)[j]? = some x → w1.cell? ⟨b, o + j, none⟩ = some x := fun hne => by
  obtain ⟨b, o, e, hb, _, hc⟩ := h hne
  exact ⟨b, o, e, Nat.lt_of_lt_of_le hb hs.size, fun j x hx => (hs.below.cell (p := ⟨b, o + j, none⟩) hb).trans (hc j x hx)⟩
theorem RdR.below {rr : Nat → Prop} {w w1 : World} {v : Value} {xs : List Value} (hb : Below w.heap.size w w1) (hr : ∀ k, rr k → k < w.heap.size) (h : RdR rr w v xs) : RdR rr w1 v xs := h.same fun k hk => hb.block k (hr k hk)
set_option maxRecDepth 100000 in
set_option maxHeartbeats 2000000 in
theorem rsync_any (M : Dk) (fv : Value) (rr : Nat → Prop) (n : List UInt8) (hfs : M.files.length ≤ 1000000) (hst : M.steps ≤ 1000000) (hl : M.left ≤ 9223372036854775807) (w : World) (h : RFs rr w fv M.files) (hr : ∀ k, rr k → k < w.heap.size) :
    Calls Tryz.prog 76 ([.agg (rdC M fv), VS n] : List Value).toArray w (RefR rr w (rsyncD M n).1 (rsyncD M n).2) := by
  obtain ⟨ps, fa, fc, hps, rfl, hrd, hcell⟩ := h.pairs
  have hpl : ps.length = M.files.length := by rw [← hps]; simp
  have hsl : ∀ p ∈ ps, ∃ a l c, p.1 = .slice a l c := fun p hp => by obtain ⟨a, c, e⟩ := rdr_slice (hrd p hp); exact ⟨a, _, c, e⟩
  refine (enter tab_ok Tryz.func76 rfl Tryz.ntmps76 rfl (St.start w) (R := fun v w' => RefR rr w (rsyncD M n).1 (rsyncD M n).2 (.returned v) w') ?_).mono (fun e w' ⟨v, he, h⟩ => by rw [he]; exact h)
  intro b3 b6
  refine ldN 0 rfl rfl ?_
  refine cvs (fun w1 hs => rat_any M _ M.files rr n hfs w1 (h.below hs.below hr)) ?_
  rcases at_find n M.files with ⟨hf1, hf2⟩ | ⟨i, f, hf0, hf1, hf2⟩
  · rw [hf2]
    have e1 : rsyncD M n = (M, 5) := by unfold rsyncD; rw [hf1]
    rw [e1]
    refine ct rfl ?_
    refine ldN 0 rfl rfl ?_
    refine sN 1 rfl rfl (rdC_one M rfl) ?_ (by kernel_rfl)
    refine ldN 1 rfl rfl ?_
    exact ⟨fun w1 hs => RefR.same hs hr h rfl rfl⟩
  rw [hf2]
  refine cf (decide_eq_false (by omega)) ?_
  have e1 : rsyncD M n = actD M (putF ⟨n, f.bs, f.bs.length⟩ M.files) := by unfold rsyncD; rw [hf1]
  rw [e1]
  have hfm := findF_mem hf1
  have hil : i < ps.length := by rw [hpl]; exact (List.getElem?_eq_some_iff.1 hf0).1
  obtain ⟨p, hp⟩ : ∃ p, p = ps[i] := ⟨_, rfl⟩
  have hpf : p.2 = f := by
    have h9 : M.files[i]? = some p.2 := by rw [← hps, hp]; simp [hil]
    exact Option.some.inj (h9.symm.trans hf0)
  have hpm : p ∈ ps := hp ▸ List.getElem_mem hil
  have hpr := hrd p hpm
  obtain ⟨qa, qc, hq⟩ := rdr_slice hpr
  rw [hpf] at hq hpr
  obtain ⟨fb, fo, hfa, hfb, _, hfc⟩ := hcell (by intro e; rw [e] at hil; simp at hil)
  subst hfa
  obtain ⟨c1, c2, c3⟩ := rfC_get ps i hil
  rw [← hp, hpf] at c1 c3
  rw [← hp, hq] at c2
  have hcells : ∀ j u, (#[VS f.name, .slice qa f.bs.length qc, .int .i64 f.sure] : Array Value)[j]? = some u → w.cell? ⟨fb, fo + i * 3 + j, none⟩ = some u := by
    intro j u hu
    rw [Nat.add_assoc]
    refine hfc _ _ ?_
    rcases j with _ | _ | _ | j
    · exact c1.trans hu
    · exact c2.trans hu
    · exact c3.trans hu
    · simp at hu
  refine ldN 0 rfl rfl ?_
  refine cv (rstep_any M _ _ _ hst hl) ?_
  refine sN 0 rfl rfl (rdC_one (stepD M).2 rfl) ?_ (by kernel_rfl)
  cases hs1 : (stepD M).1 with
  | false =>
    rw [act_off hs1]
    refine ct rfl ?_
    refine ldN 0 rfl rfl ?_
    refine sN 1 rfl rfl (rdC_one (stepD M).2 rfl) ?_ (by kernel_rfl)
    refine ldN 1 rfl rfl ?_
    exact ⟨fun w1 hs => RefR.same hs hr h (stepD_files M) rfl⟩
  | true =>
  refine cf rfl ?_
  refine ld1 0 rfl (v := .slice (some ⟨fb, fo, none⟩) ps.length fc) rfl ?_
  refine ⟨by omega, by (try simp only); omega, ?_⟩
  refine ldoN (d := #[VS f.name, .slice qa f.bs.length qc, .int .i64 f.sure]) (fun j u hu => by rw [nad_eq, nmu_eq, Int.toNat_natCast]; exact hcells j u hu) hfb rfl ?_
  intro b8
  refine sN 2 rfl rfl rfl ?_ (by kernel_rfl)
  refine ld1 2 rfl (v := .slice qa f.bs.length qc) rfl ?_
  refine s1 2 rfl (show 2 < 3 by decide) ?_
  refine ld1 0 rfl (v := .slice (some ⟨fb, fo, none⟩) ps.length fc) rfl ?_
  refine ldN 2 rfl rfl ?_
  have hnm : f.name = n := hfm.2
  refine co (n := (putP (.slice qa f.bs.length qc, ⟨f.name, f.bs, f.bs.length⟩) ps).length) (z := 3) (xs := rfC (putP (.slice qa f.bs.length qc, ⟨f.name, f.bs, f.bs.length⟩) ps)) (e := TFi) (fun w1 hs => put_any _ fc ps (.slice qa f.bs.length qc, ⟨f.name, f.bs, f.bs.length⟩) qa f.bs.length qc rfl hsl (by omega) w1 (cells_at hs hcell)) (fun r2 hR2 => ?_)
  refine s1 0 rfl (show 5 < 6 by decide) ?_ (h1 := by cases r2 <;> rfl) (hv := by cases r2 <;> rfl)
  refine ldN 0 rfl rfl ?_
  refine sN 1 rfl rfl (rdC_one (stepD M).2 (by cases r2 <;> rfl)) ?_ (by kernel_rfl)
  refine ldN 1 rfl rfl ?_
  refine ⟨fun w1 hs => RefR.put (rr1 := rr) hs 3 rfl hR2 (fun p' hp' => ?_) (fun _ h => .inl h) (by rw [putF_map, hps, hnm]) hs1 rfl⟩
  rcases putP_mem hp' with rfl | hp'
  · rw [hq] at hpr; exact RdR.below hs.below hr hpr
  · exact RdR.below hs.below hr (hrd p' hp')
set_option maxRecDepth 100000 in
set_option maxHeartbeats 2000000 in
theorem rdrop_any (M : Dk) (fv : Value) (rr : Nat → Prop) (n : List UInt8) (hfs : M.files.length ≤ 1000000) (hst : M.steps ≤ 1000000) (hl : M.left ≤ 9223372036854775807) (w : World) (h : RFs rr w fv M.files) (hr : ∀ k, rr k → k < w.heap.size) :
    Calls Tryz.prog 70 ([.agg (rdC M fv), VS n] : List Value).toArray w (RefR rr w (rdropD M n).1 (rdropD M n).2) := by
  obtain ⟨ps, fa, fc, hps, rfl, hrd, hcell⟩ := h.pairs
  have hpl : ps.length = M.files.length := by rw [← hps]; simp
  have hsl : ∀ p ∈ ps, ∃ a l c, p.1 = .slice a l c := fun p hp => by obtain ⟨a, c, e⟩ := rdr_slice (hrd p hp); exact ⟨a, _, c, e⟩
  refine (enter tab_ok Tryz.func70 rfl Tryz.ntmps70 rfl (St.start w) (R := fun v w' => RefR rr w (rdropD M n).1 (rdropD M n).2 (.returned v) w') ?_).mono (fun e w' ⟨v, he, h⟩ => by rw [he]; exact h)
  intro b3 b6
  refine ldN 0 rfl rfl ?_
  refine cvs (fun w1 hs => rat_any M _ M.files rr n hfs w1 (h.below hs.below hr)) ?_
  rcases at_find n M.files with ⟨hf1, hf2⟩ | ⟨i, f, hf0, hf1, hf2⟩
  · rw [hf2]
    have e1 : rdropD M n = (M, 5) := by unfold rdropD; rw [hf1]
    rw [e1]
    refine ct rfl ?_
    refine ldN 0 rfl rfl ?_
    refine sN 1 rfl rfl (rdC_one M rfl) ?_ (by kernel_rfl)
    refine ldN 1 rfl rfl ?_
    exact ⟨fun w1 hs => RefR.same hs hr h rfl rfl⟩
  rw [hf2]
  refine cf (decide_eq_false (by omega)) ?_
  have e1 : rdropD M n = actD M (woF n M.files) := by unfold rdropD; rw [hf1]
  rw [e1]
  refine ldN 0 rfl rfl ?_
  refine cv (rstep_any M _ _ _ hst hl) ?_
  refine sN 0 rfl rfl (rdC_one (stepD M).2 rfl) ?_ (by kernel_rfl)
  cases hs1 : (stepD M).1 with
  | false =>
    rw [act_off hs1]
    refine ct rfl ?_
    refine ldN 0 rfl rfl ?_
    refine sN 1 rfl rfl (rdC_one (stepD M).2 rfl) ?_ (by kernel_rfl)
    refine ldN 1 rfl rfl ?_
    exact ⟨fun w1 hs => RefR.same hs hr h (stepD_files M) rfl⟩
  | true =>
  refine cf rfl ?_
  refine ld1 0 rfl (v := .slice fa ps.length fc) rfl ?_
  refine co (n := (woP n ps).length) (z := 3) (xs := rfC (woP n ps)) (e := TFi) (fun w1 hs => without_any fa fc ps n hsl (by omega) w1 (cells_at hs hcell)) (fun r2 hR2 => ?_)
  refine s1 0 rfl (show 5 < 6 by decide) ?_ (h1 := by cases r2 <;> rfl) (hv := by cases r2 <;> rfl)
  refine ldN 0 rfl rfl ?_
  refine sN 1 rfl rfl (rdC_one (stepD M).2 (by cases r2 <;> rfl)) ?_ (by kernel_rfl)
  refine ldN 1 rfl rfl ?_
  refine ⟨fun w1 hs => RefR.put (rr1 := rr) hs 2 rfl hR2 (fun p' hp' => ?_) (fun _ h => .inl h) (by rw [woF_map, hps]) hs1 rfl⟩
  exact RdR.below hs.below hr (hrd p' (woP_mem hp'))
end Go.Proofs.YteamnhpplclmfaaGreatDoor
end
section
namespace Go.Proofs.YteamnhpplclmfaaGreatDoor
open Go.RowKit Go.Sx
set_option linter.unusedVariables false

theorem Rd.cap {w : World} {a : Option Addr} {n c c' : Nat} {xs : List Value} (h : Rd w (.slice a n c) xs) : Rd w (.slice a n c') xs := by
  obtain ⟨a', c1, e, h1⟩ := h
  injection e with e1 e2 e3
  subst e1; subst e2
  exact ⟨a, c', rfl, h1⟩
set_option maxRecDepth 100000 in
set_option maxHeartbeats 2000000 in
theorem rcut_any (M : Dk) (fv : Value) (rr : Nat → Prop) (n : List UInt8) (size : Int) (hfs : M.files.length ≤ 1000000) (hfz : ∀ f ∈ M.files, f.bs.length ≤ 16777216) (hst : M.steps ≤ 1000000) (hl : M.left ≤ 9223372036854775807) (w : World) (h : RFs rr w fv M.files) (hr : ∀ k, rr k → k < w.heap.size) :
    Calls Tryz.prog 75 ([.agg (rdC M fv), VS n, .int .i64 size] : List Value).toArray w (RefR rr w (rcutD M n size).1 (rcutD M n size).2) := by
  obtain ⟨ps, fa, fc, hps, rfl, hrd, hcell⟩ := h.pairs
  have hpl : ps.length = M.files.length := by rw [← hps]; simp
  have hsl : ∀ p ∈ ps, ∃ a l c, p.1 = .slice a l c := fun p hp => by obtain ⟨a, c, e⟩ := rdr_slice (hrd p hp); exact ⟨a, _, c, e⟩
  refine (enter tab_ok Tryz.func75 rfl Tryz.ntmps75 rfl (St.start w) (R := fun v w' => RefR rr w (rcutD M n size).1 (rcutD M n size).2 (.returned v) w') ?_).mono (fun e w' ⟨v, he, h⟩ => by rw [he]; exact h)
  intro b3 b6
  refine ldN 0 rfl rfl ?_
  refine cvs (fun w1 hs => rat_any M _ M.files rr n hfs w1 (h.below hs.below hr)) ?_
  rcases at_find n M.files with ⟨hf1, hf2⟩ | ⟨i, f, hf0, hf1, hf2⟩
  · rw [hf2]
    have e1 : rcutD M n size = (M, 5) := by unfold rcutD; rw [hf1]
    rw [e1]
    refine ct rfl ?_
    refine ldN 0 rfl rfl ?_
    refine sN 1 rfl rfl (rdC_one M rfl) ?_ (by kernel_rfl)
    refine ldN 1 rfl rfl ?_
    exact ⟨fun w1 hs => RefR.same hs hr h rfl rfl⟩
  rw [hf2]
  refine cf (decide_eq_false (by omega)) ?_
  have hfm := findF_mem hf1
  have hil : i < ps.length := by rw [hpl]; exact (List.getElem?_eq_some_iff.1 hf0).1
  obtain ⟨p, hp⟩ : ∃ p, p = ps[i] := ⟨_, rfl⟩
  have hpf : p.2 = f := by
    have h9 : M.files[i]? = some p.2 := by rw [← hps, hp]; simp [hil]
    exact Option.some.inj (h9.symm.trans hf0)
  have hpm : p ∈ ps := hp ▸ List.getElem_mem hil
  have hpr := hrd p hpm
  obtain ⟨qa, qc, hq⟩ := rdr_slice hpr
  rw [hpf] at hq hpr
  obtain ⟨fb, fo, hfa, hfb, _, hfc⟩ := hcell (by intro e; rw [e] at hil; simp at hil)
  subst hfa
  obtain ⟨c1, c2, c3⟩ := rfC_get ps i hil
  rw [← hp, hpf] at c1 c3
  rw [← hp, hq] at c2
  have hcells : ∀ j u, (#[VS f.name, .slice qa f.bs.length qc, .int .i64 f.sure] : Array Value)[j]? = some u → w.cell? ⟨fb, fo + i * 3 + j, none⟩ = some u := by
    intro j u hu
    rw [Nat.add_assoc]
    refine hfc _ _ ?_
    rcases j with _ | _ | _ | j
    · exact c1.trans hu
    · exact c2.trans hu
    · exact c3.trans hu
    · simp at hu
  have hbz := hfz f hfm.1
  refine ld1 0 rfl (v := .slice (some ⟨fb, fo, none⟩) ps.length fc) rfl ?_
  refine ⟨by omega, by (try simp only); omega, ?_⟩
  refine ldoN (d := #[VS f.name, .slice qa f.bs.length qc, .int .i64 f.sure]) (fun j u hu => by rw [nad_eq, nmu_eq, Int.toNat_natCast]; exact hcells j u hu) hfb rfl ?_
  intro b9
  refine sN 2 rfl rfl rfl ?_ (by kernel_rfl)
  by_cases hbad : size < 0 ∨ (f.bs.length : Int) < size
  · have e1 : rcutD M n size = (M, 2) := by unfold rcutD; rw [hf1]; exact if_pos hbad
    rw [e1]
    by_cases h0 : size < 0
    · have f1 := decide_eq_true h0
      have f2 : (decide (size < 0) == false) = false := by rw [f1]; rfl
      iterate 5 refine cf f2 ?_
      refine ct f1 ?_
      refine ct rfl ?_
      refine ldN 0 rfl rfl ?_
      refine sN 1 rfl rfl (rdC_one M rfl) ?_ (by kernel_rfl)
      refine ldN 1 rfl rfl ?_
      exact ⟨fun w1 hs => RefR.same hs hr h rfl rfl⟩
    · have f1 := decide_eq_false h0
      have f2 : (decide (size < 0) == false) = true := by rw [f1]; rfl
      iterate 3 refine ct f2 ?_
      refine ld1 2 rfl (v := .slice qa f.bs.length qc) rfl ?_
      iterate 2 refine ct f2 ?_
      refine cf f1 ?_
      refine ct (decide_eq_true (by omega)) ?_
      refine ldN 0 rfl rfl ?_
      refine sN 1 rfl rfl (rdC_one M rfl) ?_ (by kernel_rfl)
      refine ldN 1 rfl rfl ?_
      exact ⟨fun w1 hs => RefR.same hs hr h rfl rfl⟩
  · have e1 : rcutD M n size = actD M (putF ⟨n, f.bs.take size.toNat, min f.sure size.toNat⟩ M.files) := by unfold rcutD; rw [hf1]; exact if_neg hbad
    obtain ⟨k, rfl⟩ : ∃ k : Nat, size = k := ⟨size.toNat, by omega⟩
    rw [Int.toNat_natCast] at e1
    rw [e1]
    have f1 := decide_eq_false (show ¬ (k : Int) < 0 by omega)
    have f2 : (decide ((k : Int) < 0) == false) = true := by rw [f1]; rfl
    have hkl : k ≤ f.bs.length := by omega
    have hnm : f.name = n := hfm.2
    rw [hq] at hpr
    obtain ⟨_, _, hcc, _, hspot, _⟩ := RdR.cut (k := k) hpr hkl
    iterate 3 refine ct f2 ?_
    refine ld1 2 rfl (v := .slice qa f.bs.length qc) rfl ?_
    iterate 2 refine ct f2 ?_
    refine cf f1 ?_
    refine cf (decide_eq_false (by omega)) ?_
    refine ldN 0 rfl rfl ?_
    refine cv (rstep_any M _ _ _ hst hl) ?_
    refine sN 0 rfl rfl (rdC_one (stepD M).2 rfl) ?_ (by kernel_rfl)
    cases hs1 : (stepD M).1 with
    | false =>
      rw [act_off hs1]
      refine ct rfl ?_
      refine ldN 0 rfl rfl ?_
      refine sN 1 rfl rfl (rdC_one (stepD M).2 rfl) ?_ (by kernel_rfl)
      refine ldN 1 rfl rfl ?_
      exact ⟨fun w1 hs => RefR.same hs hr h (stepD_files M) rfl⟩
    | true =>
    refine cf rfl ?_
    refine .mk _ _ bsl0 (fun b10 => ?_)
    refine ld1 2 rfl (v := .slice qa f.bs.length qc) rfl ?_
    refine slTo hspot hkl hcc ?_
    have htl : (Lib.byteCells (f.bs.take k)).length = k := by rw [Lib.byteCells_length, List.length_take, Nat.min_eq_left hkl]
    refine ap (r := some (b10, 0, [])) (xs := []) (n := 0) (m := (Lib.byteCells (f.bs.take k)).length) (news := Lib.byteCells (f.bs.take k)) 3 tab_ok rfl info5 rfl rfl ⟨rfl, Nat.le_refl _, by unfold maxLen; omega, rfl⟩ (fun w' hs => Rd.src (by rw [htl] at *; exact Rd.cap (RdR.cut (k := k) (RdR.below hs.below hr hpr) hkl).1.rd) und22 (one8 _)) (by omega) (by unfold maxLen; omega) (fun r1 hR1 => ?_)
    rw [List.nil_append, Nat.zero_add] at *
    obtain ⟨a1, c1, hv1⟩ := rw_slice hR1
    rw [hv1]
    refine s1 2 rfl (show 1 < 3 by decide) ?_
    refine ld1 2 rfl (v := .int .i64 f.sure) rfl ?_
    by_cases hks : k < f.sure
    · rw [Nat.min_eq_right (Nat.le_of_lt hks)]
      refine ct (decide_eq_true (by omega)) ?_
      refine s1 2 rfl (show 2 < 3 by decide) ?_
      refine ld1 0 rfl (v := .slice (some ⟨fb, fo, none⟩) ps.length fc) rfl ?_
      refine ldN 2 rfl rfl ?_
      refine co (n := (putP (.slice a1 (Lib.byteCells (f.bs.take k)).length c1, ⟨f.name, f.bs.take k, k⟩) ps).length) (z := 3) (xs := rfC (putP (.slice a1 (Lib.byteCells (f.bs.take k)).length c1, ⟨f.name, f.bs.take k, k⟩) ps)) (e := TFi) (fun w1 hs => put_any _ fc ps (.slice a1 (Lib.byteCells (f.bs.take k)).length c1, ⟨f.name, f.bs.take k, k⟩) a1 (Lib.byteCells (f.bs.take k)).length c1 rfl hsl (by omega) w1 (cells_at hs hcell)) (fun r2 hR2 => ?_)
      refine s1 0 rfl (show 5 < 6 by decide) ?_ (h1 := by cases r2 <;> rfl) (hv := by cases r2 <;> rfl)
      refine ldN 0 rfl rfl ?_
      refine sN 1 rfl rfl (rdC_one (stepD M).2 (by cases r2 <;> rfl)) ?_ (by kernel_rfl)
      refine ldN 1 rfl rfl ?_
      refine ⟨fun w1 hs => RefR.put (rr1 := fun j => rr j ∨ rowB r1 j) hs 4 rfl hR2 (fun p' hp' => ?_) (fun j hj => hj.imp id (own_new hs 3 rfl j)) (by rw [putF_map, hps, hnm]) hs1 rfl⟩
      rcases putP_mem hp' with rfl | hp'
      · have := RdR.own hs 3 rfl hR1; rw [hv1] at this; exact this.mono fun j hj => .inr hj
      · exact (RdR.below hs.below hr (hrd p' hp')).mono fun j hj => .inl hj
    · rw [Nat.min_eq_left (by omega)]
      refine cf (decide_eq_false (by omega)) ?_
      refine ld1 0 rfl (v := .slice (some ⟨fb, fo, none⟩) ps.length fc) rfl ?_
      refine ldN 2 rfl rfl ?_
      refine co (n := (putP (.slice a1 (Lib.byteCells (f.bs.take k)).length c1, ⟨f.name, f.bs.take k, f.sure⟩) ps).length) (z := 3) (xs := rfC (putP (.slice a1 (Lib.byteCells (f.bs.take k)).length c1, ⟨f.name, f.bs.take k, f.sure⟩) ps)) (e := TFi) (fun w1 hs => put_any _ fc ps (.slice a1 (Lib.byteCells (f.bs.take k)).length c1, ⟨f.name, f.bs.take k, f.sure⟩) a1 (Lib.byteCells (f.bs.take k)).length c1 rfl hsl (by omega) w1 (cells_at hs hcell)) (fun r2 hR2 => ?_)
      refine s1 0 rfl (show 5 < 6 by decide) ?_ (h1 := by cases r2 <;> rfl) (hv := by cases r2 <;> rfl)
      refine ldN 0 rfl rfl ?_
      refine sN 1 rfl rfl (rdC_one (stepD M).2 (by cases r2 <;> rfl)) ?_ (by kernel_rfl)
      refine ldN 1 rfl rfl ?_
      refine ⟨fun w1 hs => RefR.put (rr1 := fun j => rr j ∨ rowB r1 j) hs 4 rfl hR2 (fun p' hp' => ?_) (fun j hj => hj.imp id (own_new hs 3 rfl j)) (by rw [putF_map, hps, hnm]) hs1 rfl⟩
      rcases putP_mem hp' with rfl | hp'
      · have := RdR.own hs 3 rfl hR1; rw [hv1] at this; exact this.mono fun j hj => .inr hj
      · exact (RdR.below hs.below hr (hrd p' hp')).mono fun j hj => .inl hj
end Go.Proofs.YteamnhpplclmfaaGreatDoor
end
section
namespace Go.Proofs.YteamnhpplclmfaaGreatDoor
open Go.RowKit Go.Sx
set_option linter.unusedVariables false


theorem own_cells {w : World} {L : List Ent} {M : Bks} {B : World} (hs : St M B w L) (k : Nat) {r : Sx.Own} {ps : List PF} {a : Option Addr} {c : Nat} (hk : L[k]? = some (se r (rfC ps) TFi)) (hR : Rw 3 ps.length r (rfC ps)) (hv : sv r ps.length = .slice a ps.length c) :
    ps ≠ [] → ∃ b o, a = some ⟨b, o, none⟩ ∧ b < w.heap.size ∧ ∀ j x, (rfC ps)[j]? = some x → w.cell? ⟨b, o + j, none⟩ = some x := by
  intro hne
  cases r with
  | none => exact absurd (List.eq_nil_of_length_eq_zero hR.2) hne
  | some q =>
    obtain ⟨b, c', j⟩ := q
    injection hv with e1 e2 e3
    subst e1
    refine ⟨b, 0, rfl, hs.lt (List.mem_of_getElem? hk) rfl, fun i x hx => ?_⟩
    rw [hs.cell (k := k) (b := b) hk (0 + i), Nat.zero_add]
    have hi := (List.getElem?_eq_some_iff.1 hx).1
    simp [List.getElem?_append_left hi, hx]
set_option maxRecDepth 100000 in
set_option maxHeartbeats 2000000 in
theorem rrename_any (M : Dk) (fv : Value) (rr : Nat → Prop) (n m : List UInt8) (hm : m.length ≤ 1000000) (hfs : M.files.length ≤ 1000000) (hst : M.steps ≤ 1000000) (hl : M.left ≤ 9223372036854775807) (w : World) (h : RFs rr w fv M.files) (hr : ∀ k, rr k → k < w.heap.size) :
    Calls Tryz.prog 82 ([.agg (rdC M fv), VS n, VS m] : List Value).toArray w (RefR rr w (rrenameD M n m).1 (rrenameD M n m).2) := by
  obtain ⟨ps, fa, fc, hps, rfl, hrd, hcell⟩ := h.pairs
  have hpl : ps.length = M.files.length := by rw [← hps]; simp
  have hsl : ∀ p ∈ ps, ∃ a l c, p.1 = .slice a l c := fun p hp => by obtain ⟨a, c, e⟩ := rdr_slice (hrd p hp); exact ⟨a, _, c, e⟩
  refine (enter tab_ok Tryz.func82 rfl Tryz.ntmps82 rfl (St.start w) (R := fun v w' => RefR rr w (rrenameD M n m).1 (rrenameD M n m).2 (.returned v) w') ?_).mono (fun e w' ⟨v, he, h⟩ => by rw [he]; exact h)
  intro b3 b6
  refine ldN 0 rfl rfl ?_
  refine cvs (fun w1 hs => rat_any M _ M.files rr n hfs w1 (h.below hs.below hr)) ?_
  rcases at_find n M.files with ⟨hf1, hf2⟩ | ⟨i, f, hf0, hf1, hf2⟩
  · rw [hf2]
    have e1 : rrenameD M n m = (M, 5) := by unfold rrenameD; rw [hf1]
    rw [e1]
    iterate 3 refine cf rfl ?_
    refine ct rfl ?_
    refine ct rfl ?_
    refine ldN 0 rfl rfl ?_
    refine sN 1 rfl rfl (rdC_one M rfl) ?_ (by kernel_rfl)
    refine ldN 1 rfl rfl ?_
    exact ⟨fun w1 hs => RefR.same hs hr h rfl rfl⟩
  rw [hf2]
  have f1 := decide_eq_false (show ¬ ((i : Nat) : Int) < 0 by omega)
  have f2 : (decide (((i : Nat) : Int) < 0) == false) = true := by rw [f1]; rfl
  iterate 2 refine ct f2 ?_
  refine cv (rnamed_any m hm) ?_
  refine ct f2 ?_
  refine cf f1 ?_
  cases hnm : namedL m with
  | false =>
    have e1 : rrenameD M n m = (M, 5) := by unfold rrenameD; rw [hf1]; exact if_pos hnm
    rw [e1]
    refine ct rfl ?_
    refine ldN 0 rfl rfl ?_
    refine sN 1 rfl rfl (rdC_one M rfl) ?_ (by kernel_rfl)
    refine ldN 1 rfl rfl ?_
    exact ⟨fun w1 hs => RefR.same hs hr h rfl rfl⟩
  | true =>
  have e1 : rrenameD M n m = actD M (putF ⟨m, f.bs, f.bs.length⟩ (woF n M.files)) := by unfold rrenameD; rw [hf1]; exact if_neg (by rw [hnm]; decide)
  rw [e1]
  refine cf rfl ?_
  have hfm := findF_mem hf1
  have hil : i < ps.length := by rw [hpl]; exact (List.getElem?_eq_some_iff.1 hf0).1
  obtain ⟨p, hp⟩ : ∃ p, p = ps[i] := ⟨_, rfl⟩
  have hpf : p.2 = f := by
    have h9 : M.files[i]? = some p.2 := by rw [← hps, hp]; simp [hil]
    exact Option.some.inj (h9.symm.trans hf0)
  have hpm : p ∈ ps := hp ▸ List.getElem_mem hil
  have hpr := hrd p hpm
  obtain ⟨qa, qc, hq⟩ := rdr_slice hpr
  rw [hpf] at hq hpr
  obtain ⟨fb, fo, hfa, hfb, _, hfc⟩ := hcell (by intro e; rw [e] at hil; simp at hil)
  subst hfa
  obtain ⟨c1, c2, c3⟩ := rfC_get ps i hil
  rw [← hp, hpf] at c1 c3
  rw [← hp, hq] at c2
  have hcells : ∀ j u, (#[VS f.name, .slice qa f.bs.length qc, .int .i64 f.sure] : Array Value)[j]? = some u → w.cell? ⟨fb, fo + i * 3 + j, none⟩ = some u := by
    intro j u hu
    rw [Nat.add_assoc]
    refine hfc _ _ ?_
    rcases j with _ | _ | _ | j
    · exact c1.trans hu
    · exact c2.trans hu
    · exact c3.trans hu
    · simp at hu
  refine ldN 0 rfl rfl ?_
  refine cv (rstep_any M _ _ _ hst hl) ?_
  refine sN 0 rfl rfl (rdC_one (stepD M).2 rfl) ?_ (by kernel_rfl)
  cases hs1 : (stepD M).1 with
  | false =>
    rw [act_off hs1]
    refine ct rfl ?_
    refine ldN 0 rfl rfl ?_
    refine sN 1 rfl rfl (rdC_one (stepD M).2 rfl) ?_ (by kernel_rfl)
    refine ldN 1 rfl rfl ?_
    exact ⟨fun w1 hs => RefR.same hs hr h (stepD_files M) rfl⟩
  | true =>
  refine cf rfl ?_
  refine ld1 0 rfl (v := .slice (some ⟨fb, fo, none⟩) ps.length fc) rfl ?_
  refine ⟨by omega, by (try simp only); omega, ?_⟩
  refine ldoN (d := #[VS f.name, .slice qa f.bs.length qc, .int .i64 f.sure]) (fun j u hu => by rw [nad_eq, nmu_eq, Int.toNat_natCast]; exact hcells j u hu) hfb rfl ?_
  intro b10
  refine sN 2 rfl rfl rfl ?_ (by kernel_rfl)
  refine s1 2 rfl (show 0 < 3 by decide) ?_
  refine ld1 2 rfl (v := .slice qa f.bs.length qc) rfl ?_
  refine s1 2 rfl (show 2 < 3 by decide) ?_
  refine dr [cl b3 (rdC (stepD M).2 (.slice (some ⟨fb, fo, none⟩) ps.length fc)) TR, cl b6 (rdC ⟨0, 0, false, false, 0, []⟩ (.slice none 0 0)) TR, cl b10 #[VS m, .slice qa f.bs.length qc, .int .i64 f.bs.length] TFi] 7 (.t 0 (.t 1 (.t 2 (.t 4 (.n 3 (.n 5 (.t 6 (.n 7 .nil)))))))) tab_ok mixed_ok (by kernel_rfl) (.cons (.cons (.cons .nil))) ?_
  refine ld1 0 rfl (v := .slice (some ⟨fb, fo, none⟩) ps.length fc) rfl ?_
  refine ldN 2 rfl rfl ?_
  refine co (n := (woP n ps).length) (z := 3) (xs := rfC (woP n ps)) (e := TFi) (fun w1 hs => without_any _ fc ps n hsl (by omega) w1 (cells_at hs hcell)) (fun r1 hR1 => ?_)
  obtain ⟨a1, c1, hv1⟩ := rw_slice hR1
  rw [hv1]
  refine ⟨.cons (.cons (.cons .nil)), ?_⟩
  have hwl := woP_len n ps
  refine co (n := (putP (.slice qa f.bs.length qc, ⟨m, f.bs, f.bs.length⟩) (woP n ps)).length) (z := 3) (xs := rfC (putP (.slice qa f.bs.length qc, ⟨m, f.bs, f.bs.length⟩) (woP n ps))) (e := TFi) (fun w1 hs => put_any _ c1 (woP n ps) (.slice qa f.bs.length qc, ⟨m, f.bs, f.bs.length⟩) qa f.bs.length qc rfl (fun p hp => hsl p (woP_mem hp)) (by omega) w1 (own_cells hs 3 rfl hR1 hv1)) (fun r2 hR2 => ?_)
  refine ⟨.cons (.cons (.cons .nil)), ?_⟩
  refine s1 0 rfl (show 5 < 6 by decide) ?_ (h1 := by cases r2 <;> rfl) (hv := by cases r2 <;> rfl)
  refine ldN 0 rfl rfl ?_
  refine sN 1 rfl rfl (rdC_one (stepD M).2 (by cases r2 <;> rfl)) ?_ (by kernel_rfl)
  refine ldN 1 rfl rfl ?_
  refine ⟨fun w1 hs => RefR.put (rr1 := rr) hs 4 rfl hR2 (fun p' hp' => ?_) (fun _ h => .inl h) (by rw [putF_map, woF_map, hps]) hs1 rfl⟩
  rcases putP_mem hp' with rfl | hp'
  · rw [hq] at hpr; exact RdR.below hs.below hr hpr
  · exact RdR.below hs.below hr (hrd p' (woP_mem hp'))
theorem readN (D : Dk) (n : List UInt8) (h : D.gone = false) {f : Fe} (hf : findF n D.files = some f) : readD D n = (f.bs, 0) := by unfold readD; rw [if_neg (by rw [h]; decide), hf]
end Go.Proofs.YteamnhpplclmfaaGreatDoor
end
section
namespace Go.Proofs.YteamnhpplclmfaaGreatDoor
open Go.RowKit Go.Sx
set_option linter.unusedVariables false


set_option maxRecDepth 100000 in
set_option maxHeartbeats 2000000 in
theorem rappend_any (M : Dk) (fv : Value) (rr : Nat → Prop) (n x : List UInt8) (v : Value) (hn : n.length ≤ 1000000) (hx : x.length ≤ 1000000) (hfs : M.files.length ≤ 1000000) (hfz : ∀ f ∈ M.files, f.bs.length ≤ 16777216) (hu : usedD M.files ≤ 16777216) (hq : M.quota ≤ 16777216) (hst : M.steps ≤ 1000000) (hl : M.left ≤ 9223372036854775807) (w : World) (h : RFs rr w fv M.files) (hr : ∀ k, rr k → k < w.heap.size) (hv : Rd w v (Lib.byteCells x)) :
    Calls Tryz.prog 39 ([.agg (rdC M fv), VS n, v] : List Value).toArray w (RefR rr w (rappendD M n x).1 (rappendD M n x).2) := by
  have hvl : ∃ a c, v = .slice a x.length c := by obtain ⟨a, c, e, _⟩ := hv; exact ⟨a, c, by rw [e, Lib.byteCells_length]⟩
  obtain ⟨va, vc, rfl⟩ := hvl
  obtain ⟨ps, fa, fc, hps, rfl, hrd, hcell⟩ := h.pairs
  have hpl : ps.length = M.files.length := by rw [← hps]; simp
  have hsl : ∀ p ∈ ps, ∃ a l c, p.1 = .slice a l c := fun p hp => by obtain ⟨a, c, e⟩ := rdr_slice (hrd p hp); exact ⟨a, _, c, e⟩
  refine (enter tab_ok Tryz.func39 rfl Tryz.ntmps39 rfl (St.start w) (R := fun v w' => RefR rr w (rappendD M n x).1 (rappendD M n x).2 (.returned v) w') ?_).mono (fun e w' ⟨v, he, h⟩ => by rw [he]; exact h)
  intro b3 b6
  refine cv (rnamed_any n hn) ?_
  cases hnm : namedL n with
  | false =>
    have e1 : rappendD M n x = (M, 5) := if_pos hnm
    rw [e1]
    refine ct rfl ?_
    refine ldN 0 rfl rfl ?_
    refine sN 1 rfl rfl (rdC_one M rfl) ?_ (by kernel_rfl)
    refine ldN 1 rfl rfl ?_
    exact ⟨fun w1 hs => RefR.same hs hr h rfl rfl⟩
  | true =>
  refine cf rfl ?_
  refine dr [cl b3 (rdC M (.slice fa ps.length fc)) TR, cl b6 (rdC ⟨0, 0, false, false, 0, []⟩ (.slice none 0 0)) TR] 99 (.t 0 (.t 1 (.t 2 (.t 3 (.t 4 (.t 5 (.t 6 (.t 7 .nil)))))))) tab_ok mixed_ok (by kernel_rfl) (.cons (.cons .nil)) ?_
  refine ld1 0 rfl (v := .int .i64 M.quota) rfl ?_
  refine ldN 0 rfl rfl ?_
  refine czs (fun w1 hs => rused_any M _ M.files rr hfs (by omega) w1 (h.below hs.below hr)) ?_
  refine .as ((M.quota : Int) - usedD M.files) rfl (by simp only [mn]; omega) (by simp only [mx]; omega) ?_
  by_cases hfull : (M.quota : Int) - usedD M.files < x.length
  · have e1 : rappendD M n x = (M, 3) := by unfold rappendD; rw [if_neg (by rw [hnm]; decide), if_pos hfull]
    rw [e1]
    refine ct (decide_eq_true hfull) ?_
    refine ldN 0 rfl rfl ?_
    refine sN 1 rfl rfl (rdC_one M rfl) ?_ (by kernel_rfl)
    refine ldN 1 rfl rfl ?_
    exact ⟨fun w1 hs => RefR.same hs hr h rfl rfl⟩
  refine cf (decide_eq_false hfull) ?_
  have e1 : rappendD M n x = actD M (putF ⟨n, (match findF n M.files with | some f => f.bs | none => []) ++ x, match findF n M.files with | some f => f.sure | none => 0⟩ M.files) := by unfold rappendD; rw [if_neg (by rw [hnm]; decide), if_neg hfull]; first | done | rfl
  rw [e1]
  refine ldN 0 rfl rfl ?_
  refine cv (rstep_any M _ _ _ hst hl) ?_
  refine sN 0 rfl rfl (rdC_one (stepD M).2 rfl) ?_ (by kernel_rfl)
  cases hs1 : (stepD M).1 with
  | false =>
    rw [act_off hs1]
    refine ct rfl ?_
    refine ldN 0 rfl rfl ?_
    refine sN 1 rfl rfl (rdC_one (stepD M).2 rfl) ?_ (by kernel_rfl)
    refine ldN 1 rfl rfl ?_
    exact ⟨fun w1 hs => RefR.same hs hr h (stepD_files M) rfl⟩
  | true =>
  refine cf rfl ?_
  refine bu (c := #[VS n, .slice none 0 0, .int .i64 0]) (by kernel_rfl) ?_
  intro b9
  refine sN 2 rfl rfl rfl ?_ (by kernel_rfl)
  refine ldN 0 rfl rfl ?_
  refine cvs (fun w1 hs => rat_any _ _ M.files rr n hfs w1 (h.below hs.below hr)) ?_
  rcases at_find n M.files with ⟨hf1, hf2⟩ | ⟨i, f, hf0, hf1, hf2⟩
  · rw [hf2, hf1]
    refine cf rfl ?_
    have hSf : ∀ w', Below w.heap.size w w' → Src Tryz.prog 1 22 (.slice none 0 0) (Lib.byteCells []).length (Lib.byteCells []) w' := fun w' hb => Rd.src (rd_nil w' none 0) und22 (one8 _)
    have hbl := Lib.byteCells_length ([])
    have hz0 : ([] : List UInt8).length ≤ 16777216 := by first | exact hbz | exact Nat.zero_le _
    have hbx := Lib.byteCells_length x
    refine .mk _ _ bsl0 (fun b10 => ?_)
    refine ld1 2 rfl rfl ?_
    refine ap (r := some (b10, 0, [])) (xs := []) (n := 0) (m := (Lib.byteCells ([])).length) (news := Lib.byteCells ([])) 3 tab_ok rfl info5 rfl rfl ⟨rfl, Nat.le_refl _, by unfold maxLen; omega, rfl⟩ (fun w' hs => hSf w' hs.below) (by omega) (by unfold maxLen; omega) (fun r1 hR1 => ?_)
    rw [List.nil_append, Nat.zero_add] at hR1
    rw [List.nil_append, Nat.zero_add]
    refine ap (r := r1) (xs := Lib.byteCells ([])) (n := (Lib.byteCells ([])).length) (m := (Lib.byteCells x).length) (news := Lib.byteCells x) 3 tab_ok rfl info5 rfl rfl hR1 (fun w' hs => (hv.below hs.below).src und22 (one8 x)) (by omega) (by unfold maxLen; omega) (fun r2 hR2 => ?_)
    have hcat : Lib.byteCells ([]) ++ Lib.byteCells x = Lib.byteCells ([] ++ x) := (Lib.byteCells_append _ _).symm
    have hlen : (Lib.byteCells ([])).length + (Lib.byteCells x).length = (Lib.byteCells ([] ++ x)).length := by rw [← hcat, List.length_append]
    rw [hcat, hlen] at hR2
    rw [hcat, hlen]
    obtain ⟨a1, c1, hv1⟩ := rw_slice hR2
    rw [hv1]
    refine s1 2 rfl (show 1 < 3 by decide) ?_
    refine ld1 0 rfl (v := .slice (fa) ps.length fc) rfl ?_
    refine ldN 2 rfl rfl ?_
    refine co (n := (putP (.slice a1 (Lib.byteCells ([] ++ x)).length c1, ⟨n, [] ++ x, 0⟩) ps).length) (z := 3) (xs := rfC (putP (.slice a1 (Lib.byteCells ([] ++ x)).length c1, ⟨n, [] ++ x, 0⟩) ps)) (e := TFi) (fun w1 hs => put_any _ fc ps (.slice a1 (Lib.byteCells ([] ++ x)).length c1, ⟨n, [] ++ x, 0⟩) a1 (Lib.byteCells ([] ++ x)).length c1 rfl hsl (by omega) w1 (cells_at hs hcell)) (fun r3 hR3 => ?_)
    refine s1 0 rfl (show 5 < 6 by decide) ?_ (h1 := by cases r3 <;> rfl) (hv := by cases r3 <;> rfl)
    refine ldN 0 rfl rfl ?_
    refine sN 1 rfl rfl (rdC_one (stepD M).2 (by cases r3 <;> rfl)) ?_ (by kernel_rfl)
    refine ldN 1 rfl rfl ?_
    refine ⟨fun w1 hs => RefR.put (rr1 := fun j => rr j ∨ rowB r2 j) hs 4 rfl hR3 (fun p' hp' => ?_) (fun j hj => hj.imp id (own_new hs 3 rfl j)) (by rw [putF_map, hps]; first | done | rfl) hs1 rfl⟩
    rcases putP_mem hp' with rfl | hp'
    · have := RdR.own hs 3 rfl hR2; rw [hv1] at this; exact this.mono fun j hj => .inr hj
    · exact (RdR.below hs.below hr (hrd p' hp')).mono fun j hj => .inl hj
  · rw [hf2, hf1]
    refine ct (decide_eq_true (by omega)) ?_
    have hfm := findF_mem hf1
    have hil : i < ps.length := by rw [hpl]; exact (List.getElem?_eq_some_iff.1 hf0).1
    obtain ⟨p, hp⟩ : ∃ p, p = ps[i] := ⟨_, rfl⟩
    have hpf : p.2 = f := by
      have h9 : M.files[i]? = some p.2 := by rw [← hps, hp]; simp [hil]
      exact Option.some.inj (h9.symm.trans hf0)
    have hpm : p ∈ ps := hp ▸ List.getElem_mem hil
    have hpr := hrd p hpm
    obtain ⟨qa, qc, hq⟩ := rdr_slice hpr
    rw [hpf] at hq hpr
    obtain ⟨fb, fo, hfa, hfb, _, hfc⟩ := hcell (by intro e; rw [e] at hil; simp at hil)
    subst hfa
    obtain ⟨c1, c2, c3⟩ := rfC_get ps i hil
    rw [← hp, hpf] at c1 c3
    rw [← hp, hq] at c2
    have hcells : ∀ j u, (#[VS f.name, .slice qa f.bs.length qc, .int .i64 f.sure] : Array Value)[j]? = some u → w.cell? ⟨fb, fo + i * 3 + j, none⟩ = some u := by
      intro j u hu
      rw [Nat.add_assoc]
      refine hfc _ _ ?_
      rcases j with _ | _ | _ | j
      · exact c1.trans hu
      · exact c2.trans hu
      · exact c3.trans hu
      · simp at hu
    have hbz := hfz f hfm.1
    have hnm2 : f.name = n := hfm.2
    rw [hq] at hpr
    rw [hnm2] at hcells
    refine ld1 0 rfl (v := .slice (some ⟨fb, fo, none⟩) ps.length fc) rfl ?_
    refine ⟨by omega, by (try simp only); omega, ?_⟩
    refine ldoN (d := #[VS n, .slice qa f.bs.length qc, .int .i64 f.sure]) (fun j u hu => by rw [nad_eq, nmu_eq, Int.toNat_natCast]; exact hcells j u hu) hfb rfl ?_
    refine sN 2 rfl rfl rfl ?_ (by kernel_rfl)
    have hSf : ∀ w', Below w.heap.size w w' → Src Tryz.prog 1 22 (.slice qa f.bs.length qc) (Lib.byteCells f.bs).length (Lib.byteCells f.bs) w' := fun w' hb => Rd.src (RdR.below hb hr hpr).rd und22 (one8 _)
    have hbl := Lib.byteCells_length (f.bs)
    have hz0 : (f.bs : List UInt8).length ≤ 16777216 := by first | exact hbz | exact Nat.zero_le _
    have hbx := Lib.byteCells_length x
    refine .mk _ _ bsl0 (fun b10 => ?_)
    refine ld1 2 rfl rfl ?_
    refine ap (r := some (b10, 0, [])) (xs := []) (n := 0) (m := (Lib.byteCells (f.bs)).length) (news := Lib.byteCells (f.bs)) 3 tab_ok rfl info5 rfl rfl ⟨rfl, Nat.le_refl _, by unfold maxLen; omega, rfl⟩ (fun w' hs => hSf w' hs.below) (by omega) (by unfold maxLen; omega) (fun r1 hR1 => ?_)
    rw [List.nil_append, Nat.zero_add] at hR1
    rw [List.nil_append, Nat.zero_add]
    refine ap (r := r1) (xs := Lib.byteCells (f.bs)) (n := (Lib.byteCells (f.bs)).length) (m := (Lib.byteCells x).length) (news := Lib.byteCells x) 3 tab_ok rfl info5 rfl rfl hR1 (fun w' hs => (hv.below hs.below).src und22 (one8 x)) (by omega) (by unfold maxLen; omega) (fun r2 hR2 => ?_)
    have hcat : Lib.byteCells (f.bs) ++ Lib.byteCells x = Lib.byteCells (f.bs ++ x) := (Lib.byteCells_append _ _).symm
    have hlen : (Lib.byteCells (f.bs)).length + (Lib.byteCells x).length = (Lib.byteCells (f.bs ++ x)).length := by rw [← hcat, List.length_append]
    rw [hcat, hlen] at hR2
    rw [hcat, hlen]
    obtain ⟨a1, c1, hv1⟩ := rw_slice hR2
    rw [hv1]
    refine s1 2 rfl (show 1 < 3 by decide) ?_
    refine ld1 0 rfl (v := .slice (some ⟨fb, fo, none⟩) ps.length fc) rfl ?_
    refine ldN 2 rfl rfl ?_
    refine co (n := (putP (.slice a1 (Lib.byteCells (f.bs ++ x)).length c1, ⟨n, f.bs ++ x, f.sure⟩) ps).length) (z := 3) (xs := rfC (putP (.slice a1 (Lib.byteCells (f.bs ++ x)).length c1, ⟨n, f.bs ++ x, f.sure⟩) ps)) (e := TFi) (fun w1 hs => put_any _ fc ps (.slice a1 (Lib.byteCells (f.bs ++ x)).length c1, ⟨n, f.bs ++ x, f.sure⟩) a1 (Lib.byteCells (f.bs ++ x)).length c1 rfl hsl (by omega) w1 (cells_at hs hcell)) (fun r3 hR3 => ?_)
    refine s1 0 rfl (show 5 < 6 by decide) ?_ (h1 := by cases r3 <;> rfl) (hv := by cases r3 <;> rfl)
    refine ldN 0 rfl rfl ?_
    refine sN 1 rfl rfl (rdC_one (stepD M).2 (by cases r3 <;> rfl)) ?_ (by kernel_rfl)
    refine ldN 1 rfl rfl ?_
    refine ⟨fun w1 hs => RefR.put (rr1 := fun j => rr j ∨ rowB r2 j) hs 4 rfl hR3 (fun p' hp' => ?_) (fun j hj => hj.imp id (own_new hs 3 rfl j)) (by rw [putF_map, hps]; first | done | rfl) hs1 rfl⟩
    rcases putP_mem hp' with rfl | hp'
    · have := RdR.own hs 3 rfl hR2; rw [hv1] at this; exact this.mono fun j hj => .inr hj
    · exact (RdR.below hs.below hr (hrd p' hp')).mono fun j hj => .inl hj
end Go.Proofs.YteamnhpplclmfaaGreatDoor
end
