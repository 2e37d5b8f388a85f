/- Chapter 12: the reader: blanks, signs, words. -/
import Derived.Test.YtpegkoklmhccjaaDoorSxQ
import Derived.Test.YtpegkoklmhccjaaDoorSxT
import Derived.Test.YtpegkoklmhccjaaDoorSxP
namespace Go.Proofs.YtpegkoklmhccjaaDoor
open Go.RowKit Go.Sx
set_option linter.unusedVariables false
abbrev Bs := List UInt8
abbrev TRd : Nat := 60
abbrev pj (b : Nat) : Value := .pointer (some ⟨b, 0, none⟩)
abbrev sj (s : Bs) : Value := .string ⟨s.toArray⟩
/-- a reader: what is left, whether it is bad, how deep it stands -/
abbrev rdC (s : Bs) (bad : Bool) (d : Int) : Array Value := #[sj s, .bool bad, .int .i64 d]
def blk (c : UInt8) : Bool := c == 32 || c == 9 || c == 10 || c == 13
def ws : Bs → Bs
  | [] => []
  | c :: s => if blk c then ws s else c :: s
theorem ws_len (s : Bs) : (ws s).length ≤ s.length := by
  induction s with
  | nil => exact Nat.le_refl _
  | cons c s ih => unfold ws; split; · exact Nat.le_succ_of_le ih
                   · exact Nat.le_refl _
theorem str_ext (s : Bs) (l h : Nat) : (⟨s.toArray⟩ : ByteArray).extract l h = ⟨((s.take h).drop l).toArray⟩ := by
  apply ByteArray.ext
  apply Array.ext'
  simp [ByteArray.data_extract, List.extract_eq_take_drop, List.drop_take]
/-- a sign of a text -/
theorem chL {s : Bs} {i : Int} (j : Nat) {c : UInt8} (hi : i = j) (hj : s[j]? = some c) {next : Value → Prop} (go : next (.int .u8 c.toNat)) : ChP ⟨s.toArray⟩ i next := by
  subst hi
  obtain ⟨h1, h2⟩ := List.getElem?_eq_some_iff.1 hj
  refine ⟨by omega, by simpa [ByteArray.size] using h1, ?_⟩
  have e : ((⟨s.toArray⟩ : ByteArray)[((j : Nat) : Int).toNat]'(by simpa [ByteArray.size] using h1)) = c := by
    show (s.toArray)[((j : Nat) : Int).toNat]'(by simpa using h1) = c
    simpa using h2
  rw [e]; exact go
/-- the rest of a text -/
theorem slL {s : Bs} (l : Nat) (hl : l ≤ s.length) {next : Value → Prop} {fb : Prop} {x : Int} (hx : x = l) (go : next (sj (s.drop l))) : SliP .str (sj s) (some x) none none next fb := by
  subst hx
  refine ⟨.mk l s.length s.length ?_ ?_ rfl hl (Nat.le_refl _) ?_ (fun _ => rfl) ?_⟩
  · simp [oi, ByteArray.size]
  · simp [oi, ByteArray.size]
  · simp [ByteArray.size]
  · rw [str_ext, List.take_of_length_le (Nat.le_refl _)]; exact go
theorem slT {s : Bs} (h : Nat) (hh : h ≤ s.length) {next : Value → Prop} {fb : Prop} {x : Int} (hx : x = h) (go : next (sj (s.take h))) : SliP .str (sj s) none (some x) none next fb := by
  subst hx
  refine ⟨.mk 0 h s.length ?_ ?_ rfl (Nat.zero_le _) hh ?_ (fun e => by cases e) ?_⟩
  · simp [oi, ByteArray.size]
  · simp [oi]
  · simp [ByteArray.size]
  · rw [str_ext, List.drop_zero]; exact go
theorem str_size (s : Bs) : (⟨s.toArray⟩ : ByteArray).size = s.length := rfl
theorem list_beq (a b : List UInt8) : ((ByteArray.mk a.toArray).toList == (ByteArray.mk b.toArray).toList) = decide (a = b) := by rw [Bool.eq_iff_iff]; simp
theorem ne0 (c : UInt8) (t : Bs) : ((ByteArray.mk (c :: t).toArray).toList == (ByteArray.mk #[]).toList) = false := by rw [show (#[] : Array UInt8) = ([] : Bs).toArray from rfl, list_beq]; simp
theorem ne0b (c : UInt8) (t : Bs) : (((ByteArray.mk (c :: t).toArray).toList == (ByteArray.mk #[]).toList) == false) = true := by rw [ne0]; rfl
theorem ne0t (c : UInt8) (t : Bs) : (((ByteArray.mk (c :: t).toArray).toList == (ByteArray.mk #[]).toList) == true) = false := by rw [ne0]; rfl
/-- the signs that are blanks, so far -/
def asA (i : Nat) : Array Value := ((List.range 256).map fun j => Value.bool (([32, 9, 10, 13].take i).contains j)).toArray
theorem asA_at (c : UInt8) : (asA 4)[c.toNat]? = some (.bool (blk c)) := by
  have h : (List.range 256).all (fun n => match (asA 4)[n]? with | some (.bool b) => b == blk (UInt8.ofNat n) | _ => false) = true := by decide +kernel
  have h1 := List.all_eq_true.1 h c.toNat (by simpa using c.toNat_lt)
  rw [UInt8.ofNat_toNat] at h1
  split at h1
  · rename_i b hb; rw [hb]; simpa using h1
  · cases h1
abbrev zas : Array Value := #[.bool false, .bool false, .bool false, .bool false, .bool false, .bool false, .bool false, .bool false, .bool false, .bool false, .bool false, .bool false, .bool false, .bool false, .bool false, .bool false, .bool false, .bool false, .bool false, .bool false, .bool false, .bool false, .bool false, .bool false, .bool false, .bool false, .bool false, .bool false, .bool false, .bool false, .bool false, .bool false, .bool false, .bool false, .bool false, .bool false, .bool false, .bool false, .bool false, .bool false, .bool false, .bool false, .bool false, .bool false, .bool false, .bool false, .bool false, .bool false, .bool false, .bool false, .bool false, .bool false, .bool false, .bool false, .bool false, .bool false, .bool false, .bool false, .bool false, .bool false, .bool false, .bool false, .bool false, .bool false, .bool false, .bool false, .bool false, .bool false, .bool false, .bool false, .bool false, .bool false, .bool false, .bool false, .bool false, .bool false, .bool false, .bool false, .bool false, .bool false, .bool false, .bool false, .bool false, .bool false, .bool false, .bool false, .bool false, .bool false, .bool false, .bool false, .bool false, .bool false, .bool false, .bool false, .bool false, .bool false, .bool false, .bool false, .bool false, .bool false, .bool false, .bool false, .bool false, .bool false, .bool false, .bool false, .bool false, .bool false, .bool false, .bool false, .bool false, .bool false, .bool false, .bool false, .bool false, .bool false, .bool false, .bool false, .bool false, .bool false, .bool false, .bool false, .bool false, .bool false, .bool false, .bool false, .bool false, .bool false, .bool false, .bool false, .bool false, .bool false, .bool false, .bool false, .bool false, .bool false, .bool false, .bool false, .bool false, .bool false, .bool false, .bool false, .bool false, .bool false, .bool false, .bool false, .bool false, .bool false, .bool false, .bool false, .bool false, .bool false, .bool false, .bool false, .bool false, .bool false, .bool false, .bool false, .bool false, .bool false, .bool false, .bool false, .bool false, .bool false, .bool false, .bool false, .bool false, .bool false, .bool false, .bool false, .bool false, .bool false, .bool false, .bool false, .bool false, .bool false, .bool false, .bool false, .bool false, .bool false, .bool false, .bool false, .bool false, .bool false, .bool false, .bool false, .bool false, .bool false, .bool false, .bool false, .bool false, .bool false, .bool false, .bool false, .bool false, .bool false, .bool false, .bool false, .bool false, .bool false, .bool false, .bool false, .bool false, .bool false, .bool false, .bool false, .bool false, .bool false, .bool false, .bool false, .bool false, .bool false, .bool false, .bool false, .bool false, .bool false, .bool false, .bool false, .bool false, .bool false, .bool false, .bool false, .bool false, .bool false, .bool false, .bool false, .bool false, .bool false, .bool false, .bool false, .bool false, .bool false, .bool false, .bool false, .bool false, .bool false, .bool false, .bool false, .bool false, .bool false, .bool false, .bool false, .bool false, .bool false, .bool false, .bool false, .bool false, .bool false, .bool false, .bool false, .bool false, .bool false, .bool false, .bool false, .bool false, .bool false]
set_option maxRecDepth 100000 in
theorem aset_any (w : World) : Calls Tryd.prog 54 ([.string ⟨#[32, 9, 10, 13]⟩] : List Value).toArray w fun e w' => e = .returned (.tuple #[.agg (asA 4), .bool true]) ∧ Below w.heap.size w w' := by
  have hz : zas = asA 0 := by kernel_rfl
  refine enterV tab_ok Tryd.func54 rfl Tryd.ntmps54 rfl (St.start w) ?_
  intro b2
  refine lp tab_ok (fun i : Nat => i ≤ 4) (fun i => ⟨[(0, .string ⟨#[32, 9, 10, 13]⟩), (2, pj b2), (4, .int .i64 (i : Int))], [cl b2 (asA i) 78], []⟩) (fun i => 4 - i) 0 (by decide) (by rw [← hz]; exact ⟨⟨rfl, rfl, rfl, trivial⟩, .cons .nil, rfl⟩) ?_
  intro i hi
  refine cd (fun h => ?_) (fun h => ?_)
  · have h4 : i < 4 := by have : ((i : Nat) : Int) < 4 := h; omega
    obtain ⟨c, hc, hc2, hs⟩ : ∃ c : UInt8, [32, 9, 10, 13][i]? = some c ∧ c.toNat < 128 ∧ (asA i).setIfInBounds c.toNat (.bool true) = asA (i + 1) := by
      rcases i with _ | _ | _ | _ | i
      · exact ⟨32, rfl, by decide, by kernel_rfl⟩
      · exact ⟨9, rfl, by decide, by kernel_rfl⟩
      · exact ⟨10, rfl, by decide, by kernel_rfl⟩
      · exact ⟨13, rfl, by decide, by kernel_rfl⟩
      · omega
    refine chL i rfl hc ?_
    refine cf (decide_eq_false (by omega)) ?_
    refine ⟨by omega, by omega, ?_⟩
    have ha : nad 0 (nmu (Int.toNat (c.toNat : Int)) 1) = c.toNat := by rw [nad_eq, nmu_eq]; simp
    refine s1e 0 (asA (i + 1)) rfl (by rw [ha]; unfold asA; simp; omega) (by rw [ha]; exact hs) ?_
    refine .as ((i + 1 : Nat) : Int) (by omega) (by simp only [mn]; omega) (by simp only [mx]; omega) ?_
    exact ⟨i + 1, by omega, by omega, ⟨rfl, rfl, rfl, trivial⟩, .cons .nil, rfl⟩
  · have h4 : i = 4 := by have : ¬ ((i : Nat) : Int) < 4 := h; omega
    subst h4
    have hsz : (asA 4).size = 256 := by unfold asA; simp
    refine ldN 0 rfl hsz ?_
    refine sN 0 rfl rfl ?_ ?_ (by rw [hsz]; kernel_rfl)
    · unfold asA; simp [Value.oneCell']
    refine ldN 0 rfl hsz ?_
    exact rt rfl
set_option maxRecDepth 100000 in
theorem trimA_any (s : Bs) (hl : s.length ≤ 100000) (b : Nat) (w : World) (h : w.heap[b]? = some (.cells (asA 4) 78 (0, 0))) : Calls Tryd.prog 55 ([sj s, pj b] : List Value).toArray w fun e w' => e = .returned (sj (ws s)) ∧ Below w.heap.size w w' := by
  refine enterV tab_ok Tryd.func55 rfl Tryd.ntmps55 rfl (St.reads1 h) ?_
  refine lp tab_ok (fun t : Bs => t.length ≤ 100000 ∧ ws t = ws s) (fun t => ⟨[(0, sj t), (1, pj b)], [cr b (asA 4) 78], []⟩) (fun t => t.length) s ⟨hl, rfl⟩ ⟨⟨rfl, rfl, trivial⟩, .cons .nil, rfl⟩ ?_
  rintro t ⟨hl, ht⟩
  cases t with
  | nil =>
    refine cf rfl ?_
    exact rt (by rw [← ht]; rfl)
  | cons c t =>
    refine ct (decide_eq_true (by rw [str_size]; simp)) ?_
    refine chL 0 rfl rfl ?_
    refine inl tab_ok Tryd.func71 rfl Tryd.ntmps71 rfl ?_
    have := c.toNat_lt
    refine ⟨by omega, by omega, ?_⟩
    refine ld1 0 rfl (v := .bool (blk c)) (by rw [nad_eq, nmu_eq]; simpa using asA_at c) ?_
    refine bk ?_
    cases hb : blk c with
    | true =>
      refine cf rfl ?_
      refine slL 1 (by simp) rfl ?_
      exact ⟨t, ⟨by simp at hl; omega, by rw [← ht, ws, if_pos hb]⟩, by simp, ⟨rfl, rfl, trivial⟩, .cons .nil, rfl⟩
    | false =>
      refine ct rfl ?_
      exact rt (by rw [← ht, ws, hb]; rfl)
set_option maxRecDepth 100000 in
theorem trim_any (s : Bs) (hl : s.length ≤ 100000) (w : World) : Calls Tryd.prog 35 ([sj s, .string ⟨#[32, 9, 10, 13]⟩] : List Value).toArray w fun e w' => e = .returned (sj (ws s)) ∧ Below w.heap.size w w' := by
  refine enterV tab_ok Tryd.func35 rfl Tryd.ntmps35 rfl (St.start w) ?_
  cases s with
  | nil =>
    iterate 2 refine cf (by simp) ?_
    iterate 2 refine ct (by simp) ?_
    exact rt rfl
  | cons c t =>
    iterate 2 refine ct (ne0b c t) ?_
    refine cf (ne0 c t) ?_
    refine cf (by simp) ?_
    iterate 5 refine cf rfl ?_
    refine cv aset_any ?_
    intro b5
    have hsz : (asA 4).size = 256 := by unfold asA; simp
    refine sN 0 rfl (by rw [hsz]; rfl) (by unfold asA; simp [Value.oneCell']) ?_ (by rw [hsz]; kernel_rfl)
    refine ct rfl ?_
    refine cvs (fun w' hs => trimA_any (c :: t) hl b5 w' (hs.nth (k := 0) rfl)) ?_
    exact rt rfl
section
variable {b : Nat} {s : Bs} {bad : Bool} {d : Int} {w : World}
theorem fail_any (h : w.heap[b]? = some (.cells (rdC s bad d) TRd (0, 0))) : Calls Tryd.prog 33 ([pj b] : List Value).toArray w fun e w' => e = .returned (.tuple #[]) ∧ Upd b (rdC s true d) TRd w w' := by
  refine enterU tab_ok Tryd.func33 rfl Tryd.ntmps33 rfl h ?_
  refine s1 0 rfl (by show 1 < 3; decide) ?_
  exact rtU rfl
theorem blanks_any (hl : s.length ≤ 100000) (h : w.heap[b]? = some (.cells (rdC s bad d) TRd (0, 0))) : Calls Tryd.prog 27 ([pj b] : List Value).toArray w fun e w' => e = .returned (.tuple #[]) ∧ Upd b (rdC (ws s) bad d) TRd w w' := by
  refine enterU tab_ok Tryd.func27 rfl Tryd.ntmps27 rfl h ?_
  refine ld1 0 rfl (v := sj s) rfl ?_
  refine cv (fun w => trim_any s hl w) ?_
  refine s1 0 rfl (by show 0 < 3; decide) ?_
  exact rtU rfl
/-- a sign is passed over -/
def eatP (c : UInt8) (s : Bs) : Bool × Bs := match ws s with
  | [] => (false, [])
  | x :: t => if x = c then (true, t) else (false, x :: t)
theorem eat_len (c : UInt8) (s : Bs) : (eatP c s).2.length ≤ s.length := by
  have := ws_len s
  unfold eatP
  cases h : ws s with
  | nil => simp
  | cons x t =>
    rw [h] at this
    dsimp only
    split
    · simp at this; dsimp only; omega
    · exact this
theorem eat_nil {c : UInt8} {s : Bs} (h : ws s = []) : eatP c s = (false, []) := by unfold eatP; rw [h]
theorem eat_yes {c : UInt8} {s t : Bs} (h : ws s = c :: t) : eatP c s = (true, t) := by unfold eatP; rw [h]; exact if_pos rfl
theorem eat_no {c x : UInt8} {s t : Bs} (h : ws s = x :: t) (hx : ¬ x = c) : eatP c s = (false, x :: t) := by unfold eatP; rw [h]; exact if_neg hx
theorem eat_any (c : UInt8) (hl : s.length ≤ 100000) (h : w.heap[b]? = some (.cells (rdC s bad d) TRd (0, 0))) : Calls Tryd.prog 69 ([pj b, .int .u8 c.toNat] : List Value).toArray w fun e w' => e = .returned (.bool (eatP c s).1) ∧ Upd b (rdC (eatP c s).2 bad d) TRd w w' := by
  have hb : ∀ w : World, w.heap[b]? = some (.cells (rdC s bad d) TRd (0, 0)) → Calls Tryd.prog 27 ([pj b] : List Value).toArray w fun e w' => e = .returned (.tuple #[]) ∧ Upd b (rdC (ws s) bad d) TRd w w' := fun w h => blanks_any hl h
  cases hw : ws s with
  | nil =>
    rw [eat_nil hw]
    rw [hw] at hb
    refine enterU tab_ok Tryd.func69 rfl Tryd.ntmps69 rfl h ?_
    refine cU1 0 rfl hb ?_
    refine ld1 0 rfl (v := sj []) rfl ?_
    iterate 7 refine cf (by simp) ?_
    iterate 2 refine ct (by simp) ?_
    exact rtU rfl
  | cons x t =>
    rw [hw] at hb
    by_cases hxc : x = c
    · subst hxc
      rw [eat_yes hw]
      refine enterU tab_ok Tryd.func69 rfl Tryd.ntmps69 rfl h ?_
      refine cU1 0 rfl hb ?_
      refine ld1 0 rfl (v := sj (x :: t)) rfl ?_
      iterate 4 refine ct (ne0b x t) ?_
      refine ld1 0 rfl (v := sj (x :: t)) rfl ?_
      refine ct (ne0b x t) ?_
      refine chL 0 rfl rfl ?_
      iterate 2 refine ct (ne0b x t) ?_
      refine cf (ne0 x t) ?_
      refine cf (by simp) ?_
      refine ld1 0 rfl (v := sj (x :: t)) rfl ?_
      refine slL 1 (by simp) rfl ?_
      refine s1 0 rfl (by show 0 < 3; decide) ?_
      exact rtU rfl
    · rw [eat_no hw hxc]
      refine enterU tab_ok Tryd.func69 rfl Tryd.ntmps69 rfl h ?_
      refine cU1 0 rfl hb ?_
      refine ld1 0 rfl (v := sj (x :: t)) rfl ?_
      iterate 4 refine ct (ne0b x t) ?_
      refine ld1 0 rfl (v := sj (x :: t)) rfl ?_
      refine ct (ne0b x t) ?_
      refine chL 0 rfl rfl ?_
      iterate 2 refine ct (ne0b x t) ?_
      refine cf (ne0 x t) ?_
      refine ct (by simp; intro h; exact hxc (UInt8.toNat_inj.1 (by omega))) ?_
      exact rtU rfl
/-- a word is passed over -/
def pre : Bs → Bs → Option Bs
  | [], s => some s
  | _ :: _, [] => none
  | a :: l, c :: s => if a = c then pre l s else none
theorem pre_eq (p : Bs) : ∀ s, pre p s = if p.length ≤ s.length ∧ s.take p.length = p then some (s.drop p.length) else none := by
  induction p with
  | nil => intro s; simp [pre]
  | cons a l ih =>
    intro s
    cases s with
    | nil => simp [pre]
    | cons c s =>
      rw [pre, ih]
      by_cases h : a = c
      · subst h; simp
      · rw [if_neg h, if_neg (by simp; intro _ h2; exact absurd h2.symm h)]
theorem cut_any (p s : Bs) (w : World) : Calls Tryd.prog 61 ([sj s, sj p] : List Value).toArray w fun e w' => e = .returned (.tuple #[sj ((pre p s).getD s), .bool (pre p s).isSome]) ∧ Below w.heap.size w w' := by
  refine enterV tab_ok Tryd.func61 rfl Tryd.ntmps61 rfl (St.start w) ?_
  refine inl tab_ok Tryd.func74 rfl Tryd.ntmps74 rfl ?_
  refine inl tab_ok Tryd.func81 rfl Tryd.ntmps81 rfl ?_
  rw [pre_eq]
  by_cases hl : p.length ≤ s.length
  · have h1 : decide (((s.length : Nat) : Int) ≥ ((p.length : Nat) : Int)) = true := decide_eq_true (by omega)
    have h1b : (decide (((s.length : Nat) : Int) ≥ ((p.length : Nat) : Int)) == true) = true := by rw [h1]; rfl
    iterate 4 refine ct h1b ?_
    refine slT p.length hl rfl ?_
    iterate 2 refine ct h1b ?_
    refine ct h1 ?_
    refine bk ?_
    by_cases hp : s.take p.length = p
    · have e : ((ByteArray.mk (s.take p.length).toArray).toList == (ByteArray.mk p.toArray).toList) = true := by rw [list_beq]; exact decide_eq_true hp
      rw [if_pos ⟨hl, hp⟩]
      refine cf (by rw [e]; rfl) ?_
      refine slL p.length hl rfl ?_
      refine bk ?_
      exact rt rfl
    · have e : ((ByteArray.mk (s.take p.length).toArray).toList == (ByteArray.mk p.toArray).toList) = false := by rw [list_beq]; exact decide_eq_false hp
      rw [if_neg fun h => hp h.2]
      refine ct (by rw [e]; rfl) ?_
      refine bk ?_
      exact rt rfl
  · have h1 : decide (((s.length : Nat) : Int) ≥ ((p.length : Nat) : Int)) = false := decide_eq_false (by omega)
    have h1b : (decide (((s.length : Nat) : Int) ≥ ((p.length : Nat) : Int)) == true) = false := by rw [h1]; rfl
    iterate 6 refine cf h1b ?_
    refine cf h1 ?_
    refine bk ?_
    rw [if_neg fun h => hl h.1]
    refine ct rfl ?_
    refine bk ?_
    exact rt rfl
/-- a word is passed over, or the text isn't in form -/
theorem must_yes (p : Bs) {t : Bs} (hp : pre p s = some t) (h : w.heap[b]? = some (.cells (rdC s bad d) TRd (0, 0))) : Calls Tryd.prog 45 ([pj b, sj p] : List Value).toArray w fun e w' => e = .returned (.tuple #[]) ∧ Upd b (rdC t bad d) TRd w w' := by
  have hc := fun w => cut_any p s w
  rw [hp] at hc
  refine enterU tab_ok Tryd.func45 rfl Tryd.ntmps45 rfl h ?_
  refine ld1 0 rfl (v := sj s) rfl ?_
  refine cv hc ?_
  refine cf rfl ?_
  refine s1 0 rfl (by show 0 < 3; decide) ?_
  exact rtU rfl
theorem must_no (p : Bs) (hp : pre p s = none) (h : w.heap[b]? = some (.cells (rdC s bad d) TRd (0, 0))) : Calls Tryd.prog 45 ([pj b, sj p] : List Value).toArray w fun e w' => e = .returned (.tuple #[]) ∧ Upd b (rdC s true d) TRd w w' := by
  have hc := fun w => cut_any p s w
  rw [hp] at hc
  refine enterU tab_ok Tryd.func45 rfl Tryd.ntmps45 rfl h ?_
  refine ld1 0 rfl (v := sj s) rfl ?_
  refine cv hc ?_
  refine ct rfl ?_
  refine cU1 0 rfl (fun w h => fail_any h) ?_
  exact rtU rfl
end
end Go.Proofs.YtpegkoklmhccjaaDoor
