/- coder.code: bytes as signs: the walk. -/
import Derived.Test.YtcojgckfcgbodaaDoorBdr
import Derived.Test.YtcojgckfcgbodaaDoorCdM
namespace Go.Proofs.YtcojgckfcgbodaaDoor
open Go.RowKit Go.Sx
set_option linter.unusedVariables false

abbrev TA : Nat := 52
theorem rd_at {w : World} {v : Value} {xs : List Value} (h : Rd w v xs) (hx : xs ≠ []) : ∃ b o c, v = .slice (some ⟨b, o, none⟩) xs.length c ∧ b < w.heap.size ∧ ∀ j u, xs[j]? = some u → w.cell? ⟨b, o + j, none⟩ = some u := by
  obtain ⟨a, c, h0, h1⟩ := h
  obtain ⟨b, o, rfl, h2, h3⟩ := h1 hx
  exact ⟨b, o, c, h0, h2, h3⟩
/-- how it stands, i bytes on -/
def csFr (b0 b1 k : Nat) (v : Value) (n i : Nat) (s : Cs) : Fr := [(2, ptr b0), (5, ptr b1), (6, .int .i64 s.2.1), (7, .int .i64 s.2.2), (10, v), (11, .int .i64 n), (12, .int .i64 i)]
def csL (sg : ByteArray) (b0 b1 k : Nat) (s : Cs) (r : Sx.Own) (p : Value) : List Ent := [cl b0 #[.string sg, .int .i64 k] TA, cl b1 #[p, sv r s.1.length] TB, se r (Lib.byteCells s.1) 5]
set_option maxRecDepth 100000 in
theorem code_any (sg : ByteArray) (k : Nat) (hk : 3 ≤ k ∧ k ≤ 8) (hsg : sg.size = 2 ^ k) (v : Value) (bs : List UInt8) (hbs : bs.length ≤ 1000000) (w : World) (hv : Rd w v (Lib.byteCells bs)) :
    Calls Tryd.prog 25 ([.agg #[.string sg, .int .i64 k], v] : List Value).toArray w fun e w' => e = .returned (.string ⟨(codeL sg k bs).toArray⟩) ∧ Below w.heap.size w w' := by
  have hv0 := hv
  obtain ⟨va, vc, hv1, _⟩ := hv
  rw [Lib.byteCells_length] at hv1
  refine enterV tab_ok Tryd.func25 rfl Tryd.ntmps25 rfl (St.start w) ?_
  intro b0 b1
  subst hv1
  refine lp tab_ok (fun x : Nat × Sx.Own × Value => x.1 ≤ bs.length ∧ (Rw 1 (csAll sg k (bs.take x.1)).1.length x.2.1 (Lib.byteCells (csAll sg k (bs.take x.1)).1) ∧ ((csAll sg k (bs.take x.1)).1 = [] → x.2.1 = none)) ∧ (x.2.2 = .pointer none ∨ x.2.2 = ptr b1))
    (fun x => ⟨csFr b0 b1 k (.slice va bs.length vc) bs.length x.1 (csAll sg k (bs.take x.1)), csL sg b0 b1 k (csAll sg k (bs.take x.1)) x.2.1 x.2.2, []⟩) (fun x => bs.length - x.1) (0, none, .pointer none) ⟨Nat.zero_le _, ⟨Rw.nil 1, fun _ => rfl⟩, .inl rfl⟩ ⟨⟨rfl, rfl, rfl, rfl, rfl, rfl, rfl, trivial⟩, .cons (.cons (.pad .nil)), rfl⟩ ?_
  rintro ⟨i, r, p⟩ ⟨hi, ⟨hR, hr0⟩, hp⟩
  simp only at hi hR hp hr0
  refine cd (fun h => ?_) (fun h => ?_)
  · have hlt : i < bs.length := by (try simp only at h); omega
    obtain ⟨hI, hh⟩ := csAll_lt sg k hk.1 (bs.take i)
    have htl : (bs.take i).length = i := by simp; omega
    rw [htl] at hI
    have htake := csAll_take sg k bs i hlt
    generalize csAll sg k (bs.take i) = s at *
    generalize hT : csAll sg k (bs.take (i + 1)) = T at *
    have hc : bs[i].toNat < 256 := UInt8.toNat_lt _
    have hne : Lib.byteCells bs ≠ [] := by intro h0; have h1 := congrArg List.length h0; rw [Lib.byteCells_length] at h1; exact absurd h1 (by simp only [List.length_nil]; omega)
    obtain ⟨b, o, c, e, hb, hcell⟩ := rd_at hv0 hne
    injection e with e1 e2 e3
    subst e1 e3
    have hcell := hcell i (.int .u8 bs[i].toNat) (by simp [Lib.byteCells, hlt])
    generalize bs[i].toNat = ch at *
    have hp2 : (2 : Nat) ^ s.2.2 ≤ 2 ^ 8 := Nat.pow_le_pow_right (by decide) (by omega)
    have hb1 := hI.bits
    have hI2 := hI.byte ch hc
    have hor : bitI .or .i64 ((s.2.1 * 256 : Nat) : Int) ((ch : Nat) : Int) = ((s.2.1 * 256 + ch : Nat) : Int) := by rw [orN _ _ (by omega) (by omega)]; exact congrArg Nat.cast (or_add s.2.1 ch 8 hc)
    refine ⟨by (try simp only); omega, by (try simp only); omega, ?_⟩
    refine ldo (v := .int .u8 ch) (by rw [nad_eq, nmu_eq]; simpa using hcell) hb ?_
    refine ⟨by decide, .as ((s.2.1 * 256 : Nat) : Int) (by simp [IntKind.bits]) (by simp only [mn]; omega) (by simp only [mx]; omega) ?_⟩
    refine .same (by simp only [mn]; omega) (by simp only [mx]; omega) ?_
    refine .as ((s.2.2 + 8 : Nat) : Int) (by simp) (by simp only [mn]; omega) (by simp only [mx]; omega) ?_
    refine lp tab_ok (fun y : Cs × Sx.Own × Value => (csF sg k y.1 = T ∧ y.1.2.2 < 4 * k ∧ y.1.2.2 ≤ 16) ∧ CsI k (i + 1) y.1 ∧ (Rw 1 y.1.1.length y.2.1 (Lib.byteCells y.1.1) ∧ (y.1.1 = [] → y.2.1 = none)) ∧ (y.2.2 = .pointer none ∨ y.2.2 = ptr b1))
      (fun y => ⟨csFr b0 b1 k (.slice (some ⟨b, o, none⟩) bs.length vc) bs.length i y.1, csL sg b0 b1 k y.1 y.2.1 y.2.2, []⟩) (fun y => y.1.2.2) ((s.1, s.2.1 * 256 + ch, s.2.2 + 8), r, p) ⟨⟨htake.symm, by (try simp only); omega, by (try simp only); omega⟩, hI2, ⟨hR, hr0⟩, hp⟩
      ⟨⟨rfl, rfl, congrArg (fun z => some (Value.int .i64 z)) hor, rfl, rfl, rfl, rfl, trivial⟩, .cons (.cons (.cons .nil)), rfl⟩ ?_
    clear h hR hr0 hp hor hI2 hb1 hp2 hI hh htake hcell
    rintro ⟨s, r, p⟩ ⟨⟨hF, hs4, hs16⟩, hI, ⟨hR, hr0⟩, hp⟩
    simp only at hF hs4 hs16 hI hR hr0 hp
    have hb1 := hI.bits
    have hsum := hI.sum
    refine ld1 0 rfl rfl ?_
    refine cd (fun h => ?_) (fun h => ?_)
    · have hge : k ≤ s.2.2 := by (try simp only at h); omega
      have hstep := csF_step sg k s hs4
      have hI3 : CsI k (i + 1) (cs1 sg k s) := hI.step
      have e1 : cs1 sg k s = (s.1 ++ [sgn sg (s.2.1 / 2 ^ (s.2.2 - k))], s.2.1 % 2 ^ (s.2.2 - k), s.2.2 - k) := if_pos hge
      rw [e1] at hstep hI3
      have htop := cs_top k s.2.1 s.2.2 hb1 hge
      have hp2 : (2 : Nat) ^ (s.2.2 - k) ≤ 2 ^ 16 := Nat.pow_le_pow_right (by decide) (by omega)
      have hp3 : (2 : Nat) ^ s.2.2 ≤ 2 ^ 16 := Nat.pow_le_pow_right (by decide) (by omega)
      have hp1 : 0 < (2 : Nat) ^ (s.2.2 - k) := Nat.two_pow_pos _
      have hand : bitI .and .i64 ((s.2.1 : Nat) : Int) ((2 ^ (s.2.2 - k) - 1 : Nat) : Int) = ((s.2.1 % 2 ^ (s.2.2 - k) : Nat) : Int) := by rw [andN _ _ (by omega) (by omega), Nat.and_two_pow_sub_one_eq_mod]
      have hlen : s.1.length ≤ 8 * (i + 1) := by have := Nat.le_mul_of_pos_right s.1.length (show 0 < k by omega); omega
      refine ld1 0 rfl rfl ?_
      refine .as ((s.2.2 - k : Nat) : Int) (by (try simp only); omega) (by simp only [mn]; omega) (by simp only [mx]; omega) ?_
      refine dr [cl b0 #[.string sg, .int .i64 k] TA] 99 (.t 0 (.t 1 (.t 2 (.t 3 (.t 4 (.t 5 (.n 6 .nil))))))) tab_ok mixed_ok (by kernel_rfl) (.cons .nil) ?_
      refine ld1 0 rfl rfl ?_
      refine ⟨by (try simp only); omega, ?_⟩
      refine chP (s.2.1 / 2 ^ (s.2.2 - k)) (shrN _ _ (by omega)) (by omega) ?_
      refine bByte 1 2 rfl hp rfl (by decide) hR (by (try simp only); omega) (fun r' hR' => ?_)
      refine ⟨.cons .nil, ?_⟩
      refine ⟨by (try simp only); omega, ?_⟩
      refine .as ((2 ^ (s.2.2 - k) : Nat) : Int) (by have := shlN 1 (s.2.2 - k) (by omega); simpa [IntKind.bits] using this) (by simp only [mn]; omega) (by simp only [mx]; omega) ?_
      refine .as ((2 ^ (s.2.2 - k) - 1 : Nat) : Int) (by (try simp only); omega) (by simp only [mn]; omega) (by simp only [mx]; omega) ?_
      refine ⟨((s.1 ++ [sgn sg (s.2.1 / 2 ^ (s.2.2 - k))], s.2.1 % 2 ^ (s.2.2 - k), s.2.2 - k), r', ptr b1), ⟨⟨hstep.trans hF, by (try simp only); omega, by (try simp only); omega⟩, hI3, ⟨?_, fun h => by simp at h⟩, .inr rfl⟩, by (try simp only); omega, ⟨⟨rfl, rfl, congrArg (fun z => some (Value.int .i64 z)) hand, rfl, rfl, rfl, rfl, trivial⟩, ?_, rfl⟩⟩
      · simp only [List.length_append, Lib.byteCells_append]; exact hR'
      · simp only [csL, List.length_append, List.length_singleton, Lib.byteCells_append]; exact .cons (.cons (.cons .nil))
    · have hlt2 : s.2.2 < k := by (try simp only at h); omega
      obtain rfl : s = T := (csF_done sg k s hlt2).symm.trans hF
      refine .as ((i + 1 : Nat) : Int) (by simp) (by simp only [mn]; omega) (by simp only [mx]; omega) ?_
      refine ⟨(i + 1, r, p), ?_, by (try simp only); omega, ?_⟩ <;> simp only [hT]
      · exact ⟨by omega, ⟨hR, hr0⟩, hp⟩
      · exact ⟨⟨rfl, rfl, rfl, rfl, rfl, rfl, rfl, trivial⟩, .cons (.cons (.cons .nil)), rfl⟩
  · obtain rfl : i = bs.length := by (try simp only at h); omega
    rw [List.take_length] at hR hr0
    simp only [List.take_length]
    obtain ⟨hI, hh⟩ := csAll_lt sg k hk.1 bs
    have hcode : codeL sg k bs = if 0 < (csAll sg k bs).2.2 then (csAll sg k bs).1 ++ [sgn sg ((csAll sg k bs).2.1 * 2 ^ (k - (csAll sg k bs).2.2))] else (csAll sg k bs).1 := rfl
    rw [hcode]
    generalize csAll sg k bs = s at *
    have hb1 := hI.bits
    have hsum := hI.sum
    have hlen : s.1.length ≤ 8 * bs.length := by have := Nat.le_mul_of_pos_right s.1.length (show 0 < k by omega); omega
    refine cd (fun h => ?_) (fun h => ?_)
    · have h0 : 0 < s.2.2 := by (try simp only at h); omega
      rw [if_pos h0]
      have hj : s.2.1 * 2 ^ (k - s.2.2) < 2 ^ k := by
        have e : (2 : Nat) ^ k = 2 ^ s.2.2 * 2 ^ (k - s.2.2) := by rw [← Nat.pow_add]; congr 1; omega
        rw [e]; exact (Nat.mul_lt_mul_right (Nat.two_pow_pos _)).2 hb1
      have hk8 : (2 : Nat) ^ k ≤ 2 ^ 8 := Nat.pow_le_pow_right (by decide) hk.2
      refine dr [cl b0 #[.string sg, .int .i64 k] TA] 99 (.t 0 (.t 1 (.t 2 (.t 3 (.t 4 (.t 5 (.t 6 (.t 7 (.t 8 (.n 9 .nil)))))))))) tab_ok mixed_ok (by kernel_rfl) (.cons .nil) ?_
      refine ld1 0 rfl rfl ?_
      refine ld1 0 rfl rfl ?_
      refine .as ((k - s.2.2 : Nat) : Int) (by (try simp only); omega) (by simp only [mn]; omega) (by simp only [mx]; omega) ?_
      refine ⟨by (try simp only); omega, ?_⟩
      refine .as ((s.2.1 * 2 ^ (k - s.2.2) : Nat) : Int) (shlN _ _ (by omega)) (by simp only [mn]; omega) (by simp only [mx]; omega) ?_
      refine chP (s.2.1 * 2 ^ (k - s.2.2)) rfl (by omega) ?_
      refine bByte 1 2 rfl hp rfl (by decide) hR (by (try simp only); omega) (fun r' hR' => ?_)
      refine ⟨.cons .nil, ?_⟩
      refine bStr (l := s.1 ++ [sgn sg (s.2.1 * 2 ^ (k - s.2.2))]) (p := ptr b1) (r := r') 1 2 (by rw [List.length_append]; rfl) (by rw [Lib.byteCells_append]; rfl) (by decide) (by rw [List.length_append, Lib.byteCells_append]; exact hR') (by simp) ?_
      exact rt rfl
    · have h0 : ¬ 0 < s.2.2 := by (try simp only at h); omega
      rw [if_neg h0]
      by_cases hs : s.1 = []
      · have := hr0 hs
        subst this
        refine bStr0 1 (b := b1) (p := p) (a := none) (c := 0) rfl (.inl rfl) ?_
        exact rt (by rw [hs]; rfl)
      · refine bStr 1 2 rfl rfl (by decide) hR hs ?_
        exact rt rfl
end Go.Proofs.YtcojgckfcgbodaaDoor
