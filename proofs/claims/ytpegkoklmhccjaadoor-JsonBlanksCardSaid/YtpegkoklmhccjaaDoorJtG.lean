/- Chapter 12: the law JsonBlanks: the walk. -/
import Derived.Test.YtpegkoklmhccjaaDoorJtF
import Derived.Test.YtpegkoklmhccjaaDoorJtD
namespace Go.Proofs.YtpegkoklmhccjaaDoor
open Go.RowKit Go.Sx
set_option linter.unusedVariables false
theorem bsl1 (v : Int) (w : World) : (Instr.buildSlice 38 1 #[(0, .int .u8 v)]).run Tryd.prog w = .ok (.slice (some ⟨w.heap.size, 0, none⟩) 1 1) (w.alloc (.cells #[.int .u8 v] 5)) := by
  obtain ⟨i, hi, hz, hs, hb⟩ := infoOf info5
  exact run_buildSlice w _ _ 1 _ #[.int .u8 v] i (.int .u8 0) und22 hi hz (by rw [hs]; decide) (by rw [hs]; decide) (by rw [hs]; kernel_rfl)
theorem _root_.Go.Sx.Rd.take {w : World} {a : Option Addr} {n c k : Nat} {l : List UInt8} (h : Rd w (.slice a n c) (Lib.byteCells l)) (hn : n = l.length) (hk : k ≤ n) (c' : Nat) : Rd w (.slice a k c') (Lib.byteCells (l.take k)) := by
  obtain ⟨a', c1, e, hc⟩ := h
  injection e with e1 e2 e3
  subst e1
  refine ⟨a, c', by rw [Lib.byteCells_length, List.length_take]; congr 1; omega, fun hne => ?_⟩
  obtain ⟨b, o, h1, h2, h3⟩ := hc (fun e => hne (by
    have : l = [] := by cases l with | nil => rfl | cons x l => simp [Lib.byteCells] at e
    rw [this]; simp [Lib.byteCells]))
  refine ⟨b, o, h1, h2, fun j u hu => h3 j u ?_⟩
  have e2 : Lib.byteCells (l.take k) = (Lib.byteCells l).take k := by simp [Lib.byteCells, List.map_take]
  rw [e2, List.getElem?_take] at hu
  split at hu
  · exact hu
  · cases hu
theorem _root_.Go.Sx.Rd.at {w : World} {b o n c i : Nat} {xs : List Value} (h : Rd w (.slice (some ⟨b, o, none⟩) n c) xs) {u : Value} (hu : xs[i]? = some u) {k : Int} (hk : k = i) : w.cell? ⟨b, nad o (nmu k.toNat 1), none⟩ = some u := by
  subst hk
  obtain ⟨a', c1, e, hc⟩ := h
  injection e with e1 e2 e3
  subst e1
  obtain ⟨b', o', h1, h2, h3⟩ := hc (fun e => by rw [e] at hu; cases hu)
  injection h1 with h1
  injection h1 with h4 h5
  subst h4 h5
  rw [nad_eq, nmu_eq, Int.toNat_natCast, Nat.mul_one]; exact h3 i u hu
theorem _root_.Go.Sx.Rd.addr {w : World} {a : Option Addr} {n c : Nat} {xs : List Value} (h : Rd w (.slice a n c) xs) (hne : xs ≠ []) : ∃ b o, a = some ⟨b, o, none⟩ := by
  obtain ⟨a', c1, e, hc⟩ := h
  injection e with e1 e2 e3
  subst e1
  obtain ⟨b, o, h1, _⟩ := hc hne
  exact ⟨b, o, h1⟩
/-- the blank of a number -/
def blkN (z : Int) : UInt8 := [32, 9, 10, 13].getD ((z % 18446744073709551616).toNat % 4) 32
theorem blkN_blk (z : Int) : blk (blkN z) = true := by
  unfold blkN
  have h : (z % 18446744073709551616).toNat % 4 < 4 := Nat.mod_lt _ (by decide)
  generalize (z % 18446744073709551616).toNat % 4 = k at h
  match k, h with
  | 0, _ => decide
  | 1, _ => decide
  | 2, _ => decide
  | 3, _ => decide
/-- numbers in a row -/
abbrev isC (zs : List Int) : List Value := zs.map (.int .i64 ·)
set_option maxRecDepth 100000 in
set_option maxHeartbeats 4000000 in
theorem law_blanks (va vi : Option Addr) (l : Bs) (zs : List Int) (ca ci : Nat) (n : Int) (hn : -9223372036854775808 ≤ n ∧ n ≤ 9223372036854775807) (hca : l.length ≤ ca) (sa : ∀ x, va = some x → x.spot = none) (hm : l.length ≤ maxLen) (hzm : zs.length ≤ maxLen) (hz : ∀ z ∈ zs, -9223372036854775808 ≤ z ∧ z ≤ 9223372036854775807) (w : World)
    (ha : Rd w (.slice va l.length ca) (Lib.byteCells l)) (hi : Rd w (.slice vi zs.length ci) (isC zs)) (hw : Laid w) :
    Calls Tryd.prog 4 ([.slice va l.length ca, .slice vi zs.length ci, .int .i64 n] : List Value).toArray w fun e w' => e = .returned (.bool true) ∧ Below w.heap.size w w' := by
  refine enterV tab_ok Tryd.func4 rfl Tryd.ntmps4 rfl (St.laid hw) ?_
  refine cvs (fun w hs => alive_any w (hs.res (k := 0) rfl)) ?_
  refine cf rfl ?_
  by_cases hla : (l.length : Int) > 2000
  · have e1 := decide_eq_true hla
    have e2 : (decide ((l.length : Int) > 2000) == false) = false := by rw [e1]; rfl
    iterate 3 refine cf e2 ?_
    refine ct e1 ?_
    refine ct rfl ?_
    exact rt rfl
  have e1 := decide_eq_false hla
  have e2 : (decide ((l.length : Int) > 2000) == false) = true := by rw [e1]; rfl
  iterate 3 refine ct e2 ?_
  refine cf e1 ?_
  refine cd (fun hlb => ?_) (fun hlb => ?_)
  · exact rt rfl
  have ha1 : l.length ≤ 2000 := by omega
  have hb1 : zs.length ≤ 100 := by omega
  refine .mk _ _ (fun w => bsl0 w) (fun b1 => ?_)
  refine lp tab_ok (fun x : Nat × Sx.Own × Bs => x.1 ≤ zs.length ∧ x.2.2.length = x.1 ∧ x.2.2.all blk = true ∧ Rw 1 x.1 x.2.1 (Lib.byteCells x.2.2)) (fun x => ⟨[(0, .slice va l.length ca), (2, .int .i64 n), (7, sv x.2.1 x.1), (28, .slice vi zs.length ci), (29, .int .i64 zs.length), (30, .int .i64 x.1)], [rs laidR, se x.2.1 (Lib.byteCells x.2.2) 5], []⟩) (fun x => zs.length - x.1) (0, some (b1, 0, []), []) ⟨Nat.zero_le _, rfl, rfl, ⟨rfl, Nat.le_refl _, Nat.zero_le _, rfl⟩⟩ ⟨⟨rfl, rfl, rfl, rfl, rfl, rfl, trivial⟩, .cons (.cons .nil), rfl⟩ ?_
  rintro ⟨i, r, pd⟩ ⟨h1, h2, h3, h4⟩
  simp only at h1 h2 h3 h4
  refine cd (fun hlt => ?_) (fun hlt => ?_)
  · have hlt : i < zs.length := by simp only at hlt; omega
    have hz0 : zs[i]? = some zs[i] := List.getElem?_eq_getElem hlt
    have hzz := hz zs[i] (List.getElem_mem hlt)
    generalize zs[i] = z at hz0 hzz
    have hv : (isC zs)[i]? = some (.int .i64 z) := by rw [List.getElem?_map, hz0]; rfl
    obtain ⟨b, o, rfl⟩ := hi.addr (fun e => by rw [e] at hv; cases hv)
    refine ⟨by omega, by omega, ?_⟩
    refine .mk (.int .i64 z) (fun w hs => (hi.below hs.below).at hv rfl) ?_
    obtain ⟨N, hN, hN2⟩ : ∃ N : Nat, (N : Int) = z % 18446744073709551616 ∧ N < 18446744073709551616 := ⟨(z % 18446744073709551616).toNat, by omega, by omega⟩
    refine .to (N : Int) (by rw [hN]; rfl) ?_
    refine ⟨by omega, by simp only [mx]; omega, by decide, ?_⟩
    refine .same (by simp only [mn]; omega) (by simp only [mx]; omega) ?_
    have hbk : ([32, 9, 10, 13] : Bs)[N % 4]? = some (blkN z) := by
      unfold blkN
      rw [← hN, Int.toNat_natCast]
      have : N % 4 < 4 := Nat.mod_lt _ (by decide)
      generalize N % 4 = k at this
      match k, this with
      | 0, _ => rfl
      | 1, _ => rfl
      | 2, _ => rfl
      | 3, _ => rfl
    refine chL (s := [32, 9, 10, 13]) (N % 4) (by omega) hbk ?_
    refine .mk _ _ (fun w => bsl1 _ w) (fun b2 => ?_)
    refine ap1 (xs := Lib.byteCells pd) 1 2 tab_ok rfl info5 rfl rfl h4 rfl rfl (by omega) (by unfold maxLen; omega) (fun r2 hr2 => ?_)
    refine .as ((i + 1 : Nat) : Int) (by simp) (by simp only [mn]; omega) (by simp only [mx]; omega) ?_
    exact ⟨(i + 1, r2, pd ++ [blkN z]), ⟨by simp only; omega, by simp only [List.length_append, List.length_singleton]; omega, by simp only [List.all_append, h3, List.all_cons, blkN_blk, List.all_nil]; rfl, by simpa [Lib.byteCells] using hr2⟩, by simp only; omega, ⟨⟨rfl, rfl, rfl, rfl, rfl, rfl, trivial⟩, .cons (by rw [show Lib.byteCells (pd ++ [blkN z]) = Lib.byteCells pd ++ [.int .u8 (blkN z).toNat] by simp [Lib.byteCells]]; exact .cons (.drop .nil)), rfl⟩⟩
  · have hi9 : i = zs.length := by simp only at hlt; omega
    have hpl : pd.length ≤ 100 := by omega
    clear hlt hlb
    refine cParse (l := l) 0 rfl hm (fun w hs => ha.below hs.below) (fun x hx hcs => ?_)
    obtain ⟨c, j, code, A⟩ := x
    dsimp only at hx hcs ⊢
    have hc5 := c.cs5
    intro b10
    refine sN 3 rfl (by rw [List.size_toArray, hc5]; rfl) (by simpa using hcs.one) ?_ (by rw [List.size_toArray, hc5]; kernel_rfl)
    refine .mk _ _ (fun w => bsl0 w) (fun b4 => ?_)
    refine ap (r := some (b4, 0, [])) (xs := []) (n := 0) (m := (Lib.byteCells pd).length) (news := Lib.byteCells pd) 4 tab_ok rfl info5 rfl rfl ⟨rfl, Nat.le_refl _, Nat.zero_le _, rfl⟩ (fun w' hs => (Rd.own hs 1 rfl h4).src und22 (one8 pd)) (by rw [Lib.byteCells_length]; omega) (by rw [Lib.byteCells_length]; unfold maxLen; omega) (fun r3 hR3 => ?_)
    refine ap (xs := [] ++ Lib.byteCells pd) (m := (Lib.byteCells l).length) (news := Lib.byteCells l) 4 tab_ok rfl info5 rfl rfl hR3 (fun w' hs => (ha.below hs.below).src und22 (one8 l)) (by simp only [Lib.byteCells_length]; omega) (by simp only [Lib.byteCells_length]; unfold maxLen; omega) (fun r5 hR5 => ?_)
    refine ap (xs := [] ++ Lib.byteCells pd ++ Lib.byteCells l) (m := (Lib.byteCells pd).length) (news := Lib.byteCells pd) 4 tab_ok rfl info5 rfl rfl hR5 (fun w' hs => (Rd.own hs 1 rfl h4).src und22 (one8 pd)) (by simp only [Lib.byteCells_length]; omega) (by simp only [Lib.byteCells_length]; unfold maxLen; omega) (fun r7 hR7 => ?_)
    refine cParse (l := pd ++ l ++ pd) 0 rfl (by simp only [List.length_append]; unfold maxLen; omega) (fun w hs => by
      have h := Rd.own hs 4 rfl hR7
      simpa only [List.nil_append, ← Lib.byteCells_append] using h) (fun y hy hcs2 => ?_)
    obtain ⟨c2, j2, code2, A2⟩ := y
    dsimp only at hy hcs2 ⊢
    have hpb : parseP (pd ++ l ++ pd) = parseP l := parse_blanks h3 h3 l
    have hd52 := c2.cs5
    obtain ⟨rfl, rfl, hres⟩ : code2 = code ∧ j2 = j ∧ ((code = 0 ∧ parseP l = some j) ∨ code = 1) := by
      rcases hx with ⟨h, _⟩ | ⟨_, h, h5, h6⟩ | ⟨_, h, h5⟩
      · omega
      · rcases hy with ⟨h7, _⟩ | ⟨_, h7, h8, h9⟩ | ⟨_, h7, h8⟩
        · simp only [List.length_append] at h7; omega
        · exact ⟨h8.trans h5.symm, h9.trans h6.symm, .inr h5⟩
        · rw [hpb, h] at h7; cases h7
      · rcases hy with ⟨h7, _⟩ | ⟨_, h7, h8, h9⟩ | ⟨_, h7, h8⟩
        · simp only [List.length_append] at h7; omega
        · rw [hpb, h] at h7; cases h7
        · rw [hpb, h] at h7; exact ⟨h8.trans h5.symm, (Option.some.inj h7).symm, .inl ⟨h5, h⟩⟩
    clear hx hy
    intro b12
    refine sN 6 rfl (by rw [List.size_toArray, hd52]; rfl) (by simpa using hcs2.one) ?_ (by rw [List.size_toArray, hd52]; kernel_rfl)
    refine cv (fun w => num_any code2 w) ?_
    refine cv (fun w => num_any code2 w) ?_
    have z1 : ((code2 : Int) != (code2 : Int)) = false := by simp
    have z2 : (((code2 : Int) != (code2 : Int)) == false) = true := by simp
    refine ct z2 ?_
    refine ldN 3 rfl (by rw [List.size_toArray, hc5]) ?_
    refine ct z2 ?_
    refine ldN 6 rfl (by rw [List.size_toArray, hd52]) ?_
    refine ct z2 ?_
    refine cvs (fun w hs => exact_two hcs c2 A A2 w (hs.res (k := 2) rfl) (hs.res (k := 5) rfl)) ?_
    refine ct z2 ?_
    refine cf z1 ?_
    refine cf rfl ?_
    rcases hres with ⟨rfl, hp⟩ | rfl
    · have hne : l ≠ [] := fun e => by rw [e] at hp; exact absurd hp (by rw [show parseP [] = none by kernel_rfl]; simp)
      have hlp : 0 < l.length := List.length_pos_iff.2 hne
      obtain ⟨k, iv, s, vl, vp, lv, p, rfl⟩ : ∃ k i s vl vp l p, c = CT.mk k i s vl vp l p := by cases c; exact ⟨_, _, _, _, _, _, _, rfl⟩
      obtain ⟨l', p', rfl⟩ : ∃ l' p', j2 = .mk k iv s l' p' := by cases hcs; exact ⟨_, _, rfl⟩
      iterate 2 refine ct rfl ?_
      refine ld1 3 rfl rfl ?_
      refine ct rfl ?_
      refine cf rfl ?_
      refine cd (fun hk => ?_) (fun hk => ?_)
      · exact rt rfl
      refine .as ((l.length - 1 : Nat) : Int) (by omega) (by simp only [mn]; omega) (by simp only [mx]; omega) ?_
      refine lpe tab_ok 2 (β := Nat) (fun q => q < l.length ∧ (l.drop (q + 1)).all blk = true ∧ (q = 0 ∨ ∀ c, l[q]? = some c → blk c = false)) (fun q => ⟨[(0, .slice va l.length ca), (2, .int .i64 n), (14, .int .i64 (q : Nat))], [rs laidR], []⟩) (α := Nat) (fun q => q < l.length ∧ (l.drop (q + 1)).all blk = true) (fun q => ⟨[(0, .slice va l.length ca), (2, .int .i64 n), (14, .int .i64 (q : Nat))], [rs laidR], []⟩) (fun q => q) (l.length - 1) ⟨by omega, by rw [List.drop_of_length_le (by omega)]; rfl⟩ ⟨⟨rfl, rfl, rfl, trivial⟩, .cons (.drop (.drop (.drop (.drop (.drop (.drop .nil)))))), rfl⟩ ?_ ?_
      · rintro q ⟨hq1, hq2⟩
        have hc0 : l[q]? = some l[q] := List.getElem?_eq_getElem hq1
        generalize hce : l[q] = c0 at hc0
        have hcell : (Lib.byteCells l)[q]? = some (.int .u8 c0.toNat) := by simp only [Lib.byteCells, List.getElem?_map, hc0]; rfl
        by_cases hq0 : q = 0
        · subst hq0
          refine cf rfl ?_
          refine cf rfl ?_
          refine cf rfl ?_
          refine cf rfl ?_
          refine cf rfl ?_
          refine cf rfl ?_
          refine cf rfl ?_
          refine cf rfl ?_
          refine cf rfl ?_
          refine cf rfl ?_
          refine cf rfl ?_
          refine cf rfl ?_
          refine cf rfl ?_
          exact ⟨0, ⟨hq1, hq2, .inl rfl⟩, ⟨⟨rfl, rfl, rfl, trivial⟩, .cons .nil, rfl⟩⟩
        · have g1 : decide ((q : Int) > 0) = true := decide_eq_true (by omega)
          have g2 : (decide ((q : Int) > 0) == true) = true := by rw [g1]; rfl
          obtain ⟨b, o, rfl⟩ := ha.addr (fun e => by rw [e] at hcell; cases hcell)
          have hld : ∀ w', Below w.heap.size w w' → w'.cell? ⟨b, nad o (nmu ((q : Nat) : Int).toNat 1), none⟩ = some (.int .u8 c0.toNat) := fun w' hb => (ha.below hb).at hcell rfl
          have hbl : blk c0 = true → (l.drop q).all blk = true := fun h => by
            rw [List.drop_eq_getElem_cons hq1, List.all_cons, hce, h, hq2]; rfl
          have back : (l.drop q).all blk = true → (l.drop (q - 1 + 1)).all blk = true := fun h => by rw [show q - 1 + 1 = q by omega]; exact h
          by_cases n32 : c0 = 32
          · have e1 : ((c0.toNat : Int) == 32) = true := ceT 32 rfl n32
            have f1 : (((c0.toNat : Int) == 32) == false) = false := by rw [e1]; rfl
            refine ct g2 ?_
            refine ct g2 ?_
            refine ct g2 ?_
            refine ⟨by omega, by omega, ?_⟩
            refine ct g2 ?_
            refine .mk (.int .u8 c0.toNat) (fun w' hs => hld w' hs.below) ?_
            refine ct g2 ?_
            refine ct g2 ?_
            refine cf f1 ?_
            refine cf f1 ?_
            refine cf f1 ?_
            refine cf f1 ?_
            refine cf f1 ?_
            refine ct g2 ?_
            refine ct e1 ?_
            refine ct g2 ?_
            refine cf rfl ?_
            refine cf rfl ?_
            refine cf rfl ?_
            refine cf rfl ?_
            refine cf rfl ?_
            refine ct g2 ?_
            refine ct rfl ?_
            refine ct g2 ?_
            refine cf rfl ?_
            refine cf rfl ?_
            refine cf rfl ?_
            refine cf rfl ?_
            refine cf rfl ?_
            refine ct g2 ?_
            refine ct rfl ?_
            refine ct g1 ?_
            refine ct rfl ?_
            refine .as ((q - 1 : Nat) : Int) (by omega) (by simp only [mn]; omega) (by simp only [mx]; unfold maxLen at hm; omega) ?_
            exact ⟨q - 1, ⟨by omega, back (hbl (by subst n32; decide))⟩, by omega, ⟨⟨rfl, rfl, rfl, trivial⟩, .cons .nil, rfl⟩⟩
          have e1 : ((c0.toNat : Int) == 32) = false := ceF 32 rfl n32
          have f1 : (((c0.toNat : Int) == 32) == false) = true := by rw [e1]; rfl
          by_cases n9 : c0 = 9
          · have e2 : ((c0.toNat : Int) == 9) = true := ceT 9 rfl n9
            have f2 : (((c0.toNat : Int) == 9) == false) = false := by rw [e2]; rfl
            refine ct g2 ?_
            refine ct g2 ?_
            refine ct g2 ?_
            refine ⟨by omega, by omega, ?_⟩
            refine ct g2 ?_
            refine .mk (.int .u8 c0.toNat) (fun w' hs => hld w' hs.below) ?_
            refine ct g2 ?_
            refine ct g2 ?_
            refine ct f1 ?_
            refine ct f1 ?_
            refine ct f1 ?_
            refine ⟨by omega, by omega, ?_⟩
            refine ct f1 ?_
            refine .mk (.int .u8 c0.toNat) (fun w' hs => hld w' hs.below) ?_
            refine ct f1 ?_
            refine ct g2 ?_
            refine cf e1 ?_
            refine ct g2 ?_
            refine cf f2 ?_
            refine cf f2 ?_
            refine cf f2 ?_
            refine cf f2 ?_
            refine cf f2 ?_
            refine ct g2 ?_
            refine ct e2 ?_
            refine ct g2 ?_
            refine cf rfl ?_
            refine cf rfl ?_
            refine cf rfl ?_
            refine cf rfl ?_
            refine cf rfl ?_
            refine ct g2 ?_
            refine ct rfl ?_
            refine ct g1 ?_
            refine ct rfl ?_
            refine .as ((q - 1 : Nat) : Int) (by omega) (by simp only [mn]; omega) (by simp only [mx]; unfold maxLen at hm; omega) ?_
            exact ⟨q - 1, ⟨by omega, back (hbl (by subst n9; decide))⟩, by omega, ⟨⟨rfl, rfl, rfl, trivial⟩, .cons .nil, rfl⟩⟩
          have e2 : ((c0.toNat : Int) == 9) = false := ceF 9 rfl n9
          have f2 : (((c0.toNat : Int) == 9) == false) = true := by rw [e2]; rfl
          by_cases n10 : c0 = 10
          · have e3 : ((c0.toNat : Int) == 10) = true := ceT 10 rfl n10
            have f3 : (((c0.toNat : Int) == 10) == false) = false := by rw [e3]; rfl
            refine ct g2 ?_
            refine ct g2 ?_
            refine ct g2 ?_
            refine ⟨by omega, by omega, ?_⟩
            refine ct g2 ?_
            refine .mk (.int .u8 c0.toNat) (fun w' hs => hld w' hs.below) ?_
            refine ct g2 ?_
            refine ct g2 ?_
            refine ct f1 ?_
            refine ct f1 ?_
            refine ct f1 ?_
            refine ⟨by omega, by omega, ?_⟩
            refine ct f1 ?_
            refine .mk (.int .u8 c0.toNat) (fun w' hs => hld w' hs.below) ?_
            refine ct f1 ?_
            refine ct g2 ?_
            refine cf e1 ?_
            refine ct g2 ?_
            refine ct f2 ?_
            refine ct f2 ?_
            refine ct f2 ?_
            refine ⟨by omega, by omega, ?_⟩
            refine ct f2 ?_
            refine .mk (.int .u8 c0.toNat) (fun w' hs => hld w' hs.below) ?_
            refine ct f2 ?_
            refine ct g2 ?_
            refine cf e2 ?_
            refine ct g2 ?_
            refine cf f3 ?_
            refine cf f3 ?_
            refine cf f3 ?_
            refine cf f3 ?_
            refine cf f3 ?_
            refine ct g2 ?_
            refine ct e3 ?_
            refine ct g1 ?_
            refine ct rfl ?_
            refine .as ((q - 1 : Nat) : Int) (by omega) (by simp only [mn]; omega) (by simp only [mx]; unfold maxLen at hm; omega) ?_
            exact ⟨q - 1, ⟨by omega, back (hbl (by subst n10; decide))⟩, by omega, ⟨⟨rfl, rfl, rfl, trivial⟩, .cons .nil, rfl⟩⟩
          have e3 : ((c0.toNat : Int) == 10) = false := ceF 10 rfl n10
          have f3 : (((c0.toNat : Int) == 10) == false) = true := by rw [e3]; rfl
          by_cases n13 : c0 = 13
          · have e4 : ((c0.toNat : Int) == 13) = true := ceT 13 rfl n13
            have f4 : (((c0.toNat : Int) == 13) == false) = false := by rw [e4]; rfl
            refine ct g2 ?_
            refine ct g2 ?_
            refine ct g2 ?_
            refine ⟨by omega, by omega, ?_⟩
            refine ct g2 ?_
            refine .mk (.int .u8 c0.toNat) (fun w' hs => hld w' hs.below) ?_
            refine ct g2 ?_
            refine ct g2 ?_
            refine ct f1 ?_
            refine ct f1 ?_
            refine ct f1 ?_
            refine ⟨by omega, by omega, ?_⟩
            refine ct f1 ?_
            refine .mk (.int .u8 c0.toNat) (fun w' hs => hld w' hs.below) ?_
            refine ct f1 ?_
            refine ct g2 ?_
            refine cf e1 ?_
            refine ct g2 ?_
            refine ct f2 ?_
            refine ct f2 ?_
            refine ct f2 ?_
            refine ⟨by omega, by omega, ?_⟩
            refine ct f2 ?_
            refine .mk (.int .u8 c0.toNat) (fun w' hs => hld w' hs.below) ?_
            refine ct f2 ?_
            refine ct g2 ?_
            refine cf e2 ?_
            refine ct g2 ?_
            refine ct f3 ?_
            refine ct f3 ?_
            refine ct f3 ?_
            refine ⟨by omega, by omega, ?_⟩
            refine ct f3 ?_
            refine .mk (.int .u8 c0.toNat) (fun w' hs => hld w' hs.below) ?_
            refine ct f3 ?_
            refine ct g2 ?_
            refine cf e3 ?_
            refine ct g1 ?_
            refine ct e4 ?_
            refine .as ((q - 1 : Nat) : Int) (by omega) (by simp only [mn]; omega) (by simp only [mx]; unfold maxLen at hm; omega) ?_
            exact ⟨q - 1, ⟨by omega, back (hbl (by subst n13; decide))⟩, by omega, ⟨⟨rfl, rfl, rfl, trivial⟩, .cons .nil, rfl⟩⟩
          have e4 : ((c0.toNat : Int) == 13) = false := ceF 13 rfl n13
          have f4 : (((c0.toNat : Int) == 13) == false) = true := by rw [e4]; rfl

          refine ct g2 ?_
          refine ct g2 ?_
          refine ct g2 ?_
          refine ⟨by omega, by omega, ?_⟩
          refine ct g2 ?_
          refine .mk (.int .u8 c0.toNat) (fun w' hs => hld w' hs.below) ?_
          refine ct g2 ?_
          refine ct g2 ?_
          refine ct f1 ?_
          refine ct f1 ?_
          refine ct f1 ?_
          refine ⟨by omega, by omega, ?_⟩
          refine ct f1 ?_
          refine .mk (.int .u8 c0.toNat) (fun w' hs => hld w' hs.below) ?_
          refine ct f1 ?_
          refine ct g2 ?_
          refine cf e1 ?_
          refine ct g2 ?_
          refine ct f2 ?_
          refine ct f2 ?_
          refine ct f2 ?_
          refine ⟨by omega, by omega, ?_⟩
          refine ct f2 ?_
          refine .mk (.int .u8 c0.toNat) (fun w' hs => hld w' hs.below) ?_
          refine ct f2 ?_
          refine ct g2 ?_
          refine cf e2 ?_
          refine ct g2 ?_
          refine ct f3 ?_
          refine ct f3 ?_
          refine ct f3 ?_
          refine ⟨by omega, by omega, ?_⟩
          refine ct f3 ?_
          refine .mk (.int .u8 c0.toNat) (fun w' hs => hld w' hs.below) ?_
          refine ct f3 ?_
          refine ct g2 ?_
          refine cf e3 ?_
          refine ct g1 ?_
          refine cf e4 ?_
          exact ⟨q, ⟨hq1, hq2, .inr fun c h => by
            obtain rfl := Option.some.inj (hc0.symm.trans h)
            simp [blk, n32, n9, n10, n13]⟩, ⟨⟨rfl, rfl, rfl, trivial⟩, .cons .nil, rfl⟩⟩
      · rintro q ⟨hq1, hq2, hq3⟩
        obtain ⟨N, hN, hN2⟩ : ∃ N : Nat, (N : Int) = n % 18446744073709551616 ∧ N < 18446744073709551616 := ⟨(n % 18446744073709551616).toNat, by omega, by omega⟩
        have hmod : N % (q + 1) < q + 1 := Nat.mod_lt _ (by omega)
        refine .to (N : Int) (by rw [hN]; rfl) ?_
        refine .as ((q + 1 : Nat) : Int) (by omega) (by simp only [mn]; omega) (by simp only [mx]; omega) ?_
        refine .same (by simp only [mn]; omega) (by simp only [mx]; omega) ?_
        refine ⟨by omega, by simp only [mx]; omega, by omega, ?_⟩
        refine .as ((N % (q + 1) : Nat) : Int) (by omega) (by simp only [mn]; omega) (by simp only [mx]; omega) ?_
        refine slTo sa (by omega) hca ?_
        have htk := Rd.take (k := N % (q + 1)) ha rfl (by omega) ca
        have hlk : (l.take (N % (q + 1))).length = N % (q + 1) := by rw [List.length_take]; omega
        have hpc : parseP (l.take (N % (q + 1))) = none := by
          refine parse_cut (s := l.drop (N % (q + 1))) (List.take_append_drop _ l).symm hp (show 4 ≤ k by omega) fun hall => ?_
          rcases hq3 with rfl | hq3
          · have h0 : N % (0 + 1) = 0 := by omega
            rw [h0, List.drop_zero] at hall
            have : parseP l = none := by
              unfold parseP
              have h1 : jvD 8 l = none := by
                show valS _ _ l = none
                unfold valS; rw [ws_all hall]
              rw [h1]
            rw [this] at hp; cases hp
          · have hm : l[q]'hq1 ∈ l.drop (N % (q + 1)) := by
              rw [List.mem_iff_getElem]
              exact ⟨q - N % (q + 1), by rw [List.length_drop]; omega, by rw [List.getElem_drop]; congr 1; omega⟩
            have := List.all_eq_true.1 hall _ hm
            rw [hq3 _ (List.getElem?_eq_getElem hq1)] at this; cases this
        refine cParse (l := l.take (N % (q + 1))) 0 rfl (by omega) (fun w hs => htk.below hs.below) (fun y hy hcs3 => ?_)
        obtain ⟨c3, j3, code3, A3⟩ := y
        dsimp only at hy hcs3 ⊢
        obtain rfl : code3 = 1 := by
          rcases hy with ⟨h, _⟩ | ⟨_, _, h, _⟩ | ⟨_, h, _⟩
          · omega
          · exact h
          · rw [hpc] at h; cases h
        have hc35 := c3.cs5
        intro b15
        refine sN 2 rfl (by rw [List.size_toArray, hc35]; rfl) (by simpa using hcs3.one) ?_ (by rw [List.size_toArray, hc35]; kernel_rfl)
        refine cv (fun w => is_any 1 1 w) ?_
        exact rt rfl
    · iterate 3 refine cf rfl ?_
      refine ct rfl ?_
      refine ct rfl ?_
      exact rt rfl
end Go.Proofs.YtpegkoklmhccjaaDoor
