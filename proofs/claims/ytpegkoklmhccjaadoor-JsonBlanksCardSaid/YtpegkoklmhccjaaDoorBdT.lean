/- strings.Builder by symbolic steps: a sign is written. -/
import Derived.Test.YtpegkoklmhccjaaDoorBdS
import Derived.Test.YtpegkoklmhccjaaDoorJsG
namespace Go.Proofs.YtpegkoklmhccjaaDoor
open Go.RowKit Go.Sx
set_option linter.unusedVariables false
theorem sv_slice {r : Sx.Own} {n : Nat} {xs : List Value} (h : Rw 1 n r xs) : ∃ a c, sv r n = .slice a n c := by
  cases r with
  | none => obtain rfl : n = 0 := h.2; exact ⟨_, _, rfl⟩
  | some q => exact ⟨_, _, rfl⟩
theorem shI {c : Nat} (s m : Nat) (hm : 2 ^ s = m) (hs : s ≤ 32) : (c : Int).fdiv (2 ^ (min ((s : Nat) : Int).toNat IntKind.i32.bits)) = ((c / m : Nat) : Int) := by
  rw [show IntKind.i32.bits = 32 from rfl, Int.toNat_natCast, Nat.min_eq_left hs, Int.fdiv_eq_ediv_of_nonneg _ (Int.le_of_lt (Int.pow_pos (by decide))), ← hm]
  norm_cast
theorem or8 (x j v : Nat) (hv : v < 2 ^ j) (hx : x * 2 ^ j + v < 256) : bitI .or .u8 ((x * 2 ^ j : Nat) : Int) (v : Int) = ((UInt8.ofNat (x * 2 ^ j + v)).toNat : Int) := by
  rw [orB _ _ (by omega) (by omega), or_add x v j hv, UInt8.toNat_ofNat', Nat.mod_eq_of_lt (by omega)]
theorem and63 (m : Nat) : bitI .and .u8 ((m % 256 : Nat) : Int) 63 = ((m % 64 : Nat) : Int) := by
  rw [show bitI .and .u8 ((m % 256 : Nat) : Int) 63 = ((m % 256 &&& 63 : Nat) : Int) from andB (m % 256) 63 (by omega) (by decide), show (63 : Nat) = 2 ^ 6 - 1 from rfl, and_m]
  congr 1; omega
theorem mid8 (m : Nat) : bitI .or .u8 128 (bitI .and .u8 ((m % 256 : Nat) : Int) 63) = ((UInt8.ofNat (128 + m % 64)).toNat : Int) := by
  rw [and63]; exact or8 2 6 (m % 64) (by omega) (by omega)
/-- a sign's bytes -/
def encP (c : Nat) : Bs := if c ≤ 127 then [UInt8.ofNat c] else if c ≤ 2047 then [UInt8.ofNat (192 + c / 64), UInt8.ofNat (128 + c % 64)] else if c < 55296 ∨ (57343 < c ∧ c ≤ 65535) then [UInt8.ofNat (224 + c / 4096), UInt8.ofNat (128 + c / 64 % 64), UInt8.ofNat (128 + c % 64)] else if 65535 < c ∧ c ≤ 1114111 then [UInt8.ofNat (240 + c / 262144), UInt8.ofNat (128 + c / 4096 % 64), UInt8.ofNat (128 + c / 64 % 64), UInt8.ofNat (128 + c % 64)] else [239, 191, 189]
theorem encP_len (c : Nat) : 1 ≤ (encP c).length ∧ (encP c).length ≤ 4 := by unfold encP; (repeat' split) <;> simp
theorem bsN2 (x0 x1 : Int) (w : World) : (Instr.buildSlice 38 2 #[(0, .int .u8 x0), (1, .int .u8 x1)]).run Tryd.prog w = .ok (.slice (some ⟨w.heap.size, 0, none⟩) 2 2) (w.alloc (.cells #[.int .u8 x0, .int .u8 x1] 5)) := by
  obtain ⟨i, hi, hz, hs, hb⟩ := infoOf info5
  exact run_buildSlice w _ _ 2 _ #[.int .u8 x0, .int .u8 x1] i (.int .u8 0) und22 hi hz (by rw [hs]; decide) (by rw [hs]; decide) (by rw [hs]; kernel_rfl)
theorem bsN3 (x0 x1 x2 : Int) (w : World) : (Instr.buildSlice 38 3 #[(0, .int .u8 x0), (1, .int .u8 x1), (2, .int .u8 x2)]).run Tryd.prog w = .ok (.slice (some ⟨w.heap.size, 0, none⟩) 3 3) (w.alloc (.cells #[.int .u8 x0, .int .u8 x1, .int .u8 x2] 5)) := by
  obtain ⟨i, hi, hz, hs, hb⟩ := infoOf info5
  exact run_buildSlice w _ _ 3 _ #[.int .u8 x0, .int .u8 x1, .int .u8 x2] i (.int .u8 0) und22 hi hz (by rw [hs]; decide) (by rw [hs]; decide) (by rw [hs]; kernel_rfl)
theorem bsN4 (x0 x1 x2 x3 : Int) (w : World) : (Instr.buildSlice 38 4 #[(0, .int .u8 x0), (1, .int .u8 x1), (2, .int .u8 x2), (3, .int .u8 x3)]).run Tryd.prog w = .ok (.slice (some ⟨w.heap.size, 0, none⟩) 4 4) (w.alloc (.cells #[.int .u8 x0, .int .u8 x1, .int .u8 x2, .int .u8 x3] 5)) := by
  obtain ⟨i, hi, hz, hs, hb⟩ := infoOf info5
  exact run_buildSlice w _ _ 4 _ #[.int .u8 x0, .int .u8 x1, .int .u8 x2, .int .u8 x3] i (.int .u8 0) und22 hi hz (by rw [hs]; decide) (by rw [hs]; decide) (by rw [hs]; kernel_rfl)
section
variable {N : Nat} {M : Bks} {B : World} {F : Option Nat} {L : List Ent} {next : Value → List Ent → Prop}
theorem sub1 {k : Nat} {f h : Ent} {l : List Ent} (hk : L[k]? = some h) : Sub (L.set k f) ((L ++ l).set k f) := by
  rw [List.set_append_left _ _ (List.getElem?_eq_some_iff.1 hk).1]; exact sub_app l
set_option maxRecDepth 100000 in
theorem aRune2 (kr : Nat) {r : Sx.Own} {n c : Nat} {xs : List Value} (hr : L[kr]? = some (se r xs 5)) (hR : Rw 1 n r xs) (hn : n ≤ 1000000000) (h1 : 128 ≤ c) (hc : c < 2147483648)
    (go : ∀ r' m, m = (encP c).length → Rw 1 (n + m) r' (xs ++ Lib.byteCells (encP c)) → next (sv r' (n + m)) (L.set kr (se r' (xs ++ Lib.byteCells (encP c)) 5))) : CallP ⟨Tryd.prog, tab, N, M, B, F⟩ 83 [sv r n, .int .i32 (c : Nat)] L next := by
  refine inl (C := ⟨Tryd.prog, tab, N, M, B, F⟩) tab_ok Tryd.func83 rfl Tryd.ntmps83 rfl ?_
  refine .same (by simp only [mn]; omega) (by simp only [mx]; omega) ?_
  refine cd (fun h2 => ?_) (fun h2 => ?_)
  · have henc : encP c = [UInt8.ofNat (192 + c / 64), UInt8.ofNat (128 + c % 64)] := by unfold encP; rw [if_neg (by omega), if_pos (by omega)]
    rw [henc] at go
    have e0 : bitI .or .u8 192 ((c / 64 : Nat) : Int) = ((UInt8.ofNat (192 + c / 64)).toNat : Int) := or8 3 6 (c / 64) (by omega) (by omega)
    refine ⟨by decide, ?_⟩
    refine .as ((c / 64 : Nat) : Int) (shI 6 64 rfl (by decide)) (by simp only [mn]; omega) (by simp only [mx]; omega) ?_
    refine .to ((c % 256 : Nat) : Int) (by show (c : Int) % 256 = _; omega) ?_
    refine .mk #[.int .u8 (UInt8.ofNat (192 + c / 64)).toNat, .int .u8 (UInt8.ofNat (128 + c % 64)).toNat] _ (fun w => by rw [e0, mid8 c]; exact bsN2 _ _ w) (fun b' => ?_)
    refine ap kr (news := [.int .u8 (UInt8.ofNat (192 + c / 64)).toNat, .int .u8 (UInt8.ofNat (128 + c % 64)).toNat]) (m := 2) tab_ok rfl info5 rfl (at_app hr) hR (srcE (C := ⟨Tryd.prog, tab, 78, M, B, none⟩) (e' := 5) (tx := 38) (z := 1) rfl tab_ok (src _ (at_new) rfl) rfl (by simp [Value.oneCell'])) (by omega) (by unfold maxLen; omega) (fun r' hR' => ?_)
    exact bkS (sub1 hr) (go _ _ rfl hR')
  · have n2 : ¬ c ≤ 2047 := by omega
    refine cd (fun h3 => ?_) (fun h3 => ?_)
    · have henc : encP c = [UInt8.ofNat (224 + c / 4096), UInt8.ofNat (128 + c / 64 % 64), UInt8.ofNat (128 + c % 64)] := by unfold encP; rw [if_neg (by omega), if_neg n2, if_pos (by omega)]
      rw [henc] at go
      refine ct (decide_eq_true h3) ?_
      have e0 : bitI .or .u8 224 ((c / 4096 : Nat) : Int) = ((UInt8.ofNat (224 + c / 4096)).toNat : Int) := or8 14 4 (c / 4096) (by omega) (by omega)
      refine ⟨by decide, ?_⟩
      refine .as ((c / 4096 : Nat) : Int) (shI 12 4096 rfl (by decide)) (by simp only [mn]; omega) (by simp only [mx]; omega) ?_
      refine ⟨by decide, ?_⟩
      refine .to ((c / 64 % 256 : Nat) : Int) ((congrArg (modk .u8) (shI 6 64 rfl (by decide))).trans (by show ((c / 64 : Nat) : Int) % 256 = _; omega)) ?_
      refine .to ((c % 256 : Nat) : Int) (by show (c : Int) % 256 = _; omega) ?_
      refine .mk #[.int .u8 (UInt8.ofNat (224 + c / 4096)).toNat, .int .u8 (UInt8.ofNat (128 + c / 64 % 64)).toNat, .int .u8 (UInt8.ofNat (128 + c % 64)).toNat] _ (fun w => by rw [e0, mid8 (c / 64), mid8 c]; exact bsN3 _ _ _ w) (fun b' => ?_)
      refine ap kr (news := [.int .u8 (UInt8.ofNat (224 + c / 4096)).toNat, .int .u8 (UInt8.ofNat (128 + c / 64 % 64)).toNat, .int .u8 (UInt8.ofNat (128 + c % 64)).toNat]) (m := 3) tab_ok rfl info5 rfl (at_app hr) hR (srcE (C := ⟨Tryd.prog, tab, 78, M, B, none⟩) (e' := 5) (tx := 38) (z := 1) rfl tab_ok (src _ (at_new) rfl) rfl (by simp [Value.oneCell'])) (by omega) (by unfold maxLen; omega) (fun r' hR' => ?_)
      exact bkS (sub1 hr) (go _ _ rfl hR')
    · by_cases h4 : 57343 < c
      · have f1 : decide ((57343 : Int) < (c : Int)) = true := decide_eq_true (by omega)
        have f2 : (decide ((57343 : Int) < (c : Int)) == true) = true := by rw [f1]; rfl
        iterate 2 refine ct f2 ?_
        refine ct f1 ?_
        by_cases h5 : c ≤ 65535
        · have henc : encP c = [UInt8.ofNat (224 + c / 4096), UInt8.ofNat (128 + c / 64 % 64), UInt8.ofNat (128 + c % 64)] := by unfold encP; rw [if_neg (by omega), if_neg n2, if_pos (by omega)]
          rw [henc] at go
          refine ct (decide_eq_true (by omega)) ?_
          have e0 : bitI .or .u8 224 ((c / 4096 : Nat) : Int) = ((UInt8.ofNat (224 + c / 4096)).toNat : Int) := or8 14 4 (c / 4096) (by omega) (by omega)
          refine ⟨by decide, ?_⟩
          refine .as ((c / 4096 : Nat) : Int) (shI 12 4096 rfl (by decide)) (by simp only [mn]; omega) (by simp only [mx]; omega) ?_
          refine ⟨by decide, ?_⟩
          refine .to ((c / 64 % 256 : Nat) : Int) ((congrArg (modk .u8) (shI 6 64 rfl (by decide))).trans (by show ((c / 64 : Nat) : Int) % 256 = _; omega)) ?_
          refine .to ((c % 256 : Nat) : Int) (by show (c : Int) % 256 = _; omega) ?_
          refine .mk #[.int .u8 (UInt8.ofNat (224 + c / 4096)).toNat, .int .u8 (UInt8.ofNat (128 + c / 64 % 64)).toNat, .int .u8 (UInt8.ofNat (128 + c % 64)).toNat] _ (fun w => by rw [e0, mid8 (c / 64), mid8 c]; exact bsN3 _ _ _ w) (fun b' => ?_)
          refine ap kr (news := [.int .u8 (UInt8.ofNat (224 + c / 4096)).toNat, .int .u8 (UInt8.ofNat (128 + c / 64 % 64)).toNat, .int .u8 (UInt8.ofNat (128 + c % 64)).toNat]) (m := 3) tab_ok rfl info5 rfl (at_app hr) hR (srcE (C := ⟨Tryd.prog, tab, 78, M, B, none⟩) (e' := 5) (tx := 38) (z := 1) rfl tab_ok (src _ (at_new) rfl) rfl (by simp [Value.oneCell'])) (by omega) (by unfold maxLen; omega) (fun r' hR' => ?_)
          exact bkS (sub1 hr) (go _ _ rfl hR')
        · refine cf (decide_eq_false (by omega)) ?_
          have f1 : decide ((c : Int) > 65535) = true := decide_eq_true (by omega)
          have f2 : (decide ((c : Int) > 65535) == true) = true := by rw [f1]; rfl
          iterate 2 refine ct f2 ?_
          refine ct f1 ?_
          refine cd (fun h6 => ?_) (fun h6 => ?_)
          · have henc : encP c = [UInt8.ofNat (240 + c / 262144), UInt8.ofNat (128 + c / 4096 % 64), UInt8.ofNat (128 + c / 64 % 64), UInt8.ofNat (128 + c % 64)] := by unfold encP; rw [if_neg (by omega), if_neg n2, if_neg (by omega), if_pos (by omega)]
            rw [henc] at go
            have e0 : bitI .or .u8 240 ((c / 262144 : Nat) : Int) = ((UInt8.ofNat (240 + c / 262144)).toNat : Int) := or8 30 3 (c / 262144) (by omega) (by omega)
            refine ⟨by decide, ?_⟩
            refine .as ((c / 262144 : Nat) : Int) (shI 18 262144 rfl (by decide)) (by simp only [mn]; omega) (by simp only [mx]; omega) ?_
            refine ⟨by decide, ?_⟩
            refine .to ((c / 4096 % 256 : Nat) : Int) ((congrArg (modk .u8) (shI 12 4096 rfl (by decide))).trans (by show ((c / 4096 : Nat) : Int) % 256 = _; omega)) ?_
            refine ⟨by decide, ?_⟩
            refine .to ((c / 64 % 256 : Nat) : Int) ((congrArg (modk .u8) (shI 6 64 rfl (by decide))).trans (by show ((c / 64 : Nat) : Int) % 256 = _; omega)) ?_
            refine .to ((c % 256 : Nat) : Int) (by show (c : Int) % 256 = _; omega) ?_
            refine .mk #[.int .u8 (UInt8.ofNat (240 + c / 262144)).toNat, .int .u8 (UInt8.ofNat (128 + c / 4096 % 64)).toNat, .int .u8 (UInt8.ofNat (128 + c / 64 % 64)).toNat, .int .u8 (UInt8.ofNat (128 + c % 64)).toNat] _ (fun w => by rw [e0, mid8 (c / 4096), mid8 (c / 64), mid8 c]; exact bsN4 _ _ _ _ w) (fun b' => ?_)
            refine ap kr (news := [.int .u8 (UInt8.ofNat (240 + c / 262144)).toNat, .int .u8 (UInt8.ofNat (128 + c / 4096 % 64)).toNat, .int .u8 (UInt8.ofNat (128 + c / 64 % 64)).toNat, .int .u8 (UInt8.ofNat (128 + c % 64)).toNat]) (m := 4) tab_ok rfl info5 rfl (at_app hr) hR (srcE (C := ⟨Tryd.prog, tab, 78, M, B, none⟩) (e' := 5) (tx := 38) (z := 1) rfl tab_ok (src _ (at_new) rfl) rfl (by simp [Value.oneCell'])) (by omega) (by unfold maxLen; omega) (fun r' hR' => ?_)
            exact bkS (sub1 hr) (go _ _ rfl hR')
          · have henc : encP c = [239, 191, 189] := by unfold encP; rw [if_neg (by omega), if_neg n2, if_neg (by omega), if_neg (by omega)]
            rw [henc] at go
            refine .mk #[.int .u8 (239 : UInt8).toNat, .int .u8 (191 : UInt8).toNat, .int .u8 (189 : UInt8).toNat] _ (fun w => bsN3 _ _ _ w) (fun b' => ?_)
            refine ap kr (news := [.int .u8 (239 : UInt8).toNat, .int .u8 (191 : UInt8).toNat, .int .u8 (189 : UInt8).toNat]) (m := 3) tab_ok rfl info5 rfl (at_app hr) hR (srcE (C := ⟨Tryd.prog, tab, 78, M, B, none⟩) (e' := 5) (tx := 38) (z := 1) rfl tab_ok (src _ (at_new) rfl) rfl (by simp [Value.oneCell'])) (by omega) (by unfold maxLen; omega) (fun r' hR' => ?_)
            exact bkS (sub1 hr) (go _ _ rfl hR')
      · have f1 : decide ((57343 : Int) < (c : Int)) = false := decide_eq_false (by omega)
        have f2 : (decide ((57343 : Int) < (c : Int)) == true) = false := by rw [f1]; rfl
        iterate 2 refine cf f2 ?_
        refine cf f1 ?_
        refine cf rfl ?_
        have g1 : decide ((c : Int) > 65535) = false := decide_eq_false (by omega)
        have g2 : (decide ((c : Int) > 65535) == true) = false := by rw [g1]; rfl
        iterate 2 refine cf g2 ?_
        refine cf g1 ?_
        refine cf rfl ?_
        have henc : encP c = [239, 191, 189] := by unfold encP; rw [if_neg (by omega), if_neg n2, if_neg (by omega), if_neg (by omega)]
        rw [henc] at go
        refine .mk #[.int .u8 (239 : UInt8).toNat, .int .u8 (191 : UInt8).toNat, .int .u8 (189 : UInt8).toNat] _ (fun w => bsN3 _ _ _ w) (fun b' => ?_)
        refine ap kr (news := [.int .u8 (239 : UInt8).toNat, .int .u8 (191 : UInt8).toNat, .int .u8 (189 : UInt8).toNat]) (m := 3) tab_ok rfl info5 rfl (at_app hr) hR (srcE (C := ⟨Tryd.prog, tab, 78, M, B, none⟩) (e' := 5) (tx := 38) (z := 1) rfl tab_ok (src _ (at_new) rfl) rfl (by simp [Value.oneCell'])) (by omega) (by unfold maxLen; omega) (fun r' hR' => ?_)
        exact bkS (sub1 hr) (go _ _ rfl hR')
set_option maxRecDepth 100000 in
theorem aRune (kr : Nat) {r : Sx.Own} {n c : Nat} {xs : List Value} (hr : L[kr]? = some (se r xs 5)) (hR : Rw 1 n r xs) (hn : n ≤ 1000000000) (hc : c < 2147483648)
    (go : ∀ r' m, m = (encP c).length → Rw 1 (n + m) r' (xs ++ Lib.byteCells (encP c)) → next (sv r' (n + m)) (L.set kr (se r' (xs ++ Lib.byteCells (encP c)) 5))) : CallP ⟨Tryd.prog, tab, N, M, B, F⟩ 77 [sv r n, .int .i32 (c : Nat)] L next := by
  refine inl (C := ⟨Tryd.prog, tab, N, M, B, F⟩) tab_ok Tryd.func77 rfl Tryd.ntmps77 rfl ?_
  refine .same (by simp only [mn]; omega) (by simp only [mx]; omega) ?_
  refine cd (fun h2 => ?_) (fun h2 => ?_)
  · have henc : encP c = [UInt8.ofNat c] := by unfold encP; rw [if_pos (by omega)]
    have e0 : (c : Int) = ((UInt8.ofNat c).toNat : Int) := by rw [UInt8.toNat_ofNat', Nat.mod_eq_of_lt (by omega)]
    rw [henc] at go
    refine .as ((UInt8.ofNat c).toNat : Int) e0 (by simp only [mn]; omega) (by rw [← e0]; simp only [mx]; omega) ?_
    refine .mk #[.int .u8 (UInt8.ofNat c).toNat] _ (fun w => bs1 _ w) (fun b' => ?_)
    refine ap kr (news := [.int .u8 (UInt8.ofNat c).toNat]) (m := 1) tab_ok rfl info5 rfl (at_app hr) hR (srcE (C := ⟨Tryd.prog, tab, 16, M, B, none⟩) (e' := 5) (tx := 38) (z := 1) rfl tab_ok (src _ (at_new) rfl) rfl (by simp [Value.oneCell'])) (by omega) (by unfold maxLen; omega) (fun r' hR' => ?_)
    exact bkS (sub1 hr) (go _ _ rfl hR')
  · exact aRune2 kr hr hR hn (by omega) hc fun r' m hm hR' => bk (go r' m hm hR')
theorem aRuneV (kr : Nat) {r : Sx.Own} {n c : Nat} {xs : List Value} {v : Value} (hv : sv r n = v) (hr : L[kr]? = some (se r xs 5)) (hR : Rw 1 n r xs) (hn : n ≤ 1000000000) (hc : c < 2147483648)
    (go : ∀ r' m a' c', m = (encP c).length → sv r' (n + m) = .slice a' (n + m) c' → Rw 1 (n + m) r' (xs ++ Lib.byteCells (encP c)) → next (.slice a' (n + m) c') (L.set kr (se r' (xs ++ Lib.byteCells (encP c)) 5))) : CallP ⟨Tryd.prog, tab, N, M, B, F⟩ 77 [v, .int .i32 (c : Nat)] L next := by
  subst hv
  refine aRune kr hr hR hn hc fun r' m hm hR' => ?_
  obtain ⟨a', c', e⟩ := sv_slice hR'
  rw [e]; exact go r' m a' c' hm e hR'
theorem set3 {k kr : Nat} {e1 e2 f : Ent} (hkr : k ≠ kr) : ((L.set k e1).set kr f).set k e2 = (L.set k e2).set kr f := by
  rw [List.set_comm _ _ (Ne.symm hkr), List.set_set]
set_option maxRecDepth 100000 in
/-- a sign is written -/
theorem bRune (k kr : Nat) {b n c : Nat} {p : Value} {r : Sx.Own} {xs : List Value} (hk : L[k]? = some (cl b #[p, sv r n] TB)) (hp : p = .pointer none ∨ p = ptr b) (hr : L[kr]? = some (se r xs 5)) (hkr : k ≠ kr) (hR : Rw 1 n r xs) (hn : n ≤ 1000000000) (hc : c < 2147483648)
    (go : ∀ u r' m, m = (encP c).length → Rw 1 (n + m) r' (xs ++ Lib.byteCells (encP c)) → next u ((L.set k (cl b #[ptr b, sv r' (n + m)] TB)).set kr (se r' (xs ++ Lib.byteCells (encP c)) 5))) : CallP ⟨Tryd.prog, tab, N, M, B, F⟩ 64 [ptr b, .int .i32 (c : Nat)] L next := by
  obtain ⟨a, cc, e⟩ := sv_slice hR
  rw [e] at hk
  refine inl (C := ⟨Tryd.prog, tab, N, M, B, F⟩) tab_ok Tryd.func64 rfl Tryd.ntmps64 rfl ?_
  refine bCheck k hk hp ?_
  refine ld1 k (at_set hk) rfl ?_
  refine ld1 k (at_set hk) rfl ?_
  refine aRuneV kr e (len_set hr hkr) hR hn hc (fun r' m a' c' hm e' hR' => ?_)
  have hl := (encP_len c).2
  refine s1 k (len_set (at_set hk) (Ne.symm hkr)) (Nat.lt_succ_self 1) ?_
  have hk3 : ((L.set k (cl b #[ptr b, .slice a n cc] TB)).set kr (se r' (xs ++ Lib.byteCells (encP c)) 5))[k]? = some _ := len_set (at_set hk) (Ne.symm hkr)
  refine ld1 k (at_set hk3) rfl ?_
  refine .as (m : Int) (by push_cast; omega) (by simp only [mn]; omega) (by simp only [mx]; omega) ?_
  refine bk ?_
  rw [set3 hkr]
  have g := fun u => go u r' m hm hR'
  simp only [e'] at g
  exact g _
end
end Go.Proofs.YtpegkoklmhccjaaDoor
