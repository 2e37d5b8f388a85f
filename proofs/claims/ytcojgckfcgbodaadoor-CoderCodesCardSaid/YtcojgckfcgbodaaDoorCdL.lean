/- Apart: the walk. -/
import Derived.Test.YtcojgckfcgbodaaDoorCdK
namespace Go.Proofs.YtcojgckfcgbodaaDoor
open Go.RowKit Go.Sx
set_option linter.unusedVariables false

abbrev TBy : Nat := 22
theorem infoSS : (Tryd.prog.info? TBy).map (fun i => (i.zero, i.size, i.bytes)) = some (some (.slice none 0 0), 1, 24) := by kernel_rfl
theorem undSS : Tryd.prog.underlying 32 = some (.slice TBy) := by kernel_rfl
theorem bsSS0 (w : World) : (Instr.buildSlice 32 0 #[]).run Tryd.prog w = .ok (.slice (some ⟨w.heap.size, 0, none⟩) 0 0) (w.alloc (.cells #[] TBy)) := by
  obtain ⟨i, hi, hz, hs, hb⟩ := infoOf infoSS
  simp [Instr.buildSlice, run_underlying undSS, sizeOf, typeInfo, hi, newRow, Instr.fill]
  exact congrArg (fun c => w.alloc (.cells c TBy)) (Array.ext' (by simp))
theorem bsSS1 (a : Option Addr) (n k : Nat) (w : World) : (Instr.buildSlice 32 1 #[(0, .slice a n k)]).run Tryd.prog w = .ok (.slice (some ⟨w.heap.size, 0, none⟩) 1 1) (w.alloc (.cells #[.slice a n k] TBy)) := by
  obtain ⟨i, hi, hz, hs, hb⟩ := infoOf infoSS
  exact run_buildSlice w _ _ 1 _ #[.slice a n k] i (.slice none 0 0) undSS hi hz (by rw [hs]; decide) (by rw [hs]; decide) (by rw [hs]; kernel_rfl)
theorem mk_set (k : Nat) {xs jk : List Value} {j : Nat} (hj : j < xs.length) : (mkc k j ++ xs.drop j ++ jk).toArray.setIfInBounds j (mkV k j) = (mkc k (j + 1) ++ xs.drop (j + 1) ++ jk).toArray := by
  have hl := mkc_len k j
  rw [List.setIfInBounds_toArray, mkc_succ, List.append_assoc, List.set_append_right _ _ (by omega), hl, Nat.sub_self, List.drop_eq_getElem_cons hj]
  simp only [List.cons_append, List.set_cons_zero, List.append_assoc, List.nil_append]
def mX (n : Nat) (xs : List Value) (i k : Nat) : List Value := cond (Nat.blt i k) (mkc i n) xs
def upd {α : Type} (f : Nat → α) (k : Nat) (v : α) : Nat → α := fun i => cond (Nat.beq i k) v (f i)
/-- the lists, grown -/
def vsl (n : Nat) (b : Nat → Option Addr) (d : Nat → Nat) : Nat → List Value
  | 0 => []
  | k + 1 => vsl n b d k ++ [.slice (b k) (n + 10) (d k)]
structure Gs where
  k : Nat
  W : Nat → Nat → Prop
  b : Nat → Option Addr
  d : Nat → Nat
  rg : Sx.Own
theorem gr_new {M : Bks} {B w : World} {L : List Ent} (hs : St M B w L) (k : Nat) {W : Nat → Prop} {i n m c e j : Nat} {a0 : Option Addr} {V : Value} (hk : L[k]? = some (rs (gR W i n m a0 V))) (hV : V = .slice (some ⟨e, 0, none⟩) m c) (hj : j < m) : w.cell? ⟨e, j, none⟩ = some (mkV i j) := by
  have hp : GP W i n m a0 V w := hs.res hk
  obtain ⟨r, h1, hR, hr⟩ := hp.new
  rw [hV] at h1
  rcases r with _ | ⟨b, cc, jk⟩
  · exact absurd hR.2 (by omega)
  · injection h1 with e1 e2 e3
    obtain rfl : e = b := by injection e1 with e1; injection e1
    have h2 : j < (mkc i m).length := by rw [mkc_len]; exact hj
    rw [cell_of_row w e j _ _ _ (hr e cc jk rfl).2, List.getElem?_toArray, List.getElem?_append_left h2, mkc_at i hj]
theorem gr_old {M : Bks} {B w : World} {L : List Ent} (hs : St M B w L) (k : Nat) {W : Nat → Prop} {i n m e j : Nat} {a0 : Option Addr} {V : Value} (hk : L[k]? = some (rs (gR W i n m a0 V))) (ha : a0 = some ⟨e, 0, none⟩) (hj : j < n) : w.cell? ⟨e, j, none⟩ = some (mkV i j) := by
  have hp : GP W i n m a0 V w := hs.res hk
  obtain ⟨b, e1, _, hc⟩ := hp.old (by omega)
  rw [ha] at e1
  obtain rfl : e = b := by injection e1 with e1; injection e1
  exact hc j hj
section
variable {N : Nat} {M : Bks} {B : World} {F : Option Nat} {next : Value → List Ent → Prop}
set_option maxRecDepth 100000 in
set_option maxHeartbeats 8000000 in
theorem apart_in {n bl c1 c2 cc : Nat} {xs : List Value} {rc r1 r2 : Sx.Own} {a1 a2 ac : Option Addr} (hn : n ≤ 5000) (hxs : xs.length = n) (hRc : Rw 1 n rc xs) (hR1 : Rw 1 n r1 xs) (hR2 : Rw 1 n r2 xs) (hvc : sv rc n = .slice ac n cc) (hv1 : sv r1 n = .slice a1 n c1) (hv2 : sv r2 n = .slice a2 n c2) (go : ∀ L', next (.bool true) L') :
    CallP ⟨Tryd.prog, tab, N, M, B, F⟩ 16 [.slice (some ⟨bl, 0, none⟩) 3 3] [se rc xs 5, se r1 xs 5, se r2 xs 5, cl bl #[.slice a1 n c1, .slice a2 n c2, .slice ac n cc] TBy] next := by
  refine inl (C := ⟨Tryd.prog, tab, N, M, B, F⟩) tab_ok Tryd.func16 rfl Tryd.ntmps16 rfl ?_
  refine lp tab_ok (fun k : Nat => k ≤ 3) (fun k => ⟨[(0, .slice (some ⟨bl, 0, none⟩) 3 3), (13, .slice (some ⟨bl, 0, none⟩) 3 3), (14, .int .i64 3), (15, .int .i64 k)], [se rc (mX n xs 2 k) 5, se r1 (mX n xs 0 k) 5, se r2 (mX n xs 1 k) 5, cl bl #[.slice a1 n c1, .slice a2 n c2, .slice ac n cc] TBy], []⟩) (fun k => 3 - k) 0 (by decide) ⟨⟨rfl, rfl, rfl, rfl, trivial⟩, .cons (.cons (.cons (.cons .nil))), rfl⟩ ?_
  intro k hk
  rcases k with _ | _ | _ | _ | k
  · skip
    refine cd (fun h => ?_) (fun h => absurd (show ((0 : Nat) : Int) < 3 by decide) h)
    refine ⟨by decide, by decide, ?_⟩
    refine ld1 3 rfl (v := .slice a1 n c1) rfl ?_
    refine lp tab_ok (fun j : Nat => j ≤ n) (fun j => ⟨[(0, .slice (some ⟨bl, 0, none⟩) 3 3), (13, .slice (some ⟨bl, 0, none⟩) 3 3), (14, .int .i64 3), (15, .int .i64 (0 : Nat)), (3, .int .i64 (0 : Nat)), (4, .slice a1 n c1), (21, .int .i64 n), (22, .int .i64 j)], [se rc (xs) 5, se r1 (mkc 0 j ++ xs.drop j) 5, se r2 (xs) 5, cl bl #[.slice a1 n c1, .slice a2 n c2, .slice ac n cc] TBy], []⟩) (fun j => n - j) 0 (Nat.zero_le _) ⟨⟨rfl, rfl, rfl, rfl, rfl, rfl, rfl, rfl, trivial⟩, .cons (.cons (.cons (.cons .nil))), rfl⟩ ?_
    intro j hj
    refine cd (fun h2 => ?_) (fun h2 => ?_)
    · have hjn : j < n := by omega
      refine .as ((31 * 0 : Nat) : Int) (by simp) (by simp only [mn]; omega) (by simp only [mx]; omega) ?_
      refine .as ((3 * j : Nat) : Int) (by simp) (by simp only [mn]; omega) (by simp only [mx]; omega) ?_
      refine .as ((31 * 0 + 3 * j : Nat) : Int) (by simp) (by simp only [mn]; omega) (by simp only [mx]; omega) ?_
      refine .as ((31 * 0 + 3 * j + 1 : Nat) : Int) (by simp) (by simp only [mn]; omega) (by simp only [mx]; omega) ?_
      refine .to ((mkv 0 j : Nat) : Int) (by simp only [modk, mkv]; omega) ?_
      rcases hrr : r1 with _ | ⟨b, cap, jk⟩
      · rw [hrr] at hR1; exact absurd hR1.2 (by omega)
      rw [hrr] at hv1
      injection hv1 with e1 e2 e3
      subst e1
      refine ⟨by omega, by omega, ?_⟩
      have eo : nad 0 (nmu ((j : Nat) : Int).toNat 1) = j := by rw [nad_eq, nmu_eq]; simp
      refine s1 1 rfl (by rw [eo]; simp; rw [mkc_len]; omega) ?_
      refine .as ((j + 1 : Nat) : Int) (by simp) (by simp only [mn]; omega) (by simp only [mx]; omega) ?_
      refine ⟨j + 1, by omega, by omega, ⟨⟨rfl, rfl, rfl, rfl, rfl, rfl, rfl, rfl, trivial⟩, ?_, rfl⟩⟩
      rw [eo, mk_set 0 (by omega)]
      exact .cons (.cons (.cons (.cons .nil)))
    · obtain rfl : j = n := by omega
      rw [List.drop_of_length_le (Nat.le_of_eq hxs), List.append_nil]
      refine .as ((0 + 1 : Nat) : Int) (by simp) (by simp only [mn]; omega) (by simp only [mx]; omega) ?_
      exact ⟨0 + 1, by omega, by omega, ⟨⟨rfl, rfl, rfl, rfl, trivial⟩, .cons (.cons (.cons (.cons .nil))), rfl⟩⟩
  · skip
    refine cd (fun h => ?_) (fun h => absurd (show ((1 : Nat) : Int) < 3 by decide) h)
    refine ⟨by decide, by decide, ?_⟩
    refine ld1 3 rfl (v := .slice a2 n c2) rfl ?_
    refine lp tab_ok (fun j : Nat => j ≤ n) (fun j => ⟨[(0, .slice (some ⟨bl, 0, none⟩) 3 3), (13, .slice (some ⟨bl, 0, none⟩) 3 3), (14, .int .i64 3), (15, .int .i64 (1 : Nat)), (3, .int .i64 (1 : Nat)), (4, .slice a2 n c2), (21, .int .i64 n), (22, .int .i64 j)], [se rc (xs) 5, se r1 (mkc 0 n) 5, se r2 (mkc 1 j ++ xs.drop j) 5, cl bl #[.slice a1 n c1, .slice a2 n c2, .slice ac n cc] TBy], []⟩) (fun j => n - j) 0 (Nat.zero_le _) ⟨⟨rfl, rfl, rfl, rfl, rfl, rfl, rfl, rfl, trivial⟩, .cons (.cons (.cons (.cons .nil))), rfl⟩ ?_
    intro j hj
    refine cd (fun h2 => ?_) (fun h2 => ?_)
    · have hjn : j < n := by omega
      refine .as ((31 * 1 : Nat) : Int) (by simp) (by simp only [mn]; omega) (by simp only [mx]; omega) ?_
      refine .as ((3 * j : Nat) : Int) (by simp) (by simp only [mn]; omega) (by simp only [mx]; omega) ?_
      refine .as ((31 * 1 + 3 * j : Nat) : Int) (by simp) (by simp only [mn]; omega) (by simp only [mx]; omega) ?_
      refine .as ((31 * 1 + 3 * j + 1 : Nat) : Int) (by simp) (by simp only [mn]; omega) (by simp only [mx]; omega) ?_
      refine .to ((mkv 1 j : Nat) : Int) (by simp only [modk, mkv]; omega) ?_
      rcases hrr : r2 with _ | ⟨b, cap, jk⟩
      · rw [hrr] at hR2; exact absurd hR2.2 (by omega)
      rw [hrr] at hv2
      injection hv2 with e1 e2 e3
      subst e1
      refine ⟨by omega, by omega, ?_⟩
      have eo : nad 0 (nmu ((j : Nat) : Int).toNat 1) = j := by rw [nad_eq, nmu_eq]; simp
      refine s1 2 rfl (by rw [eo]; simp; rw [mkc_len]; omega) ?_
      refine .as ((j + 1 : Nat) : Int) (by simp) (by simp only [mn]; omega) (by simp only [mx]; omega) ?_
      refine ⟨j + 1, by omega, by omega, ⟨⟨rfl, rfl, rfl, rfl, rfl, rfl, rfl, rfl, trivial⟩, ?_, rfl⟩⟩
      rw [eo, mk_set 1 (by omega)]
      exact .cons (.cons (.cons (.cons .nil)))
    · obtain rfl : j = n := by omega
      rw [List.drop_of_length_le (Nat.le_of_eq hxs), List.append_nil]
      refine .as ((1 + 1 : Nat) : Int) (by simp) (by simp only [mn]; omega) (by simp only [mx]; omega) ?_
      exact ⟨1 + 1, by omega, by omega, ⟨⟨rfl, rfl, rfl, rfl, trivial⟩, .cons (.cons (.cons (.cons .nil))), rfl⟩⟩
  · skip
    refine cd (fun h => ?_) (fun h => absurd (show ((2 : Nat) : Int) < 3 by decide) h)
    refine ⟨by decide, by decide, ?_⟩
    refine ld1 3 rfl (v := .slice ac n cc) rfl ?_
    refine lp tab_ok (fun j : Nat => j ≤ n) (fun j => ⟨[(0, .slice (some ⟨bl, 0, none⟩) 3 3), (13, .slice (some ⟨bl, 0, none⟩) 3 3), (14, .int .i64 3), (15, .int .i64 (2 : Nat)), (3, .int .i64 (2 : Nat)), (4, .slice ac n cc), (21, .int .i64 n), (22, .int .i64 j)], [se rc (mkc 2 j ++ xs.drop j) 5, se r1 (mkc 0 n) 5, se r2 (mkc 1 n) 5, cl bl #[.slice a1 n c1, .slice a2 n c2, .slice ac n cc] TBy], []⟩) (fun j => n - j) 0 (Nat.zero_le _) ⟨⟨rfl, rfl, rfl, rfl, rfl, rfl, rfl, rfl, trivial⟩, .cons (.cons (.cons (.cons .nil))), rfl⟩ ?_
    intro j hj
    refine cd (fun h2 => ?_) (fun h2 => ?_)
    · have hjn : j < n := by omega
      refine .as ((31 * 2 : Nat) : Int) (by simp) (by simp only [mn]; omega) (by simp only [mx]; omega) ?_
      refine .as ((3 * j : Nat) : Int) (by simp) (by simp only [mn]; omega) (by simp only [mx]; omega) ?_
      refine .as ((31 * 2 + 3 * j : Nat) : Int) (by simp) (by simp only [mn]; omega) (by simp only [mx]; omega) ?_
      refine .as ((31 * 2 + 3 * j + 1 : Nat) : Int) (by simp) (by simp only [mn]; omega) (by simp only [mx]; omega) ?_
      refine .to ((mkv 2 j : Nat) : Int) (by simp only [modk, mkv]; omega) ?_
      rcases hrr : rc with _ | ⟨b, cap, jk⟩
      · rw [hrr] at hRc; exact absurd hRc.2 (by omega)
      rw [hrr] at hvc
      injection hvc with e1 e2 e3
      subst e1
      refine ⟨by omega, by omega, ?_⟩
      have eo : nad 0 (nmu ((j : Nat) : Int).toNat 1) = j := by rw [nad_eq, nmu_eq]; simp
      refine s1 0 rfl (by rw [eo]; simp; rw [mkc_len]; omega) ?_
      refine .as ((j + 1 : Nat) : Int) (by simp) (by simp only [mn]; omega) (by simp only [mx]; omega) ?_
      refine ⟨j + 1, by omega, by omega, ⟨⟨rfl, rfl, rfl, rfl, rfl, rfl, rfl, rfl, trivial⟩, ?_, rfl⟩⟩
      rw [eo, mk_set 2 (by omega)]
      exact .cons (.cons (.cons (.cons .nil)))
    · obtain rfl : j = n := by omega
      rw [List.drop_of_length_le (Nat.le_of_eq hxs), List.append_nil]
      refine .as ((2 + 1 : Nat) : Int) (by simp) (by simp only [mn]; omega) (by simp only [mx]; omega) ?_
      exact ⟨2 + 1, by omega, by omega, ⟨⟨rfl, rfl, rfl, rfl, trivial⟩, .cons (.cons (.cons (.cons .nil))), rfl⟩⟩
  · refine cd (fun h => absurd h (by decide)) (fun h => ?_)
    have hRcm : Rw 1 n rc (mkc 2 n) := ⟨by rw [mkc_len]; omega, by have := hRc.2; rcases rc with _ | ⟨b, c, j⟩ <;> simp only [List.length_append, mkc_len, hxs] at this ⊢ <;> exact this⟩
    have hR1m : Rw 1 n r1 (mkc 0 n) := ⟨by rw [mkc_len]; omega, by have := hR1.2; rcases r1 with _ | ⟨b, c, j⟩ <;> simp only [List.length_append, mkc_len, hxs] at this ⊢ <;> exact this⟩
    have hR2m : Rw 1 n r2 (mkc 1 n) := ⟨by rw [mkc_len]; omega, by have := hR2.2; rcases r2 with _ | ⟨b, c, j⟩ <;> simp only [List.length_append, mkc_len, hxs] at this ⊢ <;> exact this⟩
    refine .mk _ _ bsSS0 (fun b6 => ?_)
    refine lp tab_ok (fun x : Gs => x.k ≤ 3 ∧ Rw 1 x.k x.rg (vsl n x.b x.d x.k) ∧ ∀ i, i < x.k → ∃ b', x.b i = some ⟨b', 0, none⟩) (fun x => ⟨[(0, .slice (some ⟨bl, 0, none⟩) 3 3), (6, sv x.rg x.k), (38, .slice (some ⟨bl, 0, none⟩) 3 3), (39, .int .i64 3), (40, .int .i64 x.k)], [cond (Nat.blt 2 x.k) (rs (gR (x.W 2) 2 n (n + 10) ac (.slice (x.b 2) (n + 10) (x.d 2)))) (se rc (mkc 2 n) 5), cond (Nat.blt 0 x.k) (rs (gR (x.W 0) 0 n (n + 10) a1 (.slice (x.b 0) (n + 10) (x.d 0)))) (se r1 (mkc 0 n) 5), cond (Nat.blt 1 x.k) (rs (gR (x.W 1) 1 n (n + 10) a2 (.slice (x.b 1) (n + 10) (x.d 1)))) (se r2 (mkc 1 n) 5), cl bl #[.slice a1 n c1, .slice a2 n c2, .slice ac n cc] TBy, se x.rg (vsl n x.b x.d x.k) TBy], []⟩) (fun x => 3 - x.k) ⟨0, fun _ _ => False, fun _ => none, fun _ => 0, some (b6, 0, [])⟩ ⟨Nat.zero_le _, ⟨rfl, Nat.le_refl _, by unfold maxLen; omega, rfl⟩, fun i hi => by (try simp only at hi); omega⟩ ⟨⟨rfl, rfl, rfl, rfl, rfl, trivial⟩, .cons (.cons (.cons (.cons (.cons .nil)))), rfl⟩ ?_
    rintro ⟨k, W, b, d, rg⟩ ⟨hk, hRg, hsh⟩
    simp only at hk hRg hsh
    rcases k with _ | _ | _ | _ | k
    · skip
      refine cd (fun h => ?_) (fun h => absurd (show ((0 : Nat) : Int) < 3 by decide) h)
      refine ⟨by (try simp only); omega, by (try simp only); omega, ?_⟩
      refine ld1 3 rfl (v := .slice a1 n c1) rfl ?_
      refine lp tab_ok (fun y : Bool × Nat × (Nat → Prop) × Option Addr × Nat => n ≤ y.2.1 ∧ y.2.1 ≤ n + 10 ∧ (y.1 = false → y.2.1 = n ∧ y.2.2.2.1 = a1 ∧ y.2.2.2.2 = c1) ∧ (y.1 = true → ∃ b, y.2.2.2.1 = some ⟨b, 0, none⟩)) (fun y => ⟨[(0, .slice (some ⟨bl, 0, none⟩) 3 3), (6, sv rg 0), (38, .slice (some ⟨bl, 0, none⟩) 3 3), (39, .int .i64 3), (40, .int .i64 (0 : Nat)), (7, .int .i64 (0 : Nat)), (8, .slice y.2.2.2.1 y.2.1 y.2.2.2.2), (9, .int .i64 n)], [se rc (mkc 2 n) 5, cond y.1 (rs (gR y.2.2.1 0 n y.2.1 a1 (.slice y.2.2.2.1 y.2.1 y.2.2.2.2))) (se r1 (mkc 0 n) 5), se r2 (mkc 1 n) 5, cl bl #[.slice a1 n c1, .slice a2 n c2, .slice ac n cc] TBy, se rg (vsl n b d 0) TBy], []⟩) (fun y => n + 10 - y.2.1) (false, n, (fun _ => False), a1, c1) ⟨Nat.le_refl _, by (try simp only); omega, fun _ => ⟨rfl, rfl, rfl⟩, (fun h => by cases h)⟩ ⟨⟨rfl, rfl, rfl, rfl, rfl, rfl, rfl, rfl, trivial⟩, (.cons (.cons (.cons (.cons (.cons .nil))))), rfl⟩ ?_
      rintro ⟨fl, m, Wk, bk, dk⟩ ⟨hm1, hm2, hm3, hm4⟩
      simp only at hm1 hm2 hm3 hm4
      refine .as ((n + 10 : Nat) : Int) (by simp) (by simp only [mn]; omega) (by simp only [mx]; omega) ?_
      refine cd (fun h2 => ?_) (fun h2 => ?_)
      · have hml : m < n + 10 := by (try simp only at h2); omega
        cases fl with
        | false =>
          obtain ⟨hmn, hb0, hd0⟩ := hm3 rfl
          subst hmn; subst hb0; subst hd0
          refine .as ((31 * 0 : Nat) : Int) (by simp) (by simp only [mn]; omega) (by simp only [mx]; omega) ?_
          refine .as ((3 * m : Nat) : Int) (by simp) (by simp only [mn]; omega) (by simp only [mx]; omega) ?_
          refine .as ((31 * 0 + 3 * m : Nat) : Int) (by simp) (by simp only [mn]; omega) (by simp only [mx]; omega) ?_
          refine .as ((31 * 0 + 3 * m + 1 : Nat) : Int) (by simp) (by simp only [mn]; omega) (by simp only [mx]; omega) ?_
          refine .to ((mkv 0 m : Nat) : Int) (by simp only [modk, mkv]; omega) ?_
          refine .mk _ _ (bs1 _) (fun b8 => ?_)
          refine biPre (fun w1 hs => gr_of hs 1 rfl hR1m hv1) ?_
          refine apG 1 tab_ok rfl info5 rfl rfl (by omega) (srcE (C := ⟨Tryd.prog, tab, N, M, B, F⟩) (e' := 5) (tx := 22) (z := 1) rfl tab_ok (src 5 rfl rfl) rfl (by simp [Value.oneCell'])) (by omega) (by unfold maxLen; omega) (fun W' V' hV' => ?_)
          obtain ⟨b', c', rfl⟩ := hV'
          exact ⟨(true, m + 1, W', some ⟨b', 0, none⟩, c'), ⟨by (try simp only); omega, by (try simp only); omega, (fun h => by cases h), fun _ => ⟨b', rfl⟩⟩, by (try simp only); omega, ⟨⟨rfl, rfl, rfl, rfl, rfl, rfl, rfl, rfl, trivial⟩, (.cons (.cons (.cons (.cons (.cons .nil))))), rfl⟩⟩
        | true =>
          refine .as ((31 * 0 : Nat) : Int) (by simp) (by simp only [mn]; omega) (by simp only [mx]; omega) ?_
          refine .as ((3 * m : Nat) : Int) (by simp) (by simp only [mn]; omega) (by simp only [mx]; omega) ?_
          refine .as ((31 * 0 + 3 * m : Nat) : Int) (by simp) (by simp only [mn]; omega) (by simp only [mx]; omega) ?_
          refine .as ((31 * 0 + 3 * m + 1 : Nat) : Int) (by simp) (by simp only [mn]; omega) (by simp only [mx]; omega) ?_
          refine .to ((mkv 0 m : Nat) : Int) (by simp only [modk, mkv]; omega) ?_
          refine .mk _ _ (bs1 _) (fun b8 => ?_)
          refine apG 1 tab_ok rfl info5 rfl rfl (by omega) (srcE (C := ⟨Tryd.prog, tab, N, M, B, F⟩) (e' := 5) (tx := 22) (z := 1) rfl tab_ok (src 5 rfl rfl) rfl (by simp [Value.oneCell'])) (by omega) (by unfold maxLen; omega) (fun W' V' hV' => ?_)
          obtain ⟨b', c', rfl⟩ := hV'
          exact ⟨(true, m + 1, W', some ⟨b', 0, none⟩, c'), ⟨by (try simp only); omega, by (try simp only); omega, (fun h => by cases h), fun _ => ⟨b', rfl⟩⟩, by (try simp only); omega, ⟨⟨rfl, rfl, rfl, rfl, rfl, rfl, rfl, rfl, trivial⟩, (.cons (.cons (.cons (.cons (.cons .nil))))), rfl⟩⟩
      · have hmn : m = n + 10 := by (try simp only at h2); omega
        subst hmn
        cases fl with
        | false => exact absurd (hm3 rfl).1 (by omega)
        | true =>
        refine .mk _ _ (bsSS1 _ _ _) (fun b9 => ?_)
        refine ap 4 (z := 1) (n := 0) (m := 1) (news := [.slice bk (n + 10) dk]) tab_ok rfl infoSS rfl rfl hRg (srcE (C := ⟨Tryd.prog, tab, N, M, B, F⟩) (e' := TBy) (tx := 32) (z := 1) rfl tab_ok (src 5 rfl rfl) rfl (by simp [Value.oneCell'])) (by omega) (by unfold maxLen; omega) (fun rg' hRg' => ?_)
        refine .as ((0 + 1 : Nat) : Int) (by simp) (by simp only [mn]; omega) (by simp only [mx]; omega) ?_
        exact ⟨⟨0 + 1, upd W 0 Wk, upd b 0 bk, upd d 0 dk, rg'⟩, ⟨by (try simp only); omega, hRg', fun i hi => by
          by_cases hik : i = 0
          · subst hik; exact hm4 rfl
          · have h1 : Nat.beq i 0 = false := by
              cases hb : Nat.beq i 0 with
              | false => rfl
              | true => exact absurd (Nat.eq_of_beq_eq_true hb) hik
            simp only [upd, h1, cond_false]
            exact hsh i (by (try simp only at hi); omega)⟩, by (try simp only); omega, ⟨⟨rfl, rfl, rfl, rfl, rfl, trivial⟩, (.cons (.cons (.cons (.cons (.cons .nil))))), rfl⟩⟩
    · skip
      refine cd (fun h => ?_) (fun h => absurd (show ((1 : Nat) : Int) < 3 by decide) h)
      refine ⟨by (try simp only); omega, by (try simp only); omega, ?_⟩
      refine ld1 3 rfl (v := .slice a2 n c2) rfl ?_
      refine lp tab_ok (fun y : Bool × Nat × (Nat → Prop) × Option Addr × Nat => n ≤ y.2.1 ∧ y.2.1 ≤ n + 10 ∧ (y.1 = false → y.2.1 = n ∧ y.2.2.2.1 = a2 ∧ y.2.2.2.2 = c2) ∧ (y.1 = true → ∃ b, y.2.2.2.1 = some ⟨b, 0, none⟩)) (fun y => ⟨[(0, .slice (some ⟨bl, 0, none⟩) 3 3), (6, sv rg 1), (38, .slice (some ⟨bl, 0, none⟩) 3 3), (39, .int .i64 3), (40, .int .i64 (1 : Nat)), (7, .int .i64 (1 : Nat)), (8, .slice y.2.2.2.1 y.2.1 y.2.2.2.2), (9, .int .i64 n)], [se rc (mkc 2 n) 5, rs (gR (W 0) 0 n (n + 10) a1 (.slice (b 0) (n + 10) (d 0))), cond y.1 (rs (gR y.2.2.1 1 n y.2.1 a2 (.slice y.2.2.2.1 y.2.1 y.2.2.2.2))) (se r2 (mkc 1 n) 5), cl bl #[.slice a1 n c1, .slice a2 n c2, .slice ac n cc] TBy, se rg (vsl n b d 1) TBy], []⟩) (fun y => n + 10 - y.2.1) (false, n, (fun _ => False), a2, c2) ⟨Nat.le_refl _, by (try simp only); omega, fun _ => ⟨rfl, rfl, rfl⟩, (fun h => by cases h)⟩ ⟨⟨rfl, rfl, rfl, rfl, rfl, rfl, rfl, rfl, trivial⟩, (.cons (.cons (.cons (.cons (.cons .nil))))), rfl⟩ ?_
      rintro ⟨fl, m, Wk, bk, dk⟩ ⟨hm1, hm2, hm3, hm4⟩
      simp only at hm1 hm2 hm3 hm4
      refine .as ((n + 10 : Nat) : Int) (by simp) (by simp only [mn]; omega) (by simp only [mx]; omega) ?_
      refine cd (fun h2 => ?_) (fun h2 => ?_)
      · have hml : m < n + 10 := by (try simp only at h2); omega
        cases fl with
        | false =>
          obtain ⟨hmn, hb0, hd0⟩ := hm3 rfl
          subst hmn; subst hb0; subst hd0
          refine .as ((31 * 1 : Nat) : Int) (by simp) (by simp only [mn]; omega) (by simp only [mx]; omega) ?_
          refine .as ((3 * m : Nat) : Int) (by simp) (by simp only [mn]; omega) (by simp only [mx]; omega) ?_
          refine .as ((31 * 1 + 3 * m : Nat) : Int) (by simp) (by simp only [mn]; omega) (by simp only [mx]; omega) ?_
          refine .as ((31 * 1 + 3 * m + 1 : Nat) : Int) (by simp) (by simp only [mn]; omega) (by simp only [mx]; omega) ?_
          refine .to ((mkv 1 m : Nat) : Int) (by simp only [modk, mkv]; omega) ?_
          refine .mk _ _ (bs1 _) (fun b8 => ?_)
          refine biPre (fun w1 hs => gr_of hs 2 rfl hR2m hv2) ?_
          refine apG 2 tab_ok rfl info5 rfl rfl (by omega) (srcE (C := ⟨Tryd.prog, tab, N, M, B, F⟩) (e' := 5) (tx := 22) (z := 1) rfl tab_ok (src 5 rfl rfl) rfl (by simp [Value.oneCell'])) (by omega) (by unfold maxLen; omega) (fun W' V' hV' => ?_)
          obtain ⟨b', c', rfl⟩ := hV'
          exact ⟨(true, m + 1, W', some ⟨b', 0, none⟩, c'), ⟨by (try simp only); omega, by (try simp only); omega, (fun h => by cases h), fun _ => ⟨b', rfl⟩⟩, by (try simp only); omega, ⟨⟨rfl, rfl, rfl, rfl, rfl, rfl, rfl, rfl, trivial⟩, (.cons (.cons (.cons (.cons (.cons .nil))))), rfl⟩⟩
        | true =>
          refine .as ((31 * 1 : Nat) : Int) (by simp) (by simp only [mn]; omega) (by simp only [mx]; omega) ?_
          refine .as ((3 * m : Nat) : Int) (by simp) (by simp only [mn]; omega) (by simp only [mx]; omega) ?_
          refine .as ((31 * 1 + 3 * m : Nat) : Int) (by simp) (by simp only [mn]; omega) (by simp only [mx]; omega) ?_
          refine .as ((31 * 1 + 3 * m + 1 : Nat) : Int) (by simp) (by simp only [mn]; omega) (by simp only [mx]; omega) ?_
          refine .to ((mkv 1 m : Nat) : Int) (by simp only [modk, mkv]; omega) ?_
          refine .mk _ _ (bs1 _) (fun b8 => ?_)
          refine apG 2 tab_ok rfl info5 rfl rfl (by omega) (srcE (C := ⟨Tryd.prog, tab, N, M, B, F⟩) (e' := 5) (tx := 22) (z := 1) rfl tab_ok (src 5 rfl rfl) rfl (by simp [Value.oneCell'])) (by omega) (by unfold maxLen; omega) (fun W' V' hV' => ?_)
          obtain ⟨b', c', rfl⟩ := hV'
          exact ⟨(true, m + 1, W', some ⟨b', 0, none⟩, c'), ⟨by (try simp only); omega, by (try simp only); omega, (fun h => by cases h), fun _ => ⟨b', rfl⟩⟩, by (try simp only); omega, ⟨⟨rfl, rfl, rfl, rfl, rfl, rfl, rfl, rfl, trivial⟩, (.cons (.cons (.cons (.cons (.cons .nil))))), rfl⟩⟩
      · have hmn : m = n + 10 := by (try simp only at h2); omega
        subst hmn
        cases fl with
        | false => exact absurd (hm3 rfl).1 (by omega)
        | true =>
        refine .mk _ _ (bsSS1 _ _ _) (fun b9 => ?_)
        refine ap 4 (z := 1) (n := 1) (m := 1) (news := [.slice bk (n + 10) dk]) tab_ok rfl infoSS rfl rfl hRg (srcE (C := ⟨Tryd.prog, tab, N, M, B, F⟩) (e' := TBy) (tx := 32) (z := 1) rfl tab_ok (src 5 rfl rfl) rfl (by simp [Value.oneCell'])) (by omega) (by unfold maxLen; omega) (fun rg' hRg' => ?_)
        refine .as ((1 + 1 : Nat) : Int) (by simp) (by simp only [mn]; omega) (by simp only [mx]; omega) ?_
        exact ⟨⟨1 + 1, upd W 1 Wk, upd b 1 bk, upd d 1 dk, rg'⟩, ⟨by (try simp only); omega, hRg', fun i hi => by
          by_cases hik : i = 1
          · subst hik; exact hm4 rfl
          · have h1 : Nat.beq i 1 = false := by
              cases hb : Nat.beq i 1 with
              | false => rfl
              | true => exact absurd (Nat.eq_of_beq_eq_true hb) hik
            simp only [upd, h1, cond_false]
            exact hsh i (by (try simp only at hi); omega)⟩, by (try simp only); omega, ⟨⟨rfl, rfl, rfl, rfl, rfl, trivial⟩, (.cons (.cons (.cons (.cons (.cons .nil))))), rfl⟩⟩
    · skip
      refine cd (fun h => ?_) (fun h => absurd (show ((2 : Nat) : Int) < 3 by decide) h)
      refine ⟨by (try simp only); omega, by (try simp only); omega, ?_⟩
      refine ld1 3 rfl (v := .slice ac n cc) rfl ?_
      refine lp tab_ok (fun y : Bool × Nat × (Nat → Prop) × Option Addr × Nat => n ≤ y.2.1 ∧ y.2.1 ≤ n + 10 ∧ (y.1 = false → y.2.1 = n ∧ y.2.2.2.1 = ac ∧ y.2.2.2.2 = cc) ∧ (y.1 = true → ∃ b, y.2.2.2.1 = some ⟨b, 0, none⟩)) (fun y => ⟨[(0, .slice (some ⟨bl, 0, none⟩) 3 3), (6, sv rg 2), (38, .slice (some ⟨bl, 0, none⟩) 3 3), (39, .int .i64 3), (40, .int .i64 (2 : Nat)), (7, .int .i64 (2 : Nat)), (8, .slice y.2.2.2.1 y.2.1 y.2.2.2.2), (9, .int .i64 n)], [cond y.1 (rs (gR y.2.2.1 2 n y.2.1 ac (.slice y.2.2.2.1 y.2.1 y.2.2.2.2))) (se rc (mkc 2 n) 5), rs (gR (W 0) 0 n (n + 10) a1 (.slice (b 0) (n + 10) (d 0))), rs (gR (W 1) 1 n (n + 10) a2 (.slice (b 1) (n + 10) (d 1))), cl bl #[.slice a1 n c1, .slice a2 n c2, .slice ac n cc] TBy, se rg (vsl n b d 2) TBy], []⟩) (fun y => n + 10 - y.2.1) (false, n, (fun _ => False), ac, cc) ⟨Nat.le_refl _, by (try simp only); omega, fun _ => ⟨rfl, rfl, rfl⟩, (fun h => by cases h)⟩ ⟨⟨rfl, rfl, rfl, rfl, rfl, rfl, rfl, rfl, trivial⟩, (.cons (.cons (.cons (.cons (.cons .nil))))), rfl⟩ ?_
      rintro ⟨fl, m, Wk, bk, dk⟩ ⟨hm1, hm2, hm3, hm4⟩
      simp only at hm1 hm2 hm3 hm4
      refine .as ((n + 10 : Nat) : Int) (by simp) (by simp only [mn]; omega) (by simp only [mx]; omega) ?_
      refine cd (fun h2 => ?_) (fun h2 => ?_)
      · have hml : m < n + 10 := by (try simp only at h2); omega
        cases fl with
        | false =>
          obtain ⟨hmn, hb0, hd0⟩ := hm3 rfl
          subst hmn; subst hb0; subst hd0
          refine .as ((31 * 2 : Nat) : Int) (by simp) (by simp only [mn]; omega) (by simp only [mx]; omega) ?_
          refine .as ((3 * m : Nat) : Int) (by simp) (by simp only [mn]; omega) (by simp only [mx]; omega) ?_
          refine .as ((31 * 2 + 3 * m : Nat) : Int) (by simp) (by simp only [mn]; omega) (by simp only [mx]; omega) ?_
          refine .as ((31 * 2 + 3 * m + 1 : Nat) : Int) (by simp) (by simp only [mn]; omega) (by simp only [mx]; omega) ?_
          refine .to ((mkv 2 m : Nat) : Int) (by simp only [modk, mkv]; omega) ?_
          refine .mk _ _ (bs1 _) (fun b8 => ?_)
          refine biPre (fun w1 hs => gr_of hs 0 rfl hRcm hvc) ?_
          refine apG 0 tab_ok rfl info5 rfl rfl (by omega) (srcE (C := ⟨Tryd.prog, tab, N, M, B, F⟩) (e' := 5) (tx := 22) (z := 1) rfl tab_ok (src 5 rfl rfl) rfl (by simp [Value.oneCell'])) (by omega) (by unfold maxLen; omega) (fun W' V' hV' => ?_)
          obtain ⟨b', c', rfl⟩ := hV'
          exact ⟨(true, m + 1, W', some ⟨b', 0, none⟩, c'), ⟨by (try simp only); omega, by (try simp only); omega, (fun h => by cases h), fun _ => ⟨b', rfl⟩⟩, by (try simp only); omega, ⟨⟨rfl, rfl, rfl, rfl, rfl, rfl, rfl, rfl, trivial⟩, (.cons (.cons (.cons (.cons (.cons .nil))))), rfl⟩⟩
        | true =>
          refine .as ((31 * 2 : Nat) : Int) (by simp) (by simp only [mn]; omega) (by simp only [mx]; omega) ?_
          refine .as ((3 * m : Nat) : Int) (by simp) (by simp only [mn]; omega) (by simp only [mx]; omega) ?_
          refine .as ((31 * 2 + 3 * m : Nat) : Int) (by simp) (by simp only [mn]; omega) (by simp only [mx]; omega) ?_
          refine .as ((31 * 2 + 3 * m + 1 : Nat) : Int) (by simp) (by simp only [mn]; omega) (by simp only [mx]; omega) ?_
          refine .to ((mkv 2 m : Nat) : Int) (by simp only [modk, mkv]; omega) ?_
          refine .mk _ _ (bs1 _) (fun b8 => ?_)
          refine apG 0 tab_ok rfl info5 rfl rfl (by omega) (srcE (C := ⟨Tryd.prog, tab, N, M, B, F⟩) (e' := 5) (tx := 22) (z := 1) rfl tab_ok (src 5 rfl rfl) rfl (by simp [Value.oneCell'])) (by omega) (by unfold maxLen; omega) (fun W' V' hV' => ?_)
          obtain ⟨b', c', rfl⟩ := hV'
          exact ⟨(true, m + 1, W', some ⟨b', 0, none⟩, c'), ⟨by (try simp only); omega, by (try simp only); omega, (fun h => by cases h), fun _ => ⟨b', rfl⟩⟩, by (try simp only); omega, ⟨⟨rfl, rfl, rfl, rfl, rfl, rfl, rfl, rfl, trivial⟩, (.cons (.cons (.cons (.cons (.cons .nil))))), rfl⟩⟩
      · have hmn : m = n + 10 := by (try simp only at h2); omega
        subst hmn
        cases fl with
        | false => exact absurd (hm3 rfl).1 (by omega)
        | true =>
        refine .mk _ _ (bsSS1 _ _ _) (fun b9 => ?_)
        refine ap 4 (z := 1) (n := 2) (m := 1) (news := [.slice bk (n + 10) dk]) tab_ok rfl infoSS rfl rfl hRg (srcE (C := ⟨Tryd.prog, tab, N, M, B, F⟩) (e' := TBy) (tx := 32) (z := 1) rfl tab_ok (src 5 rfl rfl) rfl (by simp [Value.oneCell'])) (by omega) (by unfold maxLen; omega) (fun rg' hRg' => ?_)
        refine .as ((2 + 1 : Nat) : Int) (by simp) (by simp only [mn]; omega) (by simp only [mx]; omega) ?_
        exact ⟨⟨2 + 1, upd W 2 Wk, upd b 2 bk, upd d 2 dk, rg'⟩, ⟨by (try simp only); omega, hRg', fun i hi => by
          by_cases hik : i = 2
          · subst hik; exact hm4 rfl
          · have h1 : Nat.beq i 2 = false := by
              cases hb : Nat.beq i 2 with
              | false => rfl
              | true => exact absurd (Nat.eq_of_beq_eq_true hb) hik
            simp only [upd, h1, cond_false]
            exact hsh i (by (try simp only at hi); omega)⟩, by (try simp only); omega, ⟨⟨rfl, rfl, rfl, rfl, rfl, trivial⟩, (.cons (.cons (.cons (.cons (.cons .nil))))), rfl⟩⟩
    · refine cd (fun h => absurd h (by simp)) (fun h => ?_)
      obtain ⟨e0, he0⟩ := hsh 0 (by omega)
      obtain ⟨e1, he1⟩ := hsh 1 (by omega)
      obtain ⟨e2, he2⟩ := hsh 2 (by omega)
      rcases rg with _ | ⟨bg, cg, jg⟩
      · exact absurd hRg.2 (by omega)
      refine lp tab_ok (fun k : Nat => k ≤ 3) (fun k => ⟨[(0, .slice (some ⟨bl, 0, none⟩) 3 3), (68, .slice (some ⟨bg, 0, none⟩) 3 cg), (69, .int .i64 3), (70, .int .i64 k)], [rs (gR (W 2) 2 n (n + 10) ac (.slice (b 2) (n + 10) (d 2))), rs (gR (W 0) 0 n (n + 10) a1 (.slice (b 0) (n + 10) (d 0))), rs (gR (W 1) 1 n (n + 10) a2 (.slice (b 1) (n + 10) (d 1))), cl bl #[.slice a1 n c1, .slice a2 n c2, .slice ac n cc] TBy, se (some (bg, cg, jg)) (vsl n b d 3) TBy], []⟩) (fun k => 3 - k) 0 (by decide) ⟨⟨rfl, rfl, rfl, rfl, trivial⟩, .cons (.cons (.cons (.cons (.cons .nil)))), rfl⟩ ?_
      intro k hk3
      rcases k with _ | _ | _ | _ | k
      · skip
        refine cd (fun h => ?_) (fun h => absurd (show ((0 : Nat) : Int) < 3 by decide) h)
        refine ⟨by (try simp only); omega, by (try simp only); omega, ?_⟩
        refine ld1 4 rfl (v := .slice (some ⟨e0, 0, none⟩) (n + 10) (d 0)) (by show some (Value.slice (b 0) (n + 10) (d 0)) = _; rw [he0]) ?_
        refine lp tab_ok (fun j : Nat => j ≤ n + 10) (fun j => ⟨[(0, .slice (some ⟨bl, 0, none⟩) 3 3), (68, .slice (some ⟨bg, 0, none⟩) 3 cg), (69, .int .i64 3), (70, .int .i64 (0 : Nat)), (10, .int .i64 (0 : Nat)), (11, .slice (some ⟨e0, 0, none⟩) (n + 10) (d 0)), (75, .slice (some ⟨e0, 0, none⟩) (n + 10) (d 0)), (76, .int .i64 ((n + 10 : Nat) : Int)), (77, .int .i64 j)], [rs (gR (W 2) 2 n (n + 10) ac (.slice (b 2) (n + 10) (d 2))), rs (gR (W 0) 0 n (n + 10) a1 (.slice (b 0) (n + 10) (d 0))), rs (gR (W 1) 1 n (n + 10) a2 (.slice (b 1) (n + 10) (d 1))), cl bl #[.slice a1 n c1, .slice a2 n c2, .slice ac n cc] TBy, se (some (bg, cg, jg)) (vsl n b d 3) TBy], []⟩) (fun j => n + 10 - j) 0 (Nat.zero_le _) ⟨⟨rfl, rfl, rfl, rfl, rfl, rfl, rfl, rfl, rfl, trivial⟩, (.cons (.cons (.cons (.cons (.cons .nil))))), rfl⟩ ?_
        intro j hj0
        refine cd (fun h2 => ?_) (fun h2 => ?_)
        · have hj : j < n + 10 := by omega
          have eo : nad 0 (nmu ((j : Nat) : Int).toNat 1) = j := by rw [nad_eq, nmu_eq]; simp
          have q1 : (((mkv 0 j : Nat) : Int) != (mkv 0 j : Nat)) = false := by simp
          have q2 : ((((mkv 0 j : Nat) : Int) != (mkv 0 j : Nat)) == false) = true := by rw [q1]; rfl
          refine dr [rs (gR (W 2) 2 n (n + 10) ac (.slice (b 2) (n + 10) (d 2))), rs (gR (W 0) 0 n (n + 10) a1 (.slice (b 0) (n + 10) (d 0))), rs (gR (W 1) 1 n (n + 10) a2 (.slice (b 1) (n + 10) (d 1))), cl bl #[.slice a1 n c1, .slice a2 n c2, .slice ac n cc] TBy, se (some (bg, cg, jg)) (vsl n b d 3) TBy] 99 (.t 0 (.t 1 (.t 2 (.t 3 (.t 4 (.t 5 (.t 6 (.t 7 (.t 8 (.t 9 (.t 10 (.t 11 (.t 12 (.t 13 (.t 14 (.t 15 (.t 16 (.t 17 (.t 18 (.t 19 (.t 20 (.t 21 (.t 22 (.t 23 (.t 24 (.t 25 (.t 26 (.t 27 (.t 28 (.t 29 (.t 30 (.t 31 (.t 32 (.t 33 (.t 34 .nil))))))))))))))))))))))))))))))))))) tab_ok mixed_ok (by kernel_rfl) (.cons (.cons (.cons (.cons (.cons .nil))))) ?_
          refine ⟨by omega, by omega, ?_⟩
          refine ⟨mkV 0 j, fun w1 hs => by rw [eo]; exact gr_new hs 1 rfl (by rw [he0]) hj, ?_⟩
          refine .as ((31 * 0 : Nat) : Int) (by simp) (by simp only [mn]; omega) (by simp only [mx]; omega) ?_
          refine .as ((3 * j : Nat) : Int) (by simp) (by simp only [mn]; omega) (by simp only [mx]; omega) ?_
          refine .as ((31 * 0 + 3 * j : Nat) : Int) (by simp) (by simp only [mn]; omega) (by simp only [mx]; omega) ?_
          refine .as ((31 * 0 + 3 * j + 1 : Nat) : Int) (by simp) (by simp only [mn]; omega) (by simp only [mx]; omega) ?_
          refine .to ((mkv 0 j : Nat) : Int) (by simp only [modk, mkv]; omega) ?_
          iterate 4 refine ct q2 ?_
          refine ⟨by (try simp only); omega, by (try simp only); omega, ?_⟩
          refine ct q2 ?_
          refine ld1 3 rfl (v := .slice a1 n c1) rfl ?_
          iterate 3 refine ct q2 ?_
          by_cases hjn : j < n
          · have u1 : decide (((j : Nat) : Int) < (n : Nat)) = true := decide_eq_true (by omega)
            have u2 : (decide (((j : Nat) : Int) < (n : Nat)) == true) = true := by rw [u1]; rfl
            rcases hrr : r1 with _ | ⟨bb, cap, jk⟩
            · rw [hrr] at hR1m; exact absurd hR1m.2 (by omega)
            rw [hrr] at hv1
            have ha : a1 = some ⟨bb, 0, none⟩ := by injection hv1 with e1 e2 e3; exact e1.symm
            iterate 3 refine ct u2 ?_
            refine ⟨by (try simp only); omega, by (try simp only); omega, ?_⟩
            refine ct u2 ?_
            refine ld1 3 rfl (v := .slice (some ⟨bb, 0, none⟩) n c1) (by show some (Value.slice a1 n c1) = _; rw [ha]) ?_
            iterate 2 refine ct u2 ?_
            refine ⟨by omega, by omega, ?_⟩
            refine ct u2 ?_
            refine ⟨mkV 0 j, fun w1 hs => by rw [eo]; exact gr_old hs 1 rfl ha hjn, ?_⟩
            iterate 3 refine ct u2 ?_
            refine ⟨by omega, by omega, ?_⟩
            refine ct u2 ?_
            refine ⟨mkV 0 j, fun w1 hs => by rw [eo]; exact gr_new hs 1 rfl (by rw [he0]) hj, ?_⟩
            refine ct u2 ?_
            refine ct q2 ?_
            refine ct u1 ?_
            refine cf q1 ?_
            refine cf q1 ?_
            refine .as ((j + 1 : Nat) : Int) (by simp) (by simp only [mn]; omega) (by simp only [mx]; omega) ?_
            exact ⟨j + 1, by omega, by omega, ⟨⟨rfl, rfl, rfl, rfl, rfl, rfl, rfl, rfl, rfl, trivial⟩, (.cons (.cons (.cons (.cons (.cons .nil))))), rfl⟩⟩
          · have u1 : decide (((j : Nat) : Int) < (n : Nat)) = false := decide_eq_false (by omega)
            have u2 : (decide (((j : Nat) : Int) < (n : Nat)) == true) = false := by rw [u1]; rfl
            iterate 12 refine cf u2 ?_
            refine ct q2 ?_
            refine cf u1 ?_
            refine cf q1 ?_
            refine cf rfl ?_
            refine .as ((j + 1 : Nat) : Int) (by simp) (by simp only [mn]; omega) (by simp only [mx]; omega) ?_
            exact ⟨j + 1, by omega, by omega, ⟨⟨rfl, rfl, rfl, rfl, rfl, rfl, rfl, rfl, rfl, trivial⟩, (.cons (.cons (.cons (.cons (.cons .nil))))), rfl⟩⟩
        · refine .as ((0 + 1 : Nat) : Int) (by simp) (by simp only [mn]; omega) (by simp only [mx]; omega) ?_
          exact ⟨0 + 1, by omega, by omega, ⟨⟨rfl, rfl, rfl, rfl, trivial⟩, (.cons (.cons (.cons (.cons (.cons .nil))))), rfl⟩⟩
      · skip
        refine cd (fun h => ?_) (fun h => absurd (show ((1 : Nat) : Int) < 3 by decide) h)
        refine ⟨by (try simp only); omega, by (try simp only); omega, ?_⟩
        refine ld1 4 rfl (v := .slice (some ⟨e1, 0, none⟩) (n + 10) (d 1)) (by show some (Value.slice (b 1) (n + 10) (d 1)) = _; rw [he1]) ?_
        refine lp tab_ok (fun j : Nat => j ≤ n + 10) (fun j => ⟨[(0, .slice (some ⟨bl, 0, none⟩) 3 3), (68, .slice (some ⟨bg, 0, none⟩) 3 cg), (69, .int .i64 3), (70, .int .i64 (1 : Nat)), (10, .int .i64 (1 : Nat)), (11, .slice (some ⟨e1, 0, none⟩) (n + 10) (d 1)), (75, .slice (some ⟨e1, 0, none⟩) (n + 10) (d 1)), (76, .int .i64 ((n + 10 : Nat) : Int)), (77, .int .i64 j)], [rs (gR (W 2) 2 n (n + 10) ac (.slice (b 2) (n + 10) (d 2))), rs (gR (W 0) 0 n (n + 10) a1 (.slice (b 0) (n + 10) (d 0))), rs (gR (W 1) 1 n (n + 10) a2 (.slice (b 1) (n + 10) (d 1))), cl bl #[.slice a1 n c1, .slice a2 n c2, .slice ac n cc] TBy, se (some (bg, cg, jg)) (vsl n b d 3) TBy], []⟩) (fun j => n + 10 - j) 0 (Nat.zero_le _) ⟨⟨rfl, rfl, rfl, rfl, rfl, rfl, rfl, rfl, rfl, trivial⟩, (.cons (.cons (.cons (.cons (.cons .nil))))), rfl⟩ ?_
        intro j hj0
        refine cd (fun h2 => ?_) (fun h2 => ?_)
        · have hj : j < n + 10 := by omega
          have eo : nad 0 (nmu ((j : Nat) : Int).toNat 1) = j := by rw [nad_eq, nmu_eq]; simp
          have q1 : (((mkv 1 j : Nat) : Int) != (mkv 1 j : Nat)) = false := by simp
          have q2 : ((((mkv 1 j : Nat) : Int) != (mkv 1 j : Nat)) == false) = true := by rw [q1]; rfl
          refine dr [rs (gR (W 2) 2 n (n + 10) ac (.slice (b 2) (n + 10) (d 2))), rs (gR (W 0) 0 n (n + 10) a1 (.slice (b 0) (n + 10) (d 0))), rs (gR (W 1) 1 n (n + 10) a2 (.slice (b 1) (n + 10) (d 1))), cl bl #[.slice a1 n c1, .slice a2 n c2, .slice ac n cc] TBy, se (some (bg, cg, jg)) (vsl n b d 3) TBy] 99 (.t 0 (.t 1 (.t 2 (.t 3 (.t 4 (.t 5 (.t 6 (.t 7 (.t 8 (.t 9 (.t 10 (.t 11 (.t 12 (.t 13 (.t 14 (.t 15 (.t 16 (.t 17 (.t 18 (.t 19 (.t 20 (.t 21 (.t 22 (.t 23 (.t 24 (.t 25 (.t 26 (.t 27 (.t 28 (.t 29 (.t 30 (.t 31 (.t 32 (.t 33 (.t 34 .nil))))))))))))))))))))))))))))))))))) tab_ok mixed_ok (by kernel_rfl) (.cons (.cons (.cons (.cons (.cons .nil))))) ?_
          refine ⟨by omega, by omega, ?_⟩
          refine ⟨mkV 1 j, fun w1 hs => by rw [eo]; exact gr_new hs 2 rfl (by rw [he1]) hj, ?_⟩
          refine .as ((31 * 1 : Nat) : Int) (by simp) (by simp only [mn]; omega) (by simp only [mx]; omega) ?_
          refine .as ((3 * j : Nat) : Int) (by simp) (by simp only [mn]; omega) (by simp only [mx]; omega) ?_
          refine .as ((31 * 1 + 3 * j : Nat) : Int) (by simp) (by simp only [mn]; omega) (by simp only [mx]; omega) ?_
          refine .as ((31 * 1 + 3 * j + 1 : Nat) : Int) (by simp) (by simp only [mn]; omega) (by simp only [mx]; omega) ?_
          refine .to ((mkv 1 j : Nat) : Int) (by simp only [modk, mkv]; omega) ?_
          iterate 4 refine ct q2 ?_
          refine ⟨by (try simp only); omega, by (try simp only); omega, ?_⟩
          refine ct q2 ?_
          refine ld1 3 rfl (v := .slice a2 n c2) rfl ?_
          iterate 3 refine ct q2 ?_
          by_cases hjn : j < n
          · have u1 : decide (((j : Nat) : Int) < (n : Nat)) = true := decide_eq_true (by omega)
            have u2 : (decide (((j : Nat) : Int) < (n : Nat)) == true) = true := by rw [u1]; rfl
            rcases hrr : r2 with _ | ⟨bb, cap, jk⟩
            · rw [hrr] at hR2m; exact absurd hR2m.2 (by omega)
            rw [hrr] at hv2
            have ha : a2 = some ⟨bb, 0, none⟩ := by injection hv2 with e1 e2 e3; exact e1.symm
            iterate 3 refine ct u2 ?_
            refine ⟨by (try simp only); omega, by (try simp only); omega, ?_⟩
            refine ct u2 ?_
            refine ld1 3 rfl (v := .slice (some ⟨bb, 0, none⟩) n c2) (by show some (Value.slice a2 n c2) = _; rw [ha]) ?_
            iterate 2 refine ct u2 ?_
            refine ⟨by omega, by omega, ?_⟩
            refine ct u2 ?_
            refine ⟨mkV 1 j, fun w1 hs => by rw [eo]; exact gr_old hs 2 rfl ha hjn, ?_⟩
            iterate 3 refine ct u2 ?_
            refine ⟨by omega, by omega, ?_⟩
            refine ct u2 ?_
            refine ⟨mkV 1 j, fun w1 hs => by rw [eo]; exact gr_new hs 2 rfl (by rw [he1]) hj, ?_⟩
            refine ct u2 ?_
            refine ct q2 ?_
            refine ct u1 ?_
            refine cf q1 ?_
            refine cf q1 ?_
            refine .as ((j + 1 : Nat) : Int) (by simp) (by simp only [mn]; omega) (by simp only [mx]; omega) ?_
            exact ⟨j + 1, by omega, by omega, ⟨⟨rfl, rfl, rfl, rfl, rfl, rfl, rfl, rfl, rfl, trivial⟩, (.cons (.cons (.cons (.cons (.cons .nil))))), rfl⟩⟩
          · have u1 : decide (((j : Nat) : Int) < (n : Nat)) = false := decide_eq_false (by omega)
            have u2 : (decide (((j : Nat) : Int) < (n : Nat)) == true) = false := by rw [u1]; rfl
            iterate 12 refine cf u2 ?_
            refine ct q2 ?_
            refine cf u1 ?_
            refine cf q1 ?_
            refine cf rfl ?_
            refine .as ((j + 1 : Nat) : Int) (by simp) (by simp only [mn]; omega) (by simp only [mx]; omega) ?_
            exact ⟨j + 1, by omega, by omega, ⟨⟨rfl, rfl, rfl, rfl, rfl, rfl, rfl, rfl, rfl, trivial⟩, (.cons (.cons (.cons (.cons (.cons .nil))))), rfl⟩⟩
        · refine .as ((1 + 1 : Nat) : Int) (by simp) (by simp only [mn]; omega) (by simp only [mx]; omega) ?_
          exact ⟨1 + 1, by omega, by omega, ⟨⟨rfl, rfl, rfl, rfl, trivial⟩, (.cons (.cons (.cons (.cons (.cons .nil))))), rfl⟩⟩
      · skip
        refine cd (fun h => ?_) (fun h => absurd (show ((2 : Nat) : Int) < 3 by decide) h)
        refine ⟨by (try simp only); omega, by (try simp only); omega, ?_⟩
        refine ld1 4 rfl (v := .slice (some ⟨e2, 0, none⟩) (n + 10) (d 2)) (by show some (Value.slice (b 2) (n + 10) (d 2)) = _; rw [he2]) ?_
        refine lp tab_ok (fun j : Nat => j ≤ n + 10) (fun j => ⟨[(0, .slice (some ⟨bl, 0, none⟩) 3 3), (68, .slice (some ⟨bg, 0, none⟩) 3 cg), (69, .int .i64 3), (70, .int .i64 (2 : Nat)), (10, .int .i64 (2 : Nat)), (11, .slice (some ⟨e2, 0, none⟩) (n + 10) (d 2)), (75, .slice (some ⟨e2, 0, none⟩) (n + 10) (d 2)), (76, .int .i64 ((n + 10 : Nat) : Int)), (77, .int .i64 j)], [rs (gR (W 2) 2 n (n + 10) ac (.slice (b 2) (n + 10) (d 2))), rs (gR (W 0) 0 n (n + 10) a1 (.slice (b 0) (n + 10) (d 0))), rs (gR (W 1) 1 n (n + 10) a2 (.slice (b 1) (n + 10) (d 1))), cl bl #[.slice a1 n c1, .slice a2 n c2, .slice ac n cc] TBy, se (some (bg, cg, jg)) (vsl n b d 3) TBy], []⟩) (fun j => n + 10 - j) 0 (Nat.zero_le _) ⟨⟨rfl, rfl, rfl, rfl, rfl, rfl, rfl, rfl, rfl, trivial⟩, (.cons (.cons (.cons (.cons (.cons .nil))))), rfl⟩ ?_
        intro j hj0
        refine cd (fun h2 => ?_) (fun h2 => ?_)
        · have hj : j < n + 10 := by omega
          have eo : nad 0 (nmu ((j : Nat) : Int).toNat 1) = j := by rw [nad_eq, nmu_eq]; simp
          have q1 : (((mkv 2 j : Nat) : Int) != (mkv 2 j : Nat)) = false := by simp
          have q2 : ((((mkv 2 j : Nat) : Int) != (mkv 2 j : Nat)) == false) = true := by rw [q1]; rfl
          refine dr [rs (gR (W 2) 2 n (n + 10) ac (.slice (b 2) (n + 10) (d 2))), rs (gR (W 0) 0 n (n + 10) a1 (.slice (b 0) (n + 10) (d 0))), rs (gR (W 1) 1 n (n + 10) a2 (.slice (b 1) (n + 10) (d 1))), cl bl #[.slice a1 n c1, .slice a2 n c2, .slice ac n cc] TBy, se (some (bg, cg, jg)) (vsl n b d 3) TBy] 99 (.t 0 (.t 1 (.t 2 (.t 3 (.t 4 (.t 5 (.t 6 (.t 7 (.t 8 (.t 9 (.t 10 (.t 11 (.t 12 (.t 13 (.t 14 (.t 15 (.t 16 (.t 17 (.t 18 (.t 19 (.t 20 (.t 21 (.t 22 (.t 23 (.t 24 (.t 25 (.t 26 (.t 27 (.t 28 (.t 29 (.t 30 (.t 31 (.t 32 (.t 33 (.t 34 .nil))))))))))))))))))))))))))))))))))) tab_ok mixed_ok (by kernel_rfl) (.cons (.cons (.cons (.cons (.cons .nil))))) ?_
          refine ⟨by omega, by omega, ?_⟩
          refine ⟨mkV 2 j, fun w1 hs => by rw [eo]; exact gr_new hs 0 rfl (by rw [he2]) hj, ?_⟩
          refine .as ((31 * 2 : Nat) : Int) (by simp) (by simp only [mn]; omega) (by simp only [mx]; omega) ?_
          refine .as ((3 * j : Nat) : Int) (by simp) (by simp only [mn]; omega) (by simp only [mx]; omega) ?_
          refine .as ((31 * 2 + 3 * j : Nat) : Int) (by simp) (by simp only [mn]; omega) (by simp only [mx]; omega) ?_
          refine .as ((31 * 2 + 3 * j + 1 : Nat) : Int) (by simp) (by simp only [mn]; omega) (by simp only [mx]; omega) ?_
          refine .to ((mkv 2 j : Nat) : Int) (by simp only [modk, mkv]; omega) ?_
          iterate 4 refine ct q2 ?_
          refine ⟨by (try simp only); omega, by (try simp only); omega, ?_⟩
          refine ct q2 ?_
          refine ld1 3 rfl (v := .slice ac n cc) rfl ?_
          iterate 3 refine ct q2 ?_
          by_cases hjn : j < n
          · have u1 : decide (((j : Nat) : Int) < (n : Nat)) = true := decide_eq_true (by omega)
            have u2 : (decide (((j : Nat) : Int) < (n : Nat)) == true) = true := by rw [u1]; rfl
            rcases hrr : rc with _ | ⟨bb, cap, jk⟩
            · rw [hrr] at hRcm; exact absurd hRcm.2 (by omega)
            rw [hrr] at hvc
            have ha : ac = some ⟨bb, 0, none⟩ := by injection hvc with e1 e2 e3; exact e1.symm
            iterate 3 refine ct u2 ?_
            refine ⟨by (try simp only); omega, by (try simp only); omega, ?_⟩
            refine ct u2 ?_
            refine ld1 3 rfl (v := .slice (some ⟨bb, 0, none⟩) n cc) (by show some (Value.slice ac n cc) = _; rw [ha]) ?_
            iterate 2 refine ct u2 ?_
            refine ⟨by omega, by omega, ?_⟩
            refine ct u2 ?_
            refine ⟨mkV 2 j, fun w1 hs => by rw [eo]; exact gr_old hs 0 rfl ha hjn, ?_⟩
            iterate 3 refine ct u2 ?_
            refine ⟨by omega, by omega, ?_⟩
            refine ct u2 ?_
            refine ⟨mkV 2 j, fun w1 hs => by rw [eo]; exact gr_new hs 0 rfl (by rw [he2]) hj, ?_⟩
            refine ct u2 ?_
            refine ct q2 ?_
            refine ct u1 ?_
            refine cf q1 ?_
            refine cf q1 ?_
            refine .as ((j + 1 : Nat) : Int) (by simp) (by simp only [mn]; omega) (by simp only [mx]; omega) ?_
            exact ⟨j + 1, by omega, by omega, ⟨⟨rfl, rfl, rfl, rfl, rfl, rfl, rfl, rfl, rfl, trivial⟩, (.cons (.cons (.cons (.cons (.cons .nil))))), rfl⟩⟩
          · have u1 : decide (((j : Nat) : Int) < (n : Nat)) = false := decide_eq_false (by omega)
            have u2 : (decide (((j : Nat) : Int) < (n : Nat)) == true) = false := by rw [u1]; rfl
            iterate 12 refine cf u2 ?_
            refine ct q2 ?_
            refine cf u1 ?_
            refine cf q1 ?_
            refine cf rfl ?_
            refine .as ((j + 1 : Nat) : Int) (by simp) (by simp only [mn]; omega) (by simp only [mx]; omega) ?_
            exact ⟨j + 1, by omega, by omega, ⟨⟨rfl, rfl, rfl, rfl, rfl, rfl, rfl, rfl, rfl, trivial⟩, (.cons (.cons (.cons (.cons (.cons .nil))))), rfl⟩⟩
        · refine .as ((2 + 1 : Nat) : Int) (by simp) (by simp only [mn]; omega) (by simp only [mx]; omega) ?_
          exact ⟨2 + 1, by omega, by omega, ⟨⟨rfl, rfl, rfl, rfl, trivial⟩, (.cons (.cons (.cons (.cons (.cons .nil))))), rfl⟩⟩
      · refine cd (fun h => absurd h (by simp)) (fun h => ?_)
        exact bk (go _)
      · omega
    · omega
  · omega
end
end Go.Proofs.YtcojgckfcgbodaaDoor
