/- The reference's signs of six bits: the walk. -/
import Derived.Test.YtcojgckfcgbodaaDoorCdS
namespace Go.Proofs.YtcojgckfcgbodaaDoor
open Go.RowKit Go.Sx
set_option linter.unusedVariables false

/-- three bytes as four signs -/
def q4 (many n : Nat) : List UInt8 := [sgn sixS (n / 262144), sgn sixS (n / 4096 % 64), if many < 2 then 61 else sgn sixS (n / 64 % 64), if many < 3 then 61 else sgn sixS (n % 64)]
def q64 (l : List UInt8) (m : Nat) : List UInt8 := q4 (min 3 (l.length - 3 * m)) ((l.getD (3 * m) 0).toNat * 65536 + (l.getD (3 * m + 1) 0).toNat * 256 + (l.getD (3 * m + 2) 0).toNat)
def rb64 (l : List UInt8) : Nat → List UInt8
  | 0 => []
  | m + 1 => rb64 l m ++ q64 l m
theorem rb64_len (l : List UInt8) (m : Nat) : (rb64 l m).length = 4 * m := by
  induction m with
  | zero => rfl
  | succ m ih => simp [rb64, ih, q64, q4]; omega
def c3 (A : Nat → Int) (k : Nat) : Array Value := #[.int .i64 (if 0 < k then A 0 else 0), .int .i64 (if 1 < k then A 1 else 0), .int .i64 (if 2 < k then A 2 else 0)]
theorem c3_set (A : Nat → Int) (k : Nat) (h : k < 3) : (c3 A k).setIfInBounds (nad 0 (nmu ((k : Nat) : Int).toNat 1)) (.int .i64 (A k)) = c3 A (k + 1) := by
  rw [nad_eq, nmu_eq]
  rcases k with _ | _ | _ | k
  · rfl
  · rfl
  · rfl
  · omega
def c4 (S : Nat → UInt8) (many k : Nat) : Array Value := #[.int .u8 (if 0 < k ∧ many < 0 then 61 else (S 0).toNat), .int .u8 (if 1 ≤ k - 1 ∧ many < 1 then 61 else (S 1).toNat), .int .u8 (if 2 < k ∧ many < 2 then 61 else (S 2).toNat), .int .u8 (if 3 < k ∧ many < 3 then 61 else (S 3).toNat)]
theorem c4_set (S : Nat → UInt8) (many k : Nat) (h : k < 4) (hm : many < k) : (c4 S many k).setIfInBounds (nad 0 (nmu ((k : Nat) : Int).toNat 1)) (.int .u8 61) = c4 S many (k + 1) := by
  rw [nad_eq, nmu_eq]
  rcases k with _ | _ | _ | _ | k
  · omega
  · obtain rfl : many = 0 := by omega
    rfl
  · rcases many with _ | _ | many
    · rfl
    · rfl
    · omega
  · rcases many with _ | _ | _ | many
    · rfl
    · rfl
    · rfl
    · omega
  · omega
theorem c4_same (S : Nat → UInt8) (many k : Nat) (h : k < 4) (hm : ¬ many < k) : c4 S many k = c4 S many (k + 1) := by
  unfold c4
  rcases k with _ | _ | _ | _ | k
  · simp
  · have : ¬ many < 1 := hm
    simp [this]
  · have : ¬ many < 2 := hm
    simp [this]
  · have : ¬ many < 3 := hm
    simp [this]
  · omega
theorem bs4 (x y z u : Int) (w : World) : (Instr.buildSlice 22 4 #[(0, .int .u8 x), (1, .int .u8 y), (2, .int .u8 z), (3, .int .u8 u)]).run Tryd.prog w = .ok (.slice (some ⟨w.heap.size, 0, none⟩) 4 4) (w.alloc (.cells #[.int .u8 x, .int .u8 y, .int .u8 z, .int .u8 u] 5)) := by
  obtain ⟨i, hi, hz, hs, hb⟩ := infoOf info5
  exact run_buildSlice w _ _ 4 _ #[.int .u8 x, .int .u8 y, .int .u8 z, .int .u8 u] i (.int .u8 0) und22 hi hz (by rw [hs]; decide) (by rw [hs]; decide) (by rw [hs]; kernel_rfl)
abbrev A3 : Nat := 56
set_option maxRecDepth 100000 in
set_option maxHeartbeats 1000000 in
theorem rb64_any (v : Value) (l : List UInt8) (hl : l.length ≤ 1000000) (w : World) (hv : Rd w v (Lib.byteCells l)) : Calls Tryd.prog 13 ([v] : List Value).toArray w fun e w' => e = .returned (VS ⟨(rb64 l ((l.length + 2) / 3)).toArray⟩) ∧ Below w.heap.size w w' := by
  have hv0 := hv
  obtain ⟨va, vc, rfl, _⟩ := hv
  rw [Lib.byteCells_length] at hv0 ⊢
  refine enterV tab_ok Tryd.func13 rfl Tryd.ntmps13 rfl (St.start w) ?_
  refine lp tab_ok (fun x : Nat × Sx.Own => x.1 ≤ (l.length + 2) / 3 ∧ Rw 1 (4 * x.1) x.2 (Lib.byteCells (rb64 l x.1))) (fun x => ⟨[(0, .slice va l.length vc), (3, sv x.2 (4 * x.1)), (4, .int .i64 (3 * x.1 : Nat))], [se x.2 (Lib.byteCells (rb64 l x.1)) 5], []⟩) (fun x => (l.length + 2) / 3 - x.1)
    (0, none) ⟨Nat.zero_le _, Rw.nil 1⟩ ⟨⟨rfl, rfl, rfl, trivial⟩, .pad .nil, rfl⟩ ?_
  rintro ⟨m, r⟩ ⟨hm, hR⟩
  simp only at hm hR
  refine cd (fun h => ?_) (fun h => ?_)
  · have hlt : 3 * m < l.length := by (try simp only at h); omega
    obtain ⟨b, o, c, e, hb, hcell⟩ := rd_at hv0 (cells_ne (by intro h; rw [h] at hlt; cases hlt))
    injection e with e1 e2 e3
    subst e1 e3
    obtain ⟨A, hA⟩ : ∃ A : Nat → Nat, A = fun j => (l.getD (3 * m + j) 0).toNat := ⟨_, rfl⟩
    have hA8 : ∀ j, A j < 256 := fun j => by rw [hA]; exact UInt8.toNat_lt _
    have hcA : ∀ j, 3 * m + j < l.length → w.cell? ⟨b, o + (3 * m + j), none⟩ = some (.int .u8 (A j)) := fun j hj => hcell _ _ (by rw [cell_at hj, hA]; simp [hj])
    have hA0 : ∀ j, l.length ≤ 3 * m + j → A j = 0 := fun j hj => by rw [hA]; simp [hj]
    obtain ⟨many, hmany⟩ : ∃ many, many = min 3 (l.length - 3 * m) := ⟨_, rfl⟩
    have hq : q64 l m = q4 many (A 0 * 65536 + A 1 * 256 + A 2) := by rw [hA, hmany]; rfl
    have hx : rb64 l (m + 1) = rb64 l m ++ q4 many (A 0 * 65536 + A 1 * 256 + A 2) := by rw [← hq]; rfl
    clear hA hq hcell
    intro bt
    have a0 := hA8 0
    have a1 := hA8 1
    have a2 := hA8 2
    refine lpe tab_ok 2 (fun _ : Unit => True) (fun _ => ⟨[(0, .slice (some ⟨b, o, none⟩) l.length vc), (3, sv r (4 * m)), (4, .int .i64 (3 * m : Nat)), (5, ptr bt), (6, .int .i64 many), (7, .int .i64 many)], [se r (Lib.byteCells (rb64 l m)) 5, cl bt (c3 (fun j => (A j : Int)) many) A3], []⟩)
      (fun k : Nat => k ≤ many) (fun k => ⟨[(0, .slice (some ⟨b, o, none⟩) l.length vc), (3, sv r (4 * m)), (4, .int .i64 (3 * m : Nat)), (5, ptr bt), (6, .int .i64 k), (7, .int .i64 k)], [se r (Lib.byteCells (rb64 l m)) 5, cl bt (c3 (fun j => (A j : Int)) k) A3], []⟩) (fun k => 3 - k)
      0 (Nat.zero_le _) ⟨⟨rfl, rfl, rfl, rfl, rfl, rfl, trivial⟩, .cons (.cons .nil), rfl⟩ ?_ ?_
    · intro k hk
      by_cases h3 : (k : Int) < 3
      · have f1 := decide_eq_true h3
        have f2 : (decide ((k : Int) < 3) == true) = true := by rw [f1]; rfl
        iterate 3 refine ct f2 ?_
        refine .as ((3 * m + k : Nat) : Int) (by (try simp only); omega) (by simp only [mn]; omega) (by simp only [mx]; omega) ?_
        iterate 3 refine ct f2 ?_
        refine ct f1 ?_
        refine cd (fun hin => ?_) (fun hin => ?_)
        · have hin' : 3 * m + k < l.length := by omega
          refine .as ((3 * m + k : Nat) : Int) (by (try simp only); omega) (by simp only [mn]; omega) (by simp only [mx]; omega) ?_
          refine ⟨by omega, by (try simp only); omega, ?_⟩
          refine ldo (v := .int .u8 (A k)) (by rw [nad_eq, nmu_eq, Int.toNat_natCast, Nat.mul_one]; exact hcA k hin') hb ?_
          have := hA8 k
          refine .same (by simp only [mn]; omega) (by simp only [mx]; omega) ?_
          refine ⟨by omega, by omega, ?_⟩
          refine s1 1 rfl (by rw [nad_eq, nmu_eq]; show _ < 3; omega) ?_
          refine .as ((k + 1 : Nat) : Int) (by simp) (by simp only [mn]; omega) (by simp only [mx]; omega) ?_
          refine .as ((k + 1 : Nat) : Int) (by simp) (by simp only [mn]; omega) (by simp only [mx]; omega) ?_
          refine ⟨k + 1, by omega, by omega, ⟨⟨rfl, rfl, rfl, rfl, rfl, rfl, trivial⟩, ?_, rfl⟩⟩
          rw [← c3_set (fun j => (A j : Int)) k (by omega)]
          exact .cons (.cons .nil)
        · obtain rfl : k = many := by omega
          exact ⟨(), trivial, ⟨⟨rfl, rfl, rfl, rfl, rfl, rfl, trivial⟩, .cons (.cons .nil), rfl⟩⟩
      · have f1 := decide_eq_false h3
        have f2 : (decide ((k : Int) < 3) == true) = false := by rw [f1]; rfl
        iterate 6 refine cf f2 ?_
        refine cf f1 ?_
        refine cf rfl ?_
        obtain rfl : k = many := by omega
        exact ⟨(), trivial, ⟨⟨rfl, rfl, rfl, rfl, rfl, rfl, trivial⟩, .cons (.cons .nil), rfl⟩⟩
    rintro - -
    have hc3 : c3 (fun j => (A j : Int)) many = #[.int .i64 (A 0), .int .i64 (A 1), .int .i64 (A 2)] := by
      unfold c3
      rw [if_pos (by omega)]
      have e1 : (if 1 < many then (A 1 : Int) else 0) = A 1 := by split; rfl; rw [hA0 1 (by omega)]; rfl
      have e2 : (if 2 < many then (A 2 : Int) else 0) = A 2 := by split; rfl; rw [hA0 2 (by omega)]; rfl
      rw [e1, e2]
    rw [hc3]
    obtain ⟨N, hN⟩ : ∃ N, N = A 0 * 65536 + A 1 * 256 + A 2 := ⟨_, rfl⟩
    rw [← hN] at hx
    refine ⟨by decide, by decide, ?_⟩
    refine ld1 1 rfl rfl ?_
    refine .as ((A 0 * 65536 : Nat) : Int) (by simp) (by simp only [mn]; omega) (by simp only [mx]; omega) ?_
    refine ⟨by decide, by decide, ?_⟩
    refine ld1 1 rfl rfl ?_
    refine .as ((A 1 * 256 : Nat) : Int) (by simp) (by simp only [mn]; omega) (by simp only [mx]; omega) ?_
    refine .as ((A 0 * 65536 + A 1 * 256 : Nat) : Int) (by simp) (by simp only [mn]; omega) (by simp only [mx]; omega) ?_
    refine ⟨by decide, by decide, ?_⟩
    refine ld1 1 rfl rfl ?_
    refine .as ((N : Nat) : Int) (by rw [hN]; simp) (by simp only [mn]; omega) (by simp only [mx]; omega) ?_
    have hN2 : N < 16777216 := by omega
    refine ⟨by omega, by simp only [mx]; omega, by decide, ?_⟩
    refine cv (six_any (N / 262144) (by omega)) ?_
    refine ⟨by omega, by simp only [mx]; omega, by decide, ?_⟩
    refine ⟨by omega, by simp only [mx]; omega, by decide, ?_⟩
    refine cv (six_any (N / 4096 % 64) (by omega)) ?_
    refine ⟨by omega, by simp only [mx]; omega, by decide, ?_⟩
    refine ⟨by omega, by simp only [mx]; omega, by decide, ?_⟩
    refine cv (six_any (N / 64 % 64) (by omega)) ?_
    refine ⟨by omega, by simp only [mx]; omega, by decide, ?_⟩
    refine cv (six_any (N % 64) (by omega)) ?_
    refine .mk _ _ (bs4 _ _ _ _) (fun b4 => ?_)
    obtain ⟨S, hS⟩ : ∃ S : Nat → UInt8, S = fun j => if j = 0 then sgn sixS (N / 262144) else if j = 1 then sgn sixS (N / 4096 % 64) else if j = 2 then sgn sixS (N / 64 % 64) else sgn sixS (N % 64) := ⟨_, rfl⟩
    have hS4 : Lib.byteCells (q4 many N) = (c4 S many 4).toList := by
      rw [hS]
      unfold c4 q4 Lib.byteCells
      have m0 : ¬ many < 0 := by omega
      have m1 : ¬ many < 1 := by omega
      simp [m0, m1]
      constructor
      · split <;> rfl
      · split <;> rfl
    refine lp tab_ok (fun k : Nat => k ≤ 4) (fun k => ⟨[(0, .slice (some ⟨b, o, none⟩) l.length vc), (3, sv r (4 * m)), (4, .int .i64 (3 * m : Nat)), (6, .int .i64 many), (9, .slice (some ⟨b4, 0, none⟩) 4 4), (10, .int .i64 k)], [se r (Lib.byteCells (rb64 l m)) 5, dead, cl b4 (c4 S many k) 5], []⟩) (fun k => 4 - k)
      0 (by omega) ⟨⟨rfl, rfl, rfl, rfl, rfl, rfl, trivial⟩, ?_, rfl⟩ ?_
    · rw [hS]; exact .cons (.dead (.cons .nil))
    intro k hk
    refine cd (fun h4 => ?_) (fun h4 => ?_)
    · refine cd (fun hkm => ?_) (fun hkm => ?_)
      · refine ⟨by omega, by (try simp only); omega, ?_⟩
        refine s1 2 rfl (by rw [nad_eq, nmu_eq]; show _ < 4; omega) ?_
        refine .as ((k + 1 : Nat) : Int) (by simp) (by simp only [mn]; omega) (by simp only [mx]; omega) ?_
        refine ⟨k + 1, by omega, by omega, ⟨⟨rfl, rfl, rfl, rfl, rfl, rfl, trivial⟩, ?_, rfl⟩⟩
        rw [← c4_set S many k (by omega) (by omega)]
        exact .cons (.cons (.cons .nil))
      · refine .as ((k + 1 : Nat) : Int) (by simp) (by simp only [mn]; omega) (by simp only [mx]; omega) ?_
        refine ⟨k + 1, by omega, by omega, ⟨⟨rfl, rfl, rfl, rfl, rfl, rfl, trivial⟩, ?_, rfl⟩⟩
        rw [← c4_same S many k (by omega) (by omega)]
        exact .cons (.cons (.cons .nil))
    · obtain rfl : k = 4 := by omega
      have hl4 : (q4 many N).length = 4 := rfl
      refine ap 0 (news := Lib.byteCells (q4 many N)) (m := 4) tab_ok rfl info5 rfl rfl hR (srcE (C := ⟨Tryd.prog, tab, 80, [], w, none⟩) (e' := 5) (tx := 22) (z := 1) rfl tab_ok (src 2 rfl (by rw [hS4]; rfl)) rfl (one8 _)) (by (try simp only); omega) (by (try simp only); unfold maxLen; omega) (fun r' hR' => ?_)
      refine .as ((3 * (m + 1) : Nat) : Int) (by (try simp only); omega) (by simp only [mn]; omega) (by simp only [mx]; omega) ?_
      refine ⟨(m + 1, r'), ⟨by (try simp only); omega, ?_⟩, by (try simp only); omega, ⟨⟨rfl, rfl, rfl, trivial⟩, ?_, rfl⟩⟩
      · simp only [hx, Lib.byteCells_append]; exact hR'
      · simp only [hx, Lib.byteCells_append]; exact .cons .nil
  · obtain rfl : m = (l.length + 2) / 3 := by (try simp only at h); omega
    have hlen := rb64_len l ((l.length + 2) / 3)
    refine semV (fun w' hs => rd_str (Rd.own hs 0 rfl hR)) ?_
    exact rt rfl
end Go.Proofs.YtcojgckfcgbodaaDoor
