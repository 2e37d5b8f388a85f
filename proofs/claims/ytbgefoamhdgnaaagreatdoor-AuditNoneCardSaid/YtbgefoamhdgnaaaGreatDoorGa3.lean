/- For every row of bytes and every number the law AuditNone returns true, and the bytes read as they did; no condition. -/
import Derived.Laws.StructEq
import Derived.Laws.Rows
import Derived.BigCall
import Derived.RangeFuncNested
import Derived.RangeFuncBound
import Derived.RangeFuncCalls
import Derived.RangeFuncLeaves
import Derived.RangeFuncBox
import Derived.RangeFuncFrom
import Derived.OrdersIn
import Derived.TacticsIn
import Derived.LoopIn
import Derived.LoopNIn
import Derived.Shelf.Abstract
import Derived.Shelf.RegionOpen
import Derived.WalkKit
import Derived.OwnWalkIn
import Derived.TacticsInMore
import Derived.Laws.MakeOwn
import Derived.Maps.AppendAt
import Derived.Test.YtbgefoamhdgnaaaGreatDoorGa2
set_option maxRecDepth 100000
set_option maxHeartbeats 16000000
set_option linter.unusedVariables false
set_option linter.unusedSimpArgs false
namespace Go.Proofs.YtbgefoamhdgnaaaGreatDoor
section
open Go.RowKit Go.Lib
theorem mul_bd (x y : Int) (hx0 : 0 ≤ x) (hx : x ≤ 4095) (hy0 : 0 ≤ y) (hy : y ≤ 4095) : 0 ≤ x * y ∧ x * y ≤ 16769025 :=
 ⟨Int.mul_nonneg hx0 hy0, by have := Int.mul_le_mul hx hy hy0 (by decide); omega⟩
theorem times_inv (a b : Nat) (ha : a < PP) (hb : b < PP) (h : Nat → Int) (hd : ∀ j, j < 44 → 0 ≤ h j ∧ h j ≤ 484 * 16769025) (hs : qp 4096 h 44 = qp 4096 (dg 4096 a) 22 * b) : qdo (a * b) 0 h := by
 have h22 := qdc
 refine qaq _ h (fun i hi => by have := hd i hi; omega) ?_ ?_
 · rw [hs, qai a (by omega)]; norm_cast
 · rw [bnd0]
   have e : PP < 2 ^ 255 := by decide +kernel
   have h1 : a * b < 2 ^ 255 * 2 ^ 255 := Nat.mul_lt_mul'' (by omega) (by omega)
   have e2 : (2 : Nat) ^ 255 * 2 ^ 255 = 3351951982485649274893506249551461531869841455148098344430890360930441007518386744200468574541725856922507964546621512713438470702986642486608412251521024 := by decide +kernel
   omega
theorem q4 (a b : Nat) (ha : a < PP) (hb : b < PP) (w : World) :
 Calls Tryz.prog 82 #[.agg (r22 a), .agg (r22 b)] w fun e w' => e = .returned (.agg (r22 (a * b % PP))) ∧ Below w.heap.size w w' := by
 have hb2 : (b : Int) = qp 4096 (dg 4096 b) 22 := (qai b (Nat.lt_trans hb qdc)).symm
 have HB2 := Lib.hid hb2; clear hb2
 have HI := Lib.hid (times_inv a b ha hb); clear ha hb
 go_enter Tryz.func82, Tryz.ntmps82
 go_wp2_with fail
 go_loopw [6] (fun i wr => ∃ (k : Nat) (h : Nat → Int), k ≤ 22 ∧ i = .int .i64 k ∧ (∀ j, j < 44 → 0 ≤ h j ∧ h j ≤ 22 * (k : Int) * 16769025) ∧ qp 4096 h 44 = qp 4096 (dg 4096 a) k * b ∧ Has wr w.heap.size (r22 a) 101 ∧ Has wr (w.heap.size + 1) (r22 b) 101 ∧ HasN wr (w.heap.size + 1 + 1) 22 101 ∧ Has wr (w.heap.size + 1 + 1 + 1) (row .i64 44 h) 176 ∧ Below w.heap.size w wr) (fun i _ => 22 - (RowKit.intOf i).toNat)
 case atStart =>
  exact ⟨0, fun _ => 0, by omega, rfl, fun j hj => by simp, by rw [Q8 _ _ _ (fun _ _ => rfl)]; simp [qp], ((Has.new _ _ _).alloc _ |>.alloc _).alloc _, ((Has.new1 _ _ _ _).alloc _).alloc _, (HasN.new2 _ _ _ _ _ 22 rfl).alloc _, Has.new3 _ _ _ _ _ _, qbn _ _ _ _ _⟩
 case round =>
  obtain ⟨i, h0, hi, rfl, hd, hs, m0, m1, m2, m3, hB⟩ := hrel
  have M0 := Lib.hid m0; clear m0
  have M1 := Lib.hid m1; clear m1
  have M2 := Lib.hid m2; clear m2
  have M3 := Lib.hid m3; clear m3
  have HD := Lib.hid hd; clear hd
  have HS := Lib.hid hs; clear hs
  by_cases hlt : i < 22
  · go_wp2_with fail
    obtain ⟨wo, rfl⟩ : ∃ wo : World, wo = wr := ⟨_, rfl⟩
    go_loopw [7] (fun s wr => ∃ (k : Nat) (h : Nat → Int), k ≤ 22 ∧ s = .int .i64 k ∧ (∀ j, j < 44 → 0 ≤ h j ∧ h j ≤ (22 * (i : Int) + k) * 16769025) ∧ qp 4096 h 44 = qp 4096 (dg 4096 a) i * b + dg 4096 a i * 4096 ^ i * qp 4096 (dg 4096 b) k ∧ Has wr w.heap.size (r22 a) 101 ∧ Has wr (w.heap.size + 1) (r22 b) 101 ∧ HasN wr (w.heap.size + 1 + 1) 22 101 ∧ Has wr (w.heap.size + 1 + 1 + 1) (row .i64 44 h) 176 ∧ Below w.heap.size w wr) (fun s _ => 22 - (RowKit.intOf s).toNat)
    case atStart => exact ⟨0, h0, by omega, rfl, fun j hj => by have := HD.out j hj; omega, by rw [show qp 4096 (dg 4096 b) 0 = 0 from rfl, Int.mul_zero, Int.add_zero]; exact HS.out, M0.out, M1.out, M2.out, M3.out, hB⟩
    case round =>
     clear M0 M1 M2 M3 hB
     obtain ⟨k, h, hk, rfl, hd, hs, m0, m1, m2, m3, hB⟩ := hrel
     have M0 := Lib.hid m0; clear m0
     have M1 := Lib.hid m1; clear m1
     have M2 := Lib.hid m2; clear m2
     have M3 := Lib.hid m3; clear m3
     have HE := Lib.hid hd; clear hd
     have HT := Lib.hid hs; clear hs
     by_cases hlk : k < 22
     · have h1 := M0.out.cell i hlt
       have h2 := M1.out.cell k hlk
       have h3 := M3.out.cell (i + k) (by omega)
       have hfz := M3.out.frozen (i + k)
       have x0 := qaE a i
       have x1 := qbl a i
       have y0 := qaE b k
       have y1 := qbl b k
       have hz := HE.out (i + k) (by omega)
       obtain ⟨x, hx⟩ : ∃ x, x = dg 4096 a i := ⟨_, rfl⟩
       obtain ⟨y, hy⟩ : ∃ y, y = dg 4096 b k := ⟨_, rfl⟩
       obtain ⟨z, hzz⟩ : ∃ z, z = h (i + k) := ⟨_, rfl⟩
       rw [← hx] at h1 x0 x1
       rw [← hy] at h2 y0 y1
       rw [← hzz] at h3 hz
       have hxy := mul_bd x y x0 x1 y0 y1
       obtain ⟨xy0, xy1⟩ := hxy
       obtain ⟨z0, z1⟩ := hz
       have Hx := Lib.hid hx; clear hx
       have Hy := Lib.hid hy; clear hy
       have Hz := Lib.hid hzz; clear hzz
       go_wp2_with fail
       go_region
       go_wp2_with fail
       go_roundw
       case measure => simp [RowKit.intOf]; omega
       case rel =>
        refine ⟨k + 1, upd h (i + k) (z + x * y), by omega, by go_num, ?_, ?_, M0.out.other _ _ (by simp <;> omega), M1.out.other _ _ (by simp <;> omega), M2.out.other _ _ (by simp <;> omega), M3.out.set _ _, (hB.setCell (by simp <;> omega) _).drew⟩
        · intro j hj
          by_cases e : j = i + k
          · subst e; rw [qr]; omega
          · rw [qt _ _ _ _ e]; have := HE.out j hj; omega
        · rw [Qm _ _ _ _ _ (by omega), HT.out, ← Hz.out, ← Hx.out]
          simp only [qp]
          rw [← Hy.out, Int.pow_add]
          grind
     · obtain rfl : k = 22 := by omega
       go_wp2_with fail
       go_roundw
       case measure => simp [RowKit.intOf]; omega
       case rel =>
        refine ⟨i + 1, h, by omega, by go_num, fun j hj => by have := HE.out j hj; omega, ?_, M0.out, M1.out, M2.out, M3.out, hB⟩
        rw [HT.out, ← HB2.out]
        simp only [qp]
        rw [Int.add_mul]
  · obtain rfl : i = 22 := by omega
    have HC := Lib.hid (HI.out h0 (fun j hj => by have := HD.out j hj; omega) HS.out)
    go_wp2_with (first | (refine wpList_load_row rfl 176 _ rfl (w.heap.size + 1 + 1 + 1) rfl 176 (row .i64 44 h0) (0, 0) _ M3.out Tryz.underlying176 rfl (by kernel_rfl) ?_))
    refine (qap _ h0 HC.out _).mono ?_
    rintro e w1 ⟨rfl, hb1⟩
    obtain ⟨Z, hZ, m1⟩ := M2.out.below hb1 M2.out.lt
    have P1 := Lib.hid m1; clear m1
    have HZ := Lib.hid hZ; clear hZ
    have HBB := Lib.hid (below_setRow (hB.trans (hb1.mono hB.size)) (w.heap.size + 1 + 1) (r22 (a * b % PP)) (by omega))
    clear hb1
    go_wp2_with (refine wpList_store_row rfl 101 _ _ rfl (w.heap.size + 1 + 1) _ rfl rfl 101 Z P1.out (by rw [qh]; kernel_rfl) (HZ.out.trans (qh _).symm) (qo _ _ _) ?_)
    exact bodyPost_ret (v := .agg (r22 (a * b % PP))) (results_cell_row (t := 101) (by rfl) _ _ (w.heap.size + 1 + 1) _ _ _ rfl (P1.out.setRow _) Tryz.underlying101 rfl (by rw [qh]; kernel_rfl)) rfl ⟨rfl, HBB.out⟩
theorem rminus_any (a b : Nat) (ha : a < PP) (hb : b < PP) (w : World) :
 Calls Tryz.prog 113 #[.agg (r22 a), .agg (r22 b)] w fun e w' => e = .returned (.agg (r22 ((a + (PP - b)) % PP))) ∧ Below w.heap.size w w' := by
 have h22 := qdc
 have hpb : PP - b < 4096 ^ 22 := Nat.lt_of_le_of_lt (Nat.sub_le _ _) h22
 have ha2 := Nat.lt_trans ha h22
 obtain ⟨d, hd⟩ : ∃ d, d = PP - b := ⟨_, rfl⟩
 have hl := fun w => qbc PP b (Nat.le_of_lt hb) h22 w
 rw [← hd] at hl hpb ⊢
 have hp := fun w => qal a d ha2 hpb w
 obtain ⟨r, hr⟩ : ∃ r, r = (a + d) % PP := ⟨_, rfl⟩
 rw [← hr] at hp ⊢
 have HL := Lib.hid hl; clear hl
 have HP := Lib.hid hp; clear hp
 clear hr hd ha hb h22 hpb ha2
 go_enter Tryz.func113, Tryz.ntmps113
 go_wp2_with fail
 refine wp_region_noPanic ?_
 refine QW 5 (by kernel_rfl) ?_
 intro W0 hW0
 have M0 := Lib.hid (show Has W0 w.heap.size (r22 a) 101 by rw [hW0]; exact ((Has.new _ _ _).alloc _).alloc _)
 have M1 := Lib.hid (show Has W0 (w.heap.size + 1) (r22 b) 101 by rw [hW0]; exact (Has.new1 _ _ _ _).alloc _)
 have M2 := Lib.hid (show HasN W0 (w.heap.size + 1 + 1) 22 101 by rw [hW0]; exact HasN.new2 _ _ _ _ _ 22 rfl)
 have HB := Lib.hid (show Below w.heap.size w W0 by rw [hW0]; exact Qz _ _ _ _)
 clear hW0
 refine Qh (i := 0) rfl (by kernel_rfl) (by kernel_rfl) (by kernel_rfl) (by kernel_rfl) (by kernel_rfl) (fun _ _ _ h => h) (qj (by rfl) 101 _ rfl (w.heap.size) rfl 101 (r22 a) (fun _ h => M0.out.below h M0.out.lt) Tryz.underlying101 rfl (by rw [qh]; kernel_rfl)) ((Below.refl _ _).drew) ?_
 (try simp only [Act.put]); (try simp only [List.setIfInBounds_toArray])
 refine Qh (i := 2) rfl (by kernel_rfl) (by kernel_rfl) (by kernel_rfl) (by kernel_rfl) (by kernel_rfl) (fun _ _ _ h => h) (qj (by rfl) 101 _ rfl (w.heap.size + 1) rfl 101 (r22 b) (fun _ h => M1.out.below h M1.out.lt) Tryz.underlying101 rfl (by rw [qh]; kernel_rfl)) ((Below.refl _ _).drew) ?_
 (try simp only [Act.put]); (try simp only [List.setIfInBounds_toArray])
 refine qP (i := 1) (by kernel_rfl) rfl (fun K hK => ?_)
 go_simp
 go_at_call 110
 refine (Zp _).mono ?_
 rintro e wW01 ⟨rfl, hb⟩
 have hkW01 := qf (Below.refl _ _).drew hb
 refine hK.out _ _ (fun _ => hkW01) ?_
 clear hK K hb
 refine qP (i := 3) (by kernel_rfl) rfl (fun K hK => ?_)
 go_simp
 go_at_call 109
 refine (HL.out _).mono ?_
 rintro e wW02 ⟨rfl, hb⟩
 have hkW02 := qf hkW01 hb
 refine hK.out _ _ (fun _ => hkW02) ?_
 clear hK K hb
 refine qP (i := 4) (by kernel_rfl) rfl (fun K hK => ?_)
 go_simp
 go_at_call 112
 refine (HP.out _).mono ?_
 rintro e wW03 ⟨rfl, hb⟩
 have hkW03 := qf hkW02 hb
 refine hK.out _ _ (fun _ => hkW03) ?_
 clear hK K hb
 obtain ⟨Z, hZ, mZ⟩ := M2.out.below hkW03 M2.out.lt
 have MZ := Lib.hid mZ; clear mZ
 have HZ := Lib.hid hZ; clear hZ
 refine qP (i := 5) (by kernel_rfl) rfl (fun K hK => ?_)
 rw [if_pos (by rfl)]
 refine wp_store_row 101 _ _ rfl (w.heap.size + 1 + 1) _ rfl rfl 101 Z MZ.out (by rw [qh]; kernel_rfl) (HZ.out.trans (qh _).symm) (qo _ _ _) ?_
 refine hK.out _ _ (fun h => (h rfl).elim) ?_
 clear hK K
 (try simp only [Act.put]); (try simp only [List.setIfInBounds_toArray])
 refine qD (by kernel_rfl) (NoPanic.normal ?_)
 go_wp2_with fail
 exact bodyPost_ret (v := .agg (r22 r)) (results_cell_row (t := 101) (by rfl) _ _ (w.heap.size + 1 + 1) _ _ _ rfl (MZ.out.setRow _) Tryz.underlying101 rfl (by rw [qh]; kernel_rfl)) rfl ⟨rfl, below_setRow (HB.out.trans (hkW03.mono HB.out.size)) _ _ (by omega)⟩
end
section
open Go.RowKit Go.Lib
def k32 (n : Nat) : Array Value := row .u8 32 (dg 256 n)
theorem qg (n : Nat) : (k32 n).size = 32 := Qc _ _ _
theorem bit8 (n k : Nat) : (n / 256 ^ (k / 8) % 256) / 2 ^ (k % 8) % 2 = n / 2 ^ k % 2 := by
 have e : 2 ^ k = 256 ^ (k / 8) * 2 ^ (k % 8) := by
  rw [show (256 : Nat) = 2 ^ 8 from rfl, ← Nat.pow_mul, ← Nat.pow_add, Nat.div_add_mod]
 rw [e, ← Nat.div_div_eq_div_mul]
 generalize n / 256 ^ (k / 8) = q
 have hr : k % 8 < 8 := Nat.mod_lt _ (by decide)
 generalize k % 8 = r at *
 rcases (show r = 0 ∨ r = 1 ∨ r = 2 ∨ r = 3 ∨ r = 4 ∨ r = 5 ∨ r = 6 ∨ r = 7 by omega) with rfl | rfl | rfl | rfl | rfl | rfl | rfl | rfl <;> simp <;> omega
theorem bit12 (n k : Nat) : (n / 4096 ^ (k / 12) % 4096) / 2 ^ (k % 12) % 2 = n / 2 ^ k % 2 := by
 have e : 2 ^ k = 4096 ^ (k / 12) * 2 ^ (k % 12) := by
  rw [show (4096 : Nat) = 2 ^ 12 from rfl, ← Nat.pow_mul, ← Nat.pow_add, Nat.div_add_mod]
 rw [e, ← Nat.div_div_eq_div_mul]
 generalize n / 4096 ^ (k / 12) = q
 have hr : k % 12 < 12 := Nat.mod_lt _ (by decide)
 generalize k % 12 = r at *
 rcases (show r = 0 ∨ r = 1 ∨ r = 2 ∨ r = 3 ∨ r = 4 ∨ r = 5 ∨ r = 6 ∨ r = 7 ∨ r = 8 ∨ r = 9 ∨ r = 10 ∨ r = 11 by omega) with rfl | rfl | rfl | rfl | rfl | rfl | rfl | rfl | rfl | rfl | rfl | rfl <;> simp <;> omega
theorem pow12 (k : Nat) : (2 : Int) ^ (k % 12) * 4096 ^ (k / 12) = 2 ^ k := by
 rw [show (4096 : Int) = 2 ^ 12 from rfl, ← Int.pow_mul, ← Int.pow_add, Nat.mod_add_div]
theorem ZJ (n k : Nat) : n % 2 ^ (k + 1) = n % 2 ^ k + n / 2 ^ k % 2 * 2 ^ k := by
 rw [Nat.pow_succ, Nat.mod_mul, Nat.mul_comm]
theorem fig_le (B : Int) (hB : 0 < B) (f : Nat → Int) (n i : Nat) (hi : i < n) (h : ∀ j, j < n → 0 ≤ f j) : f i * B ^ i ≤ qp B f n := by
 have h1 := Qm B f n i 0 hi
 have h2 := Qb B hB (upd f i 0) n (fun j hj => by
  by_cases e : j = i
  · subst e; rw [qr]; omega
  · rw [qt _ _ _ _ e]; exact h j hj)
 rw [h1, Int.zero_sub, Int.neg_mul] at h2
 omega
theorem room12 (h : Nat → Int) (n k : Nat) (hk : k < 264) (hd : ∀ j, j < 44 → 0 ≤ h j ∧ h j < 4096) (hs : qp 4096 h 44 = ((n % 2 ^ k : Nat) : Int)) : h (k / 12) < 2 ^ (k % 12) := by
 have h1 := fig_le 4096 (by decide) h 44 (k / 12) (by omega) (fun j hj => (hd j hj).1)
 rw [hs] at h1
 have h2 : ((n % 2 ^ k : Nat) : Int) < 2 ^ k := by
  have : n % 2 ^ k < 2 ^ k := Nat.mod_lt _ (Nat.pow_pos (by decide))
  have e : ((2 ^ k : Nat) : Int) = (2 : Int) ^ k := by rw [Int.natCast_pow]; rfl
  omega
 rw [← pow12 k] at h2
 exact Int.lt_of_mul_lt_mul_right (Int.lt_of_le_of_lt h1 h2) (Int.le_of_lt (Int.pow_pos (by decide)))
theorem pow12_le (k : Nat) : (2 : Int) ^ (k % 12) ≤ 2048 := by
 have hr : k % 12 < 12 := Nat.mod_lt _ (by decide)
 generalize k % 12 = r at *
 rcases (show r = 0 ∨ r = 1 ∨ r = 2 ∨ r = 3 ∨ r = 4 ∨ r = 5 ∨ r = 6 ∨ r = 7 ∨ r = 8 ∨ r = 9 ∨ r = 10 ∨ r = 11 by omega) with rfl | rfl | rfl | rfl | rfl | rfl | rfl | rfl | rfl | rfl | rfl | rfl <;> decide
theorem div_pow_bd (x : Int) (k : Nat) (h0 : 0 ≤ x) (h1 : x < 256) : 0 ≤ x / 2 ^ k ∧ x / 2 ^ k < 256 := by
 have hp : (0 : Int) < 2 ^ k := Int.pow_pos (by decide)
 refine ⟨Int.ediv_nonneg h0 (Int.le_of_lt hp), ?_⟩
 have := Int.ediv_le_self (2 ^ k) h0
 omega
theorem of_inv (n : Nat) (h : Nat → Int) (hd : ∀ j, j < 44 → 0 ≤ h j ∧ h j < 4096) (hs : qp 4096 h 44 = ((n % 2 ^ 255 : Nat) : Int)) : qdo (n % 2 ^ 255) 0 h := by
 refine qaq _ h (fun i hi => by have := hd i hi; omega) hs ?_
 rw [bnd0]
 have : n % 2 ^ 255 < 2 ^ 255 := Nat.mod_lt _ (Nat.pow_pos (by decide))
 have e : (2 : Nat) ^ 255 = 57896044618658097711785492504343953926634992332820282019728792003956564819968 := by decide +kernel
 omega
theorem dbl_le (b v : Int) (j m : Nat) (hb0 : 0 ≤ b) (hb : b ≤ 1) (hj : j < m) (hm : (2 : Int) ^ m ≤ 2048) (hv : v = b * 2 ^ j) : 0 ≤ v ∧ v ≤ 1024 := by
 have hp : (0 : Int) < 2 ^ j := Int.pow_pos (by decide)
 have h2 : (2 : Int) ^ (j + 1) ≤ 2 ^ m := by
  obtain ⟨d, rfl⟩ : ∃ d, m = j + 1 + d := ⟨m - (j + 1), by omega⟩
  rw [Int.pow_add 2 (j + 1) d]
  have hd : (1 : Int) ≤ 2 ^ d := by have : (0 : Int) < 2 ^ d := Int.pow_pos (by decide); omega
  have h3 : (2 : Int) ^ (j + 1) * 1 ≤ 2 ^ (j + 1) * 2 ^ d := Int.mul_le_mul_of_nonneg_left hd (Int.le_of_lt (Int.pow_pos (by decide)))
  omega
 rw [Int.pow_succ] at h2
 rcases (show b = 0 ∨ b = 1 by omega) with rfl | rfl
 · rw [hv]; simp
 · rw [hv]; omega
theorem ofbit (n k : Nat) (x : Int) (hx : x = dg 256 n (k / 8)) : x / 2 ^ (k % 8) % 2 = ((n / 2 ^ k % 2 : Nat) : Int) := by
 rw [hx, dg, ← bit8 n k]
 norm_cast
theorem rof_any (n : Nat) (w : World) :
 Calls Tryz.prog 80 #[.agg (k32 n)] w fun e w' => e = .returned (.agg (r22 (n % 2 ^ 255 % PP))) ∧ Below w.heap.size w w' := by
 have HI := Lib.hid (of_inv n)
 obtain ⟨m, hm⟩ : ∃ m, m = n % 2 ^ 255 := ⟨_, rfl⟩
 obtain ⟨r, hr⟩ : ∃ r, r = m % PP := ⟨_, rfl⟩
 have hle := fun h hi w => qap m h hi w
 rw [← hm] at HI ⊢
 rw [← hr] at hle ⊢
 have Hle := Lib.hid hle; clear hle
 have Hm := Lib.hid hm; clear hm
 clear hr
 go_enter Tryz.func80, Tryz.ntmps80
 go_wp2_with fail
 go_loopw [4] (fun i wr => ∃ (k : Nat) (h : Nat → Int), k ≤ 255 ∧ i = .int .i64 k ∧ (∀ j, j < 44 → 0 ≤ h j ∧ h j < 4096) ∧ qp 4096 h 44 = ((n % 2 ^ k : Nat) : Int) ∧ Has wr w.heap.size (k32 n) 36 ∧ HasN wr (w.heap.size + 1) 22 101 ∧ Has wr (w.heap.size + 1 + 1) (row .i64 44 h) 176 ∧ Below w.heap.size w wr) (fun i _ => 255 - (RowKit.intOf i).toNat)
 case atStart => exact ⟨0, fun _ => 0, by omega, rfl, fun j hj => by simp, by rw [Q8 _ _ _ (fun _ _ => rfl)]; simp [Nat.mod_one], ((Has.new _ _ _).alloc _).alloc _, (HasN.new1 _ _ _ _ 22 rfl).alloc _, Has.new2 _ _ _ _ _, Qz _ _ _ _⟩
 case round =>
  obtain ⟨k, h, hk, rfl, hd, hs, m0, m1, m2, hB⟩ := hrel
  have M0 := Lib.hid m0; clear m0
  have M1 := Lib.hid m1; clear m1
  have M2 := Lib.hid m2; clear m2
  have Hd := Lib.hid hd; clear hd
  have Hs := Lib.hid hs; clear hs
  by_cases hlt : k < 255
  · have h1 := M0.out.cell (k / 8) (by omega)
    have x0 := (Zd 256 n (k / 8) (by decide)).1
    have x1 := (Zd 256 n (k / 8) (by decide)).2
    obtain ⟨x, hx⟩ : ∃ x, x = dg 256 n (k / 8) := ⟨_, rfl⟩
    rw [← hx] at h1 x0 x1
    have hbit := ofbit n k x hx
    have k0 : (0 : Int) ≤ (k : Int) % 8 := by omega
    have k1 : (k : Int) % 8 < 8 := by omega
    have k2 : (0 : Int) ≤ (k : Int) / 8 := by omega
    have k3 : (k : Int) / 8 < 32 := by omega
    obtain ⟨s0, s1⟩ := div_pow_bd x (k % 8) x0 x1
    have Hx := Lib.hid hx; clear hx
    have Hbit := Lib.hid hbit; clear hbit
    go_wp2_with fail
    obtain ⟨b, hb⟩ : ∃ b, b = x / 2 ^ (k % 8) % 2 := ⟨_, rfl⟩
    rw [← hb]
    have b0 : 0 ≤ b := by omega
    have b1 : b ≤ 1 := by omega
    have hbn : b = ((n / 2 ^ k % 2 : Nat) : Int) := hb.trans Hbit.out
    have hp12 := pow12_le k
    have Hb := Lib.hid hb; clear hb
    have Hbn := Lib.hid hbn; clear hbn
    have Hp12 := Lib.hid hp12; clear hp12
    clear h1 Hbit s0 s1
    obtain ⟨wo, rfl⟩ : ∃ wo : World, wo = wr := ⟨_, rfl⟩
    go_loop [5, 6] (fun t i => ∃ (j : Nat) (v : Int), j ≤ k % 12 ∧ i = .int .i64 j ∧ t = .int .i64 v ∧ v = b * 2 ^ j) (fun _ i => k % 12 - (RowKit.intOf i).toNat)
    case atStart => exact ⟨0, b, by omega, rfl, rfl, by simp⟩
    case round =>
     obtain ⟨j, v, hj, rfl, rfl, hv⟩ := hrel
     by_cases hjl : j < k % 12
     · have hvb := dbl_le b v j (k % 12) b0 b1 hjl Hp12.out hv
       obtain ⟨v0, v1⟩ := hvb
       have hj2 : (j : Int) < (k : Int) % 12 := by omega
       have Hv := Lib.hid hv; clear hv
       go_wp2_with fail
       go_round
       case measure => simp [RowKit.intOf]; omega
       case rel => exact ⟨j + 1, 2 * v, by omega, by go_num, rfl, by rw [Hv.out, Int.pow_succ, Int.mul_comm 2, Int.mul_assoc]⟩
     · obtain rfl : j = k % 12 := by omega
       have hj2 : (k : Int) % 12 ≤ (((k % 12 : Nat) : Int)) := by omega
       have h2 := M2.out.cell (k / 12) (by omega)
       have hfz := M2.out.frozen (k / 12)
       have hy := room12 h n k (by omega) Hd.out Hs.out
       have hy0 := (Hd.out (k / 12) (by omega)).1
       obtain ⟨y, hyy⟩ : ∃ y, y = h (k / 12) := ⟨_, rfl⟩
       rw [← hyy] at h2 hy hy0
       have hvle : v ≤ 2 ^ (k % 12) := by
        have hpp : (0 : Int) < 2 ^ (k % 12) := Int.pow_pos (by decide)
        rcases (show b = 0 ∨ b = 1 by omega) with e | e
        · rw [hv, e]; omega
        · rw [hv, e]; omega
       have hv0 : 0 ≤ v := by
        have hpp : (0 : Int) < 2 ^ (k % 12) := Int.pow_pos (by decide)
        rcases (show b = 0 ∨ b = 1 by omega) with e | e
        · rw [hv, e]; omega
        · rw [hv, e]; omega
       have hyv : y + v < 4096 := by have := Hp12.out; omega
       clear hy hvle
       have k4 : (0 : Int) ≤ (k : Int) / 12 := by omega
       have k5 : (k : Int) / 12 < 44 := by omega
       have Hv := Lib.hid hv; clear hv
       have Hyy := Lib.hid hyy; clear hyy
       go_wp2_with fail
       go_roundw
       case measure => simp [RowKit.intOf]; omega
       case rel =>
        refine ⟨k + 1, upd h (k / 12) (y + v), by omega, by go_num, ?_, ?_, M0.out.other _ _ (by simp <;> omega), M1.out.other _ _ (by simp <;> omega), M2.out.set _ _, hB.setCell (by simp <;> omega) _⟩
        · intro j hj
          by_cases e : j = k / 12
          · subst e; rw [qr]; omega
          · rw [qt _ _ _ _ e]; exact Hd.out j hj
        · rw [Qm _ _ _ _ _ (by omega), Hs.out, ZJ, ← Hyy.out, Hv.out, Hbn.out]
          have e := pow12 k
          have e2 : ((n % 2 ^ k + n / 2 ^ k % 2 * 2 ^ k : Nat) : Int) = ((n % 2 ^ k : Nat) : Int) + ((n / 2 ^ k % 2 : Nat) : Int) * 2 ^ k := by
           rw [Int.natCast_add, Int.natCast_mul, Int.natCast_pow]; rfl
          rw [e2, ← e]
          generalize ((n / 2 ^ k % 2 : Nat) : Int) = B
          generalize (2 : Int) ^ (k % 12) = U
          generalize (4096 : Int) ^ (k / 12) = V
          grind
  · obtain rfl : k = 255 := by omega
    have HC := Lib.hid (HI.out h Hd.out (by rw [Hs.out, ← Hm.out]))
    go_wp2_with (first | (refine wpList_load_row rfl 176 _ rfl (w.heap.size + 1 + 1) rfl 176 (row .i64 44 h) (0, 0) _ M2.out Tryz.underlying176 rfl (by rw [Qc]; kernel_rfl) ?_))
    refine (Hle.out h HC.out _).mono ?_
    rintro e w1 ⟨rfl, hb1⟩
    obtain ⟨Z, hZ, mz⟩ := M1.out.below hb1 M1.out.lt
    have HBB := Lib.hid (below_setRow (hB.trans (hb1.mono hB.size)) (w.heap.size + 1) (r22 r) (by omega))
    clear hb1
    have Mz := Lib.hid mz; clear mz
    have HZ := Lib.hid hZ; clear hZ
    go_wp2_with (refine wpList_store_row rfl 101 _ _ rfl (w.heap.size + 1) _ rfl rfl 101 Z Mz.out (by rw [qh]; kernel_rfl) (HZ.out.trans (qh _).symm) (qo _ _ _) ?_)
    exact bodyPost_ret (v := .agg (r22 r)) (results_cell_row (t := 101) (by rfl) _ _ (w.heap.size + 1) _ _ _ rfl (Mz.out.setRow _) Tryz.underlying101 rfl (by rw [qh]; kernel_rfl)) rfl ⟨rfl, HBB.out⟩
end
section
open Go.RowKit Go.Lib
theorem pow8 (k : Nat) : (2 : Int) ^ (k % 8) * 256 ^ (k / 8) = 2 ^ k := by
 rw [show (256 : Int) = 2 ^ 8 from rfl, ← Int.pow_mul, ← Int.pow_add, Nat.mod_add_div]
theorem pow8_le (k : Nat) : (2 : Int) ^ (k % 8) ≤ 128 ∧ (0 : Int) < 2 ^ (k % 8) := by
 refine ⟨?_, Int.pow_pos (by decide)⟩
 have hr : k % 8 < 8 := Nat.mod_lt _ (by decide)
 generalize k % 8 = r at *
 rcases (show r = 0 ∨ r = 1 ∨ r = 2 ∨ r = 3 ∨ r = 4 ∨ r = 5 ∨ r = 6 ∨ r = 7 by omega) with rfl | rfl | rfl | rfl | rfl | rfl | rfl | rfl <;> decide
theorem room8 (h : Nat → Int) (n k : Nat) (hk : k < 256) (hd : ∀ j, j < 32 → 0 ≤ h j ∧ h j < 256) (hs : qp 256 h 32 = ((n % 2 ^ k : Nat) : Int)) : h (k / 8) < 2 ^ (k % 8) := by
 have h1 := fig_le 256 (by decide) h 32 (k / 8) (by omega) (fun j hj => (hd j hj).1)
 rw [hs] at h1
 have h2 : ((n % 2 ^ k : Nat) : Int) < 2 ^ k := by
  have : n % 2 ^ k < 2 ^ k := Nat.mod_lt _ (Nat.pow_pos (by decide))
  have e : ((2 ^ k : Nat) : Int) = (2 : Int) ^ k := by rw [Int.natCast_pow]; rfl
  omega
 rw [← pow8 k] at h2
 exact Int.lt_of_mul_lt_mul_right (Int.lt_of_le_of_lt h1 h2) (Int.le_of_lt (Int.pow_pos (by decide)))
theorem qbk (x : Int) (k : Nat) (h0 : 0 ≤ x) (h1 : x ≤ 4095) : 0 ≤ x / 2 ^ k ∧ x / 2 ^ k ≤ 4095 := by
 have hp : (0 : Int) < 2 ^ k := Int.pow_pos (by decide)
 refine ⟨Int.ediv_nonneg h0 (Int.le_of_lt hp), ?_⟩
 have := Int.ediv_le_self (2 ^ k) h0
 omega
theorem bitr (n k : Nat) (x : Int) (hx : x = dg 4096 n (k / 12)) : x / 2 ^ (k % 12) % 2 = ((n / 2 ^ k % 2 : Nat) : Int) := by
 rw [hx, dg, ← bit12 n k]
 norm_cast
theorem key_end (n : Nat) (hn : n < 2 ^ 256) (h : Nat → Int) (hd : ∀ j, j < 32 → 0 ≤ h j ∧ h j < 256) (hs : qp 256 h 32 = ((n % 2 ^ 256 : Nat) : Int)) : row .u8 32 h = k32 n := by
 rw [Nat.mod_eq_of_lt hn] at hs
 exact q7 _ _ _ _ (zm 256 h n 32 hd hs)
theorem rkey_any (n : Nat) (hn : n < 2 ^ 256) (w : World) :
 Calls Tryz.prog 76 #[.agg (r22 n)] w fun e w' => e = .returned (.agg (k32 n)) ∧ Below w.heap.size w w' := by
 have HE := Lib.hid (key_end n hn); clear hn
 go_enter Tryz.func76, Tryz.ntmps76
 go_wp2_with fail
 go_loopw [4] (fun i wr => ∃ (k : Nat) (h : Nat → Int), k ≤ 256 ∧ i = .int .i64 k ∧ (∀ j, j < 32 → 0 ≤ h j ∧ h j < 256) ∧ qp 256 h 32 = ((n % 2 ^ k : Nat) : Int) ∧ Has wr w.heap.size (r22 n) 101 ∧ HasN wr (w.heap.size + 1) 32 36 ∧ Has wr (w.heap.size + 1 + 1) (row .u8 32 h) 36 ∧ Below w.heap.size w wr) (fun i _ => 256 - (RowKit.intOf i).toNat)
 case atStart => exact ⟨0, fun _ => 0, by omega, rfl, fun j hj => by simp, by rw [Q8 _ _ _ (fun _ _ => rfl)]; simp [Nat.mod_one], ((Has.new _ _ _).alloc _).alloc _, (HasN.new1 _ _ _ _ 32 rfl).alloc _, Has.new2 _ _ _ _ _, Qz _ _ _ _⟩
 case round =>
  obtain ⟨k, h, hk, rfl, hd, hs, m0, m1, m2, hB⟩ := hrel
  have M0 := Lib.hid m0; clear m0
  have M1 := Lib.hid m1; clear m1
  have M2 := Lib.hid m2; clear m2
  have Hd := Lib.hid hd; clear hd
  have Hs := Lib.hid hs; clear hs
  by_cases hlt : k < 256
  · have h1 := M0.out.cell (k / 12) (by omega)
    have x0 := qaE n (k / 12)
    have x1 := qbl n (k / 12)
    obtain ⟨x, hx⟩ : ∃ x, x = dg 4096 n (k / 12) := ⟨_, rfl⟩
    rw [← hx] at h1 x0 x1
    have hbit := bitr n k x hx
    have k0 : (0 : Int) ≤ (k : Int) % 12 := by omega
    have k1 : (k : Int) % 12 < 12 := by omega
    have k2 : (0 : Int) ≤ (k : Int) / 12 := by omega
    have k3 : (k : Int) / 12 < 22 := by omega
    have k4 : (0 : Int) ≤ (k : Int) % 8 := by omega
    have k5 : (k : Int) % 8 < 8 := by omega
    have k6 : (0 : Int) ≤ (k : Int) / 8 := by omega
    have k7 : (k : Int) / 8 < 32 := by omega
    obtain ⟨s0, s1⟩ := qbk x (k % 12) x0 x1
    have h2 := M2.out.cell (k / 8) (by omega)
    have hfz := M2.out.frozen (k / 8)
    have hy := room8 h n k hlt Hd.out Hs.out
    have hy0 := (Hd.out (k / 8) (by omega)).1
    obtain ⟨y, hyy⟩ : ∃ y, y = h (k / 8) := ⟨_, rfl⟩
    rw [← hyy] at h2 hy hy0
    have hp8 := (pow8_le k).1
    have hp80 := (pow8_le k).2
    have Hx := Lib.hid hx; clear hx
    have Hbit := Lib.hid hbit; clear hbit
    have Hyy := Lib.hid hyy; clear hyy
    by_cases hb1 : x / 2 ^ (k % 12) % 2 = 1
    · have ht : (x / 2 ^ (k % 12) % 2 == 1) = true := by simp [hb1]
      have Hb1 := Lib.hid hb1; clear hb1
      go_wp2_with fail
      go_roundw
      case measure => simp [RowKit.intOf]; omega
      case rel =>
       refine ⟨k + 1, upd h (k / 8) (y + 2 ^ (k % 8)), by omega, by go_num, ?_, ?_, M0.out.other _ _ (by simp <;> omega), M1.out.other _ _ (by simp <;> omega), M2.out.set _ _, hB.setCell (by simp <;> omega) _⟩
       · intro j hj
         by_cases e : j = k / 8
         · subst e; rw [qr]; omega
         · rw [qt _ _ _ _ e]; exact Hd.out j hj
       · have hb2 : ((n / 2 ^ k % 2 : Nat) : Int) = 1 := Hbit.out.symm.trans Hb1.out
         rw [Qm _ _ _ _ _ (by omega), Hs.out, ZJ, ← Hyy.out]
         have e := pow8 k
         have e2 : ((n % 2 ^ k + n / 2 ^ k % 2 * 2 ^ k : Nat) : Int) = ((n % 2 ^ k : Nat) : Int) + ((n / 2 ^ k % 2 : Nat) : Int) * 2 ^ k := by
          rw [Int.natCast_add, Int.natCast_mul, Int.natCast_pow]; rfl
         rw [e2, hb2, ← e]
         generalize (2 : Int) ^ (k % 8) = U
         generalize (256 : Int) ^ (k / 8) = V
         grind
    · have ht : (x / 2 ^ (k % 12) % 2 == 1) = false := by simp [hb1]
      have hb0 : x / 2 ^ (k % 12) % 2 = 0 := by omega
      clear hb1
      have Hb0 := Lib.hid hb0; clear hb0
      go_wp2_with fail
      go_roundw
      case measure => simp [RowKit.intOf]; omega
      case rel =>
       refine ⟨k + 1, h, by omega, by go_num, Hd.out, ?_, M0.out, M1.out, M2.out, hB⟩
       have hb2 : n / 2 ^ k % 2 = 0 := by have := Hbit.out.symm.trans Hb0.out; omega
       rw [Hs.out, ZJ, hb2, Nat.zero_mul, Nat.add_zero]
  · obtain rfl : k = 256 := by omega
    have m2 := M2.out
    rw [HE.out h Hd.out Hs.out] at m2
    obtain ⟨Z, hZ, mz⟩ := M1.out
    have M2 := Lib.hid m2; clear m2
    have Mz := Lib.hid mz; clear mz
    have HZ := Lib.hid hZ; clear hZ
    go_wp2_with (first | (refine wpList_load_row rfl 36 _ rfl (w.heap.size + 1 + 1) rfl 36 (k32 n) (0, 0) _ M2.out Tryz.underlying36 rfl (by rw [qg]; kernel_rfl) ?_) | (refine wpList_store_row rfl 36 _ _ rfl (w.heap.size + 1) _ rfl rfl 36 Z Mz.out (by rw [qg]; kernel_rfl) (HZ.out.trans (qg _).symm) (qo _ _ _) ?_))
    exact bodyPost_ret (v := .agg (k32 n)) (results_cell_row (t := 36) (by rfl) _ _ (w.heap.size + 1) _ _ _ rfl (Mz.out.setRow _) Tryz.underlying36 rfl (by rw [qg]; kernel_rfl)) rfl ⟨rfl, below_setRow hB _ _ (by omega)⟩
theorem div_succ (n k : Nat) : n / 4096 ^ (k + 1) = n / 4096 ^ k / 4096 := by rw [Nat.pow_succ, Nat.div_div_eq_div_mul]
theorem int_inv (n : Nat) (hn : n < 9223372036854775808) (h : Nat → Int) (hl : ∀ j, j < 6 → h j = dg 4096 n j) (hh : ∀ j, 6 ≤ j → h j = 0) : qdo n 0 h := by
 have hz : ∀ j, 6 ≤ j → dg 4096 n j = 0 := by
  intro j hj
  unfold dg
  have : n < 4096 ^ j := Nat.lt_of_lt_of_le (Nat.lt_of_lt_of_le hn (by decide)) (Nat.pow_le_pow_right (by decide) hj)
  rw [Nat.div_eq_of_lt this]; rfl
 have he : ∀ j, h j = dg 4096 n j := fun j => by
  by_cases hj : j < 6
  · exact hl j hj
  · rw [hh j (by omega), hz j (by omega)]
 refine qaq _ h (fun i _ => ?_) ?_ ?_
 · rw [he i]; have a := qaE n i; have b := qbl n i; omega
 · rw [Q6 4096 h (dg 4096 n) 44 (fun i _ => he i)]
   have := QZ 4096 n 44
   rw [Nat.mod_eq_of_lt (Nat.lt_of_lt_of_le hn (by decide +kernel))] at this
   exact this
 · rw [bnd0]; omega
theorem qb8 (n : Nat) (hn : n < 9223372036854775808) (w : World) :
 Calls Tryz.prog 81 #[.int .i64 n] w fun e w' => e = .returned (.agg (r22 (n % PP))) ∧ Below w.heap.size w w' := by
 have HI := Lib.hid (int_inv n hn)
 have hq0 : n / 4096 ^ 0 < 9223372036854775808 := by simpa using hn
 have hend : n / 4096 ^ 6 = 0 := Nat.div_eq_of_lt (Nat.lt_of_lt_of_le hn (by decide))
 obtain ⟨r, hr⟩ : ∃ r, r = n % PP := ⟨_, rfl⟩
 have hle := fun h hi w => qap n h hi w
 rw [← hr] at hle ⊢
 have hdl : ∀ k, n / 4096 ^ k ≤ n := fun k => Nat.div_le_self _ _
 have Hle := Lib.hid hle; clear hle
 have Hend := Lib.hid hend; clear hend
 have Hq0 := Lib.hid hq0; clear hq0
 have Hdl := Lib.hid hdl; clear hdl
 clear hr
 go_enter Tryz.func81, Tryz.ntmps81
 go_wp2_with fail
 go_loopw [0, 4] (fun q i wr => ∃ (k : Nat) (h : Nat → Int), k ≤ 6 ∧ i = .int .i64 k ∧ q = .int .i64 ((n / 4096 ^ k : Nat) : Int) ∧ (∀ j, j < k → h j = dg 4096 n j) ∧ (∀ j, k ≤ j → h j = 0) ∧ HasN wr w.heap.size 22 101 ∧ Has wr (w.heap.size + 1) (row .i64 44 h) 176 ∧ Below w.heap.size w wr) (fun _ i _ => 6 - (RowKit.intOf i).toNat)
 case atStart => exact ⟨0, fun _ => 0, by omega, rfl, by simp, fun j hj => by omega, fun _ _ => rfl, (HasN.new _ _ _ 22 rfl).alloc _, Has.new1 _ _ _ _, Qp _ _ _⟩
 case round =>
  obtain ⟨k, h, hk, rfl, rfl, hl, hh, m0, m1, hB⟩ := hrel
  have M0 := Lib.hid m0; clear m0
  have M1 := Lib.hid m1; clear m1
  have Hl := Lib.hid hl; clear hl
  have Hh := Lib.hid hh; clear hh
  by_cases hlt : k < 6
  · have h2 := M1.out.cell k (by omega)
    have hfz := M1.out.frozen k
    have hq1 := Hdl.out k
    have hfig : ((n / 4096 ^ k : Nat) : Int) % 4096 = dg 4096 n k := by unfold dg; omega
    have hnx : ((n / 4096 ^ k : Nat) : Int) / 4096 = ((n / 4096 ^ (k + 1) : Nat) : Int) := by rw [div_succ]; omega
    obtain ⟨q, hq⟩ : ∃ q, q = n / 4096 ^ k := ⟨_, rfl⟩
    rw [← hq] at hq1 hfig hnx
    rw [← hq]
    have Hq := Lib.hid hq; clear hq
    have Hfig := Lib.hid hfig; clear hfig
    have Hnx := Lib.hid hnx; clear hnx
    go_wp2_with fail
    go_roundw
    case measure => simp [RowKit.intOf]; omega
    case rel =>
     refine ⟨k + 1, upd h k ((q : Int) % 4096), by omega, by go_num, by rw [← Hnx.out], ?_, ?_, M0.out.other _ _ (by simp <;> omega), M1.out.set _ _, hB.setCell (by simp <;> omega) _⟩
     · intro j hj
       by_cases e : j = k
       · subst e; rw [qr, Hfig.out]
       · rw [qt _ _ _ _ e]; exact Hl.out j (by omega)
     · intro j hj; rw [qt _ _ _ _ (by omega)]; exact Hh.out j (by omega)
  · obtain rfl : k = 6 := by omega
    have HC := Lib.hid (HI.out h Hl.out Hh.out)
    go_wp2_with (first | (refine wpList_load_row rfl 176 _ rfl (w.heap.size + 1) rfl 176 (row .i64 44 h) (0, 0) _ M1.out Tryz.underlying176 rfl (by rw [Qc]; kernel_rfl) ?_))
    refine (Hle.out h HC.out _).mono ?_
    rintro e w1 ⟨rfl, hb1⟩
    obtain ⟨Z, hZ, mz⟩ := M0.out.below hb1 M0.out.lt
    have HBB := Lib.hid (below_setRow (hB.trans (hb1.mono hB.size)) w.heap.size (r22 r) (by omega))
    clear hb1
    have Mz := Lib.hid mz; clear mz
    have HZ := Lib.hid hZ; clear hZ
    go_wp2_with (refine wpList_store_row rfl 101 _ _ rfl (w.heap.size) _ rfl rfl 101 Z Mz.out (by rw [qh]; kernel_rfl) (HZ.out.trans (qh _).symm) (qo _ _ _) ?_)
    exact bodyPost_ret (v := .agg (r22 r)) (results_cell_row (t := 101) (by rfl) _ _ (w.heap.size) _ _ _ rfl (Mz.out.setRow _) Tryz.underlying101 rfl (by rw [qh]; kernel_rfl)) rfl ⟨rfl, HBB.out⟩
end
section
open Go.RowKit Go.Lib
theorem QF : PP = 57896044618658097711785492504343953926634992332820282019728792003956564819949 := rfl
theorem int_num (n : Int) (m : Nat) (h : n = -(m : Int) - 1) : ((0 + (PP - m % PP)) % PP + (PP - 1 % PP)) % PP = (n % (PP : Int)).toNat := by
 subst h
 have hp := QF
 have hpos := qG
 have hlt := Nat.mod_lt m hpos
 have hdm := Nat.div_add_mod m PP
 generalize m % PP = r at *
 generalize m / PP = q at *
 subst hdm
 have e1 : 1 % PP = 1 := by decide +kernel
 rw [e1]
 have e2 : (-((PP * q + r : Nat) : Int) - 1) = (-(r : Int) - 1) + (PP : Int) * (-(q : Int)) := by
  rw [Int.natCast_add, Int.natCast_mul, Int.mul_neg]; omega
 rw [e2, Int.add_mul_emod_self_left]
 rw [hp] at *
 omega
theorem pow_next (a e k x b : Nat) (hx : x = a ^ (e / 2 ^ (k + 1)) % PP) (hb : b = e / 2 ^ k % 2) : (if b = 1 then x * x % PP * a % PP else x * x % PP) = a ^ (e / 2 ^ k) % PP := by
 have h1 : e / 2 ^ k = 2 * (e / 2 ^ (k + 1)) + b := by
  rw [hb, Nat.pow_succ, ← Nat.div_div_eq_div_mul]; omega
 have hb2 : b < 2 := by rw [hb]; exact Nat.mod_lt _ (by decide)
 rw [h1, hx]
 generalize e / 2 ^ (k + 1) = E
 clear h1 hx hb
 have h2 : a ^ E % PP * (a ^ E % PP) % PP = a ^ (2 * E) % PP := by rw [← Nat.mul_mod, Nat.two_mul, Nat.pow_add]
 rw [h2]
 rcases (show b = 0 ∨ b = 1 by omega) with h0 | h0
 · rw [if_neg (by omega), h0]; rfl
 · rw [if_pos h0, h0, Nat.mod_mul_mod]; rfl
theorem rpower_any (a e : Nat) (ha : a < PP) (he : e < 2 ^ 255) (w : World) :
 Calls Tryz.prog 108 #[.agg (r22 a), .agg (r22 e)] w fun en w' => en = .returned (.agg (r22 (a ^ e % PP))) ∧ Below w.heap.size w w' := by
 have he0 : a ^ (e / 2 ^ 0) % PP = a ^ e % PP := by rw [Nat.pow_zero, Nat.div_one]
 have he1 : a ^ (e / 2 ^ 255) % PP = 1 % PP := by rw [Nat.div_eq_of_lt he, Nat.pow_zero]
 have hnx := pow_next a e
 have ht := fun x y hx hy w => q4 x y hx hy w
 have hc1 := fun w => qb8 1 (by omega) w
 have He0 := Lib.hid he0; clear he0
 have He1 := Lib.hid he1; clear he1
 have Hnx := Lib.hid hnx; clear hnx
 have Ht := Lib.hid ht; clear ht
 have Hc1 := Lib.hid hc1; clear hc1
 have Ha := Lib.hid ha; clear ha
 have He := Lib.hid he; clear he
 go_enter Tryz.func108, Tryz.ntmps108
 go_wp2_with fail
 refine (Hc1.out _).mono ?_
 rintro en w1 ⟨rfl, b1⟩
 have m0 := (((Has.new w (r22 a) 101).alloc (.cells (r22 e) 101)).alloc (.cells (row .i64 22 fun _ => 0) 101)).call b1
 have m1 := ((Has.new1 w (.cells (r22 a) 101) (r22 e) 101).alloc (.cells (row .i64 22 fun _ => 0) 101)).call b1
 have m2 := (HasN.new2 w (.cells (r22 a) 101) (.cells (r22 e) 101) (row .i64 22 fun _ => 0) 101 22 (Qc _ _ _)).call b1
 have hB := qf (Qz w (.cells (r22 a) 101) (.cells (r22 e) 101) (.cells (row .i64 22 fun _ => 0) 101)) b1
 clear b1
 have h1r : (1 % PP) < PP := Nat.mod_lt _ qG
 obtain ⟨o, ho⟩ : ∃ o, o = 1 % PP := ⟨_, rfl⟩
 rw [← ho] at h1r ⊢
 have M0 := Lib.hid m0; clear m0
 have M1 := Lib.hid m1; clear m1
 have M2 := Lib.hid m2; clear m2
 have HB := Lib.hid hB; clear hB
 have H1r := Lib.hid h1r; clear h1r
 have Ho := Lib.hid ho; clear ho
 obtain ⟨Z, hZ, mz⟩ := HasN.new w1 (row .i64 22 fun _ => 0) 101 22 (Qc _ _ _)
 have q0 := (M0.out.alloc (.cells (row .i64 22 fun _ => 0) 101)).setRow_other w1.heap.size (r22 o) (by have := M0.out.lt; omega)
 have q1 := (M1.out.alloc (.cells (row .i64 22 fun _ => 0) 101)).setRow_other w1.heap.size (r22 o) (by have := M1.out.lt; omega)
 have q2 := (M2.out.alloc (.cells (row .i64 22 fun _ => 0) 101)).setRow_other w1.heap.size (r22 o) (by have := M2.out.lt; omega)
 have q3 := mz.setRow (r22 o)
 have hB2 := below_setRow (HB.out.alloc HB.out.size (.cells (row .i64 22 fun _ => 0) 101)) w1.heap.size (r22 o) HB.out.size
 have hlt3 := M2.out.lt
 have Mz := Lib.hid mz; clear mz
 have HZ := Lib.hid hZ; clear hZ
 have Q0 := Lib.hid q0; clear q0
 have Q1 := Lib.hid q1; clear q1
 have Q2 := Lib.hid q2; clear q2
 have Q3 := Lib.hid q3; clear q3
 have HB2 := Lib.hid hB2; clear hB2
 clear M0 M1 M2 HB
 go_wp2_with (refine wpList_store_row rfl 101 _ _ rfl (w1.heap.size) _ rfl rfl 101 Z Mz.out (by rw [qh]; kernel_rfl) (HZ.out.trans (qh _).symm) (qo _ _ _) ?_)
 clear Mz HZ
 go_loopw [6] (fun i wr => ∃ (k x : Nat), k ≤ 255 ∧ i = .int .i64 ((k : Int) - 1) ∧ x < PP ∧ x = a ^ (e / 2 ^ k) % PP ∧ Has wr w.heap.size (r22 a) 101 ∧ Has wr (w.heap.size + 1) (r22 e) 101 ∧ HasN wr (w.heap.size + 1 + 1) 22 101 ∧ Has wr w1.heap.size (r22 x) 101 ∧ Below w.heap.size w wr) (fun i _ => (RowKit.intOf i + 1).toNat)
 case atStart => exact ⟨255, o, by omega, rfl, H1r.out, by rw [He1.out, Ho.out], Q0.out, Q1.out, Q2.out, Q3.out, HB2.out⟩
 case round =>
  clear Q0 Q1 Q2 Q3 HB2
  obtain ⟨k, x, hk, rfl, hxp, hx, m0, m1, m2, m3, hB⟩ := hrel
  have M0 := Lib.hid m0; clear m0
  have M1 := Lib.hid m1; clear m1
  have M2 := Lib.hid m2; clear m2
  have M3 := Lib.hid m3; clear m3
  have HB := Lib.hid hB; clear hB
  have Hxp := Lib.hid hxp; clear hxp
  have Hx := Lib.hid hx; clear hx
  by_cases hlt : 0 < k
  · obtain ⟨k, rfl⟩ : ∃ j, k = j + 1 := ⟨k - 1, by omega⟩
    rw [show (((k + 1 : Nat) : Int) - 1) = (k : Int) by omega]
    go_wp2_with (refine wpList_load_row rfl 101 _ rfl (w1.heap.size) rfl 101 (r22 x) (0, 0) _ M3.out Tryz.underlying101 rfl (by rw [qh]; kernel_rfl) ?_)
    have hy0 : x * x % PP < PP := Nat.mod_lt _ qG
    obtain ⟨y, hy⟩ : ∃ y, y = x * x % PP := ⟨_, rfl⟩
    have hc := fun w => Ht.out x x Hxp.out Hxp.out w
    rw [← hy] at hc hy0
    have Hc := Lib.hid hc; clear hc
    have Hy := Lib.hid hy; clear hy
    have Hy0 := Lib.hid hy0; clear hy0
    refine (Hc.out _).mono ?_
    rintro en w2 ⟨rfl, b2⟩
    have m0 := M0.out.call b2
    have m1 := M1.out.call b2
    have m2 := M2.out.call b2
    obtain ⟨Z, hZ, mz⟩ := (M3.out.toN (qh _)).call b2
    have hB2 := qf HB.out b2
    have q0 := m0.setRow_other w1.heap.size (r22 y) (by omega)
    have q1 := m1.setRow_other w1.heap.size (r22 y) (by omega)
    have q2 := m2.setRow_other w1.heap.size (r22 y) (by omega)
    have q3 := mz.setRow (r22 y)
    have hB3 := below_setRow hB2 w1.heap.size (r22 y) (by omega)
    clear m0 m1 m2 b2 hB2
    clear M0 M1 M2 M3 HB Hc
    have h1 := q1.cell (k / 12) (by omega)
    have x0 := qaE e (k / 12)
    have x1 := qbl e (k / 12)
    obtain ⟨z, hz⟩ : ∃ z, z = dg 4096 e (k / 12) := ⟨_, rfl⟩
    rw [← hz] at h1 x0 x1
    have hbit := bitr e k z hz
    have k0 : (0 : Int) ≤ (k : Int) % 12 := by omega
    have k1 : (k : Int) % 12 < 12 := by omega
    have k2 : (0 : Int) ≤ (k : Int) / 12 := by omega
    have k3 : (k : Int) / 12 < 22 := by omega
    obtain ⟨s0, s1⟩ := qbk z (k % 12) x0 x1
    have Mz := Lib.hid mz; clear mz
    have HZ := Lib.hid hZ; clear hZ
    have Q0 := Lib.hid q0; clear q0
    have Q1 := Lib.hid q1; clear q1
    have Q2 := Lib.hid q2; clear q2
    have Q3 := Lib.hid q3; clear q3
    have HB3 := Lib.hid hB3; clear hB3
    have Hz := Lib.hid hz; clear hz
    have Hbit := Lib.hid hbit; clear hbit
    by_cases hb1 : z / 2 ^ (k % 12) % 2 = 1
    · have ht : (z / 2 ^ (k % 12) % 2 == 1) = true := by simp [hb1]
      have hbn : 1 = e / 2 ^ k % 2 := by have := Hbit.out; omega
      have hnx := Hnx.out k x 1 Hx.out hbn
      rw [if_pos rfl, ← Hy.out] at hnx
      have hv0 : y * a % PP < PP := Nat.mod_lt _ qG
      obtain ⟨v, hv⟩ : ∃ v, v = y * a % PP := ⟨_, rfl⟩
      have hc := fun w => Ht.out y a Hy0.out Ha.out w
      rw [← hv] at hc hv0 hnx
      clear hv hbn
      have Hb1 := Lib.hid hb1; clear hb1
      have Hc := Lib.hid hc; clear hc
      have Hv0 := Lib.hid hv0; clear hv0
      have Hnx := Lib.hid hnx; clear hnx
      go_wp2_with (first | (refine wpList_store_row rfl 101 _ _ rfl (w1.heap.size) _ rfl rfl 101 Z Mz.out (by rw [qh]; kernel_rfl) (HZ.out.trans (qh _).symm) (qo _ _ _) ?_) | (refine wpList_load_row rfl 101 _ rfl (w1.heap.size) rfl 101 (r22 y) (0, 0) _ Q3.out Tryz.underlying101 rfl (by rw [qh]; kernel_rfl) ?_) | (refine wpList_load_row rfl 101 _ rfl (w.heap.size) rfl 101 (r22 a) (0, 0) _ Q0.out Tryz.underlying101 rfl (by rw [qh]; kernel_rfl) ?_))
      refine (Hc.out _).mono ?_
      rintro en w3 ⟨rfl, b3⟩
      have m0 := Q0.out.call b3
      have m1 := Q1.out.call b3
      have m2 := Q2.out.call b3
      obtain ⟨Z', hZ', mz'⟩ := (Q3.out.toN (qh _)).call b3
      have hB4 := qf HB3.out b3
      have p0 := m0.setRow_other w1.heap.size (r22 v) (by omega)
      have p1 := m1.setRow_other w1.heap.size (r22 v) (by omega)
      have p2 := m2.setRow_other w1.heap.size (r22 v) (by omega)
      have p3 := mz'.setRow (r22 v)
      have hB5 := below_setRow hB4 w1.heap.size (r22 v) (by omega)
      clear m0 m1 m2 b3 hB4
      have Mz' := Lib.hid mz'; clear mz'
      have HZ' := Lib.hid hZ'; clear hZ'
      have P0 := Lib.hid p0; clear p0
      have P1 := Lib.hid p1; clear p1
      have P2 := Lib.hid p2; clear p2
      have P3 := Lib.hid p3; clear p3
      have HB5 := Lib.hid hB5; clear hB5
      go_wp2_with (refine wpList_store_row rfl 101 _ _ rfl (w1.heap.size) _ rfl rfl 101 Z' Mz'.out (by rw [qh]; kernel_rfl) (HZ'.out.trans (qh _).symm) (qo _ _ _) ?_)
      go_roundw
      case measure => simp [RowKit.intOf]
      case rel => exact ⟨k, v, by omega, rfl, Hv0.out, Hnx.out, P0.out, P1.out, P2.out, P3.out, HB5.out⟩
    · have ht : (z / 2 ^ (k % 12) % 2 == 1) = false := by simp [hb1]
      have hbn : 0 = e / 2 ^ k % 2 := by have := Hbit.out; omega
      have hnx := Hnx.out k x 0 Hx.out hbn
      rw [if_neg (by decide), ← Hy.out] at hnx
      clear hb1 hbn
      have Hnx := Lib.hid hnx; clear hnx
      go_wp2_with (refine wpList_store_row rfl 101 _ _ rfl (w1.heap.size) _ rfl rfl 101 Z Mz.out (by rw [qh]; kernel_rfl) (HZ.out.trans (qh _).symm) (qo _ _ _) ?_)
      go_roundw
      case measure => simp [RowKit.intOf]
      case rel => exact ⟨k, y, by omega, rfl, Hy0.out, Hnx.out, Q0.out, Q1.out, Q2.out, Q3.out, HB3.out⟩
  · obtain rfl : k = 0 := by omega
    have hx2 : x = a ^ e % PP := Hx.out.trans He0.out
    obtain ⟨Z, hZ, mz⟩ := M2.out
    have Mz := Lib.hid mz; clear mz
    have HZ := Lib.hid hZ; clear hZ
    have Hx2 := Lib.hid hx2; clear hx2
    have HBB := Lib.hid (below_setRow HB.out (w.heap.size + 1 + 1) (r22 x) (by omega))
    go_wp2_with (first | (refine wpList_load_row rfl 101 _ rfl (w1.heap.size) rfl 101 (r22 x) (0, 0) _ M3.out Tryz.underlying101 rfl (by rw [qh]; kernel_rfl) ?_) | (refine wpList_store_row rfl 101 _ _ rfl (w.heap.size + 1 + 1) _ rfl rfl 101 Z Mz.out (by rw [qh]; kernel_rfl) (HZ.out.trans (qh _).symm) (qo _ _ _) ?_))
    exact bodyPost_ret (v := .agg (r22 x)) (results_cell_row (t := 101) (by rfl) _ _ (w.heap.size + 1 + 1) _ _ _ rfl (Mz.out.setRow _) Tryz.underlying101 rfl (by rw [qh]; kernel_rfl)) rfl ⟨by rw [Hx2.out], HBB.out⟩
def pwm (b e : Nat) : Nat := b ^ e % PP
theorem pwm_lt (b e : Nat) : pwm b e < PP := Nat.mod_lt _ qG
theorem rpow_any (a e : Nat) (ha : a < PP) (he : e < 2 ^ 255) (w : World) :
 Calls Tryz.prog 108 #[.agg (r22 a), .agg (r22 e)] w fun en w' => en = .returned (.agg (r22 (pwm a e))) ∧ Below w.heap.size w w' := rpower_any a e ha he w
end
section
open Go.RowKit Go.Lib
section
variable {P : Program} (w : World)
def eqr (n : Nat) (f g : Nat → Int) : Bool := (List.range n).all fun i => f i == g i
theorem ZT (d : Nat) (t e : TypeId) (n : Nat) (kd : IntKind) (ht : P.underlying t = some (.array n e)) (he : P.underlying e = some (.int kd)) (hsz : ∀ w, (sizeOf e).run P w = .ok 1 w) (f g : Nat → Int) :
 (Op.equalIn (d + 2) t (.agg (row kd n f)) (.agg (row kd n g))).run P w = .ok (eqr n f g) w := by
 unfold eqr
 rw [List.range_eq_range', Op.equalIn]
 simp only [Sem.run_bind, run_underlying ht, Result.andThen_ok, hsz, Std.Legacy.Range.forIn_eq_forIn_range', Std.Legacy.Range.size, Nat.sub_zero, Nat.add_sub_cancel, Nat.div_one]
 have hl : ∀ i ∈ List.range' 0 n 1, i < n := fun i hi => by simpa using (List.mem_range'_1.1 hi).2
 generalize List.range' 0 n 1 = l at hl ⊢
 induction l with
 | nil => simp
 | cons i l ih =>
  have hi : i < n := hl i (by simp)
  have px : ∀ h : Nat → Int, (part e (row kd n h) (i * 1)).run P w = .ok (.int kd (h i)) w := fun h => by
   have hg := Q5 kd n h i hi
   simp [part, isAgg, run_underlying he, hg]
  simp only [List.forIn_cons, Sem.run_bind, px, run_equalIn_int w d e kd kd _ _ he, Result.andThen_ok, List.all_cons]
  cases hb : (f i == g i)
  · simp
  · simp only [Bool.not_true, Bool.false_eq_true, if_false, Sem.run_pure, Result.andThen_ok, Bool.true_and]
    exact ih fun j hj => hl j (by simp [hj])
theorem QU (t e : TypeId) (n : Nat) (kd : IntKind) (ht : P.underlying t = some (.array n e)) (he : P.underlying e = some (.int kd)) (hsz : ∀ w, (sizeOf e).run P w = .ok 1 w) (f : Nat → Int) (k : Nat) (hk : k < n) :
 (Instr.index t (.agg (row kd n f)) (.int .i64 (k : Int))).run P w = .ok (.int kd (f k)) w := by
 have hg := Q5 kd n f k hk
 simp [Instr.index, asIntOf, run_underlying ht, hk, hsz, part, isAgg, run_underlying he, hg]
end
theorem eqr_dg (B n x y : Nat) (hx : x < B ^ n) (hy : y < B ^ n) : eqr n (dg B x) (dg B y) = decide (x = y) := by
 unfold eqr
 rw [Bool.eq_iff_iff]
 simp only [List.all_eq_true, List.mem_range, beq_iff_eq, decide_eq_true_eq]
 constructor
 · intro h
   have e1 := QZ B x n
   have e2 := QZ B y n
   rw [Nat.mod_eq_of_lt hx] at e1
   rw [Nat.mod_eq_of_lt hy] at e2
   rw [Q6 (B : Int) _ _ n h] at e1
   omega
 · rintro rfl i _; rfl
theorem QK {P : Program} {fn : Func} {p t2 : Tmp} {ty : TypeId} (h : fn.results = #[.cell p ty, .tmp t2]) (tmps : Array Value) (w : World) (g : Nat) (t : TypeId) (cs : Array Value) (fr : Nat × Nat) (d : TypeDesc)
 (hp : tmps.getD p undef = .pointer (some ⟨g, 0, none⟩)) (hg : w.heap[g]? = some (.cells cs t fr))
 (hu : P.underlying ty = some d) (hd : (match d with | .struct _ | .array _ _ => true | _ => false) = true) (hi : (P.info? ty).map (·.size) = some cs.size) :
 (results fn tmps).run P w = .ok (.tuple #[.agg cs, tmps.getD t2 undef]) w := by
 have hp' : tmps[p]?.getD undef = .pointer (some ⟨g, 0, none⟩) := by simpa using hp
 simp [results, h, hp', asAddr, run_loadVar_row w g t ty cs fr d hg hu hd hi]
theorem sz_int (w : World) : (sizeOf 3).run Tryz.prog w = .ok 1 w := by kernel_rfl
theorem sz_u8 (w : World) : (sizeOf 5).run Tryz.prog w = .ok 1 w := by kernel_rfl
theorem sz_u64 (w : World) : (sizeOf 131).run Tryz.prog w = .ok 1 w := by kernel_rfl
end
section
open Go.RowKit Go.Lib
theorem two_lt : 2 % PP < PP := Nat.mod_lt _ qG
theorem pm2_lt : PP - 2 % PP < 2 ^ 255 := by decide +kernel
theorem pm2 : PP - 2 % PP = PP - 2 := by decide +kernel
theorem qdv (a b : Nat) (ha : a < PP) (hb : b < PP) (w : World) :
 Calls Tryz.prog 77 #[.agg (r22 a), .agg (r22 b)] w fun en w' => en = .returned (.agg (r22 (a * pwm b (PP - 2) % PP))) ∧ Below w.heap.size w w' := by
 have h1 := fun w => qb8 2 (by omega) w
 have h2 := fun w => qbc PP (2 % PP) (Nat.le_of_lt two_lt) qdc w
 have h3 := fun w => rpow_any b (PP - 2 % PP) hb pm2_lt w
 rw [pm2] at h2 h3
 obtain ⟨t, ht⟩ : ∃ t, t = 2 % PP := ⟨_, rfl⟩
 obtain ⟨e, he⟩ : ∃ e, e = PP - 2 := ⟨_, rfl⟩
 rw [← ht] at h1 h2
 rw [← he] at h2 h3 ⊢
 have hy := pwm_lt b e
 obtain ⟨y, hyy⟩ : ∃ y, y = pwm b e := ⟨_, rfl⟩
 rw [← hyy] at h3 hy ⊢
 have h4 := fun w => q4 a y ha hy w
 obtain ⟨r, hr⟩ : ∃ r, r = a * y % PP := ⟨_, rfl⟩
 rw [← hr] at h4 ⊢
 have H1 := Lib.hid h1; clear h1
 have H2 := Lib.hid h2; clear h2
 have H3 := Lib.hid h3; clear h3
 have H4 := Lib.hid h4; clear h4
 clear hr hyy hy he ht ha hb
 go_enter Tryz.func77, Tryz.ntmps77
 go_wp2_with fail
 refine wp_region_noPanic ?_
 refine QW 7 (by kernel_rfl) ?_
 intro W0 hW0
 have M0 := Lib.hid (show Has W0 w.heap.size (r22 a) 101 by rw [hW0]; exact ((Has.new _ _ _).alloc _).alloc _)
 have M1 := Lib.hid (show Has W0 (w.heap.size + 1) (r22 b) 101 by rw [hW0]; exact (Has.new1 _ _ _ _).alloc _)
 have M2 := Lib.hid (show HasN W0 (w.heap.size + 1 + 1) 22 101 by rw [hW0]; exact HasN.new2 _ _ _ _ _ 22 rfl)
 have HB := Lib.hid (show Below w.heap.size w W0 by rw [hW0]; exact Qz _ _ _ _)
 clear hW0
 refine Qh (i := 0) rfl (by kernel_rfl) (by kernel_rfl) (by kernel_rfl) (by kernel_rfl) (by kernel_rfl) (fun _ _ _ h => h) (qj (by rfl) 101 _ rfl (w.heap.size) rfl 101 (r22 a) (fun _ h => M0.out.below h M0.out.lt) Tryz.underlying101 rfl (by rw [qh]; kernel_rfl)) ((Below.refl _ _).drew) ?_
 (try simp only [Act.put]); (try simp only [List.setIfInBounds_toArray])
 refine Qh (i := 1) rfl (by kernel_rfl) (by kernel_rfl) (by kernel_rfl) (by kernel_rfl) (by kernel_rfl) (fun _ _ _ h => h) (qj (by rfl) 101 _ rfl (w.heap.size + 1) rfl 101 (r22 b) (fun _ h => M1.out.below h M1.out.lt) Tryz.underlying101 rfl (by rw [qh]; kernel_rfl)) ((Below.refl _ _).drew) ?_
 (try simp only [Act.put]); (try simp only [List.setIfInBounds_toArray])
 refine qP (i := 2) (by kernel_rfl) rfl (fun K hK => ?_)
 go_simp
 go_at_call 110
 refine (Zp _).mono ?_
 rintro e wW01 ⟨rfl, hb⟩
 have hkW01 := qf (Below.refl _ _).drew hb
 refine hK.out _ _ (fun _ => hkW01) ?_
 clear hK K hb
 refine qP (i := 3) (by kernel_rfl) rfl (fun K hK => ?_)
 go_simp
 go_at_call 81
 refine (H1.out _).mono ?_
 rintro e wW02 ⟨rfl, hb⟩
 have hkW02 := qf hkW01 hb
 refine hK.out _ _ (fun _ => hkW02) ?_
 clear hK K hb
 refine qP (i := 4) (by kernel_rfl) rfl (fun K hK => ?_)
 go_simp
 go_at_call 109
 refine (H2.out _).mono ?_
 rintro e wW03 ⟨rfl, hb⟩
 have hkW03 := qf hkW02 hb
 refine hK.out _ _ (fun _ => hkW03) ?_
 clear hK K hb
 refine qP (i := 5) (by kernel_rfl) rfl (fun K hK => ?_)
 go_simp
 go_at_call 108
 refine (H3.out _).mono ?_
 rintro e wW04 ⟨rfl, hb⟩
 have hkW04 := qf hkW03 hb
 refine hK.out _ _ (fun _ => hkW04) ?_
 clear hK K hb
 refine qP (i := 6) (by kernel_rfl) rfl (fun K hK => ?_)
 go_simp
 go_at_call 82
 refine (H4.out _).mono ?_
 rintro e wW05 ⟨rfl, hb⟩
 have hkW05 := qf hkW04 hb
 refine hK.out _ _ (fun _ => hkW05) ?_
 clear hK K hb
 obtain ⟨Z, hZ, mZ⟩ := M2.out.below hkW05 M2.out.lt
 have MZ := Lib.hid mZ; clear mZ
 have HZ := Lib.hid hZ; clear hZ
 refine qP (i := 7) (by kernel_rfl) rfl (fun K hK => ?_)
 rw [if_pos (by rfl)]
 refine wp_store_row 101 _ _ rfl (w.heap.size + 1 + 1) _ rfl rfl 101 Z MZ.out (by rw [qh]; kernel_rfl) (HZ.out.trans (qh _).symm) (qo _ _ _) ?_
 refine hK.out _ _ (fun h => (h rfl).elim) ?_
 clear hK K
 (try simp only [Act.put]); (try simp only [List.setIfInBounds_toArray])
 refine qD (by kernel_rfl) (NoPanic.normal ?_)
 go_wp2_with fail
 exact bodyPost_ret (v := .agg (r22 r)) (results_cell_row (t := 101) (by rfl) _ _ (w.heap.size + 1 + 1) _ _ _ rfl (MZ.out.setRow _) Tryz.underlying101 rfl (by rw [qh]; kernel_rfl)) rfl ⟨rfl, below_setRow (HB.out.trans (hkW05.mono HB.out.size)) _ _ (by omega)⟩
end
end Go.Proofs.YtbgefoamhdgnaaaGreatDoor
section
namespace Go
variable {P : Program} {md : Region.Mode} {ops : Array Oper} {Q : Exit → Act → World → Prop} {f : Nat} {S : World → Prop}
abbrev tt : Bool := true
abbrev ff : Bool := false
def Enters (P : Program) (g : FuncId) : Prop := ∃ fn : Func, P.funcs[g]? = some fn ∧ (fn.name == "runtime.NumGoroutine") = false ∧ fn.body.isNone = false
theorem qcx {a : Act} {o : Oper} {c : Call} {x : Operand} {g : FuncId} {vl : List Value} (ho : o.op = .call c) (hc : c.callee = .value x) (hx : a.eval x = .func (.func g) #[] #[]) (he : Enters P g)
 (hv : c.args.toList.map a.eval = vl) (w : World) : (execOp a.eval o).run P w = .ok (.enter g vl.toArray) w := by
 obtain ⟨fn, h1, h2, h3⟩ := he
 have h4 : fn.name ≠ "runtime.NumGoroutine" := by simpa using h2
 have h5 : c.args.map a.eval = vl.toArray := by apply Array.ext'; rw [← hv]; simp
 unfold execOp
 simp only [ho, resolve, hc, hx, h5]
 cases hb : fn.body with
 | none => rw [hb] at h3; cases h3
 | some code => simp [Deferred.ofValue, invoke, callFunc, h1, h4, hb]
theorem qck {a : Act} {o : Oper} {c : Call} {x : Operand} {g : FuncId} {vl : List Value} {w : World} {K : Act → World → Prop} {R : Ending → World → Prop} (ho : o.op = .call c) (hc : c.callee = .value x) (hx : a.eval x = .func (.func g) #[] #[]) (he : Enters P g)
 (hv : c.args.toList.map a.eval = vl) (h : Calls P g vl.toArray w R) (hR : ∀ e w', R e w' → ∃ v, e = .returned v ∧ K (a.put o.dst v) w') : o.wp P a w K Q := by
 unfold Oper.wp
 rw [qcx ho hc hx he hv w, Oper.upon_enter]
 refine h.mono fun e w' hr => ?_
 obtain ⟨v, rfl, hK⟩ := hR e w' hr
 exact hK
def zX (P : Program) (md : Region.Mode) (ops : Array Oper) (Q : Exit → Act → World → Prop) (f : Nat) (S : World → Prop) (n : Nat) (listed : Array Bool) (a : Act) (w : World) (i : Nat) : Prop :=
 wpOp P ops Q i (fun a' w' => (i ≠ f → S w') ∧ Qg P md ops Q f S n (listed.setIfInBounds i true) a' w') a w
variable {n : Nat} {listed : Array Bool} {a : Act} {w : World}
theorem qq {i : Nat} (hr : Region.ready md ops listed = [i]) (h : zX P md ops Q f S n listed a w i) : Qg P md ops Q f S (n + 1) listed a w := by
 refine ⟨fun h0 => (by rw [h0] at hr; cases hr), fun j hj => ?_⟩
 rw [hr] at hj
 obtain rfl : j = i := by simpa using hj
 exact h
theorem qcl {i j : Nat} (hr : Region.ready md ops listed = [i, j]) (h1 : zX P md ops Q f S n listed a w i) (h2 : zX P md ops Q f S n listed a w j) : Qg P md ops Q f S (n + 1) listed a w := by
 refine ⟨fun h0 => (by rw [h0] at hr; cases hr), fun k hk => ?_⟩
 rw [hr] at hk
 simp only [List.mem_cons, List.not_mem_nil, or_false] at hk
 rcases hk with rfl | rfl
 · exact h1
 · exact h2
theorem bstep_any {i : Nat} {oi : Oper} (hi : ops[i]? = some oi)
 (h : ∀ K : Act → World → Prop, Shut (∀ a' w', (i ≠ f → S w') → Qg P md ops Q f S n (listed.setIfInBounds i true) a' w' → K a' w') → if Region.wanted oi (yielded ops a.tmps) = true then Oper.wp P oi a w K Q else K (a.put oi.dst undef) w) : zX P md ops Q f S n listed a w i :=
 wpOp_step hi fun K hK => h K fun a' w' hS hW => hK a' w' ⟨hS, hW⟩
theorem Zx {i : Nat} {oi : Oper} (hi : ops[i]? = some oi) (hw : Region.wanted oi (yielded ops a.tmps) = true)
 (h : Oper.wp P oi a w (fun a' w' => (i ≠ f → S w') ∧ Qg P md ops Q f S n (listed.setIfInBounds i true) a' w') Q) : zX P md ops Q f S n listed a w i :=
 wpOp_step hi fun K hK => by rw [if_pos hw]; exact Oper.wp_mono hK h
theorem bstep_call {i : Nat} {oi : Oper} {c : Call} {x : Operand} {g : FuncId} {vl : List Value} {R : Ending → World → Prop} (hi : ops[i]? = some oi) (hw : Region.wanted oi (yielded ops a.tmps) = true) (ho : oi.op = .call c) (hc : c.callee = .value x)
 (hx : a.eval x = .func (.func g) #[] #[]) (he : Enters P g) (hv : c.args.toList.map a.eval = vl) (h : Calls P g vl.toArray w R)
 (hR : ∀ e w', R e w' → ∃ v, e = .returned v ∧ (i ≠ f → S w') ∧ Qg P md ops Q f S n (listed.setIfInBounds i true) (a.put oi.dst v) w') : zX P md ops Q f S n listed a w i :=
 Zx hi hw (qck ho hc hx he hv h hR)
theorem bstep_store {i : Nat} {oi : Oper} (hi : ops[i]? = some oi) (hw : Region.wanted oi (yielded ops a.tmps) = true) (ty : TypeId) (x y : Operand) (ho : oi.op = .store ty x y)
 (g : Nat) (cells : Array Value) (hx : a.eval x = .pointer (some ⟨g, 0, none⟩)) (hy : a.eval y = .agg cells)
 (t : TypeId) (old : Array Value) (hg : w.heap[g]? = some (.cells old t (0, 0))) (hs : (P.info? ty).map (·.size) = some cells.size)
 (hold : old.size = cells.size) (h1 : cells.all (·.oneCell') = true)
 (h : (i ≠ f → S (w.setRow g cells)) ∧ Qg P md ops Q f S n (listed.setIfInBounds i true) (a.put oi.dst undef) (w.setRow g cells)) : zX P md ops Q f S n listed a w i :=
 Zx hi hw (wp_store_row ty x y ho g cells hx hy t old hg hs hold h1 h)
theorem Qu {id : Nat} (f N : Nat) (l0 : Array Bool) (hm : P.follows .mixedOrders = true) (hN : ops.size = N) (hl : Array.replicate N false = l0)
 (h : ∀ W0 : World, W0 = w → Qg P .any ops Q f (fun w' => Go.RowKit.Below W0.heap.size W0 w') N l0 a W0.drew) : (Code.region id ops true).wp P Q a w :=
 zt f _ hm (by subst hl; subst hN; exact h w rfl)
theorem Qn {id : Nat} (S : World → Prop) (f N : Nat) (l0 : Array Bool) (hm : P.follows .mixedOrders = true) (hN : ops.size = N) (hl : Array.replicate N false = l0)
 (h : Qg P .any ops Q f S N l0 a w.drew) : (Code.region id ops true).wp P Q a w :=
 zt f S hm (by subst hl; subst hN; exact h)
theorem QB {oi : Oper} {d : Tmp} (hd : oi.dst = some d) (a : Act) (v : Value) : a.put oi.dst v = { a with tmps := a.tmps.setIfInBounds d v } := by rw [hd]; rfl
theorem Z9 {oi : Oper} (hd : oi.dst = none) (a : Act) (v : Value) : a.put oi.dst v = a := by rw [hd]; rfl
theorem go_take (i : Nat) (d : Tmp) (l' : Array Bool) {oi : Oper} {v : Value} (hi : ops[i]? = some oi) (hd : oi.dst = some d) (hl : listed.setIfInBounds i true = l') (hs : Region.noSelect ops = true) (hfr : Region.free md ops listed i = true)
 (hr : (Region.ready md ops listed).contains i = true) (hif : (i == f) = false) (hf : qaQ md ops f i = true) (hy : YieldsIf P ops S oi v a) (hS : S w)
 (h : Qg P md ops (NoPanic Q) f S n l' { a with tmps := a.tmps.setIfInBounds d v } w) : Qg P md ops (NoPanic Q) f S (n + 1) listed a w :=
 Qh hi hs hfr hr hif hf (fun _ _ _ h => h) hy hS (by rw [QB hd, hl]; exact h)
def takeOk (md : Region.Mode) (ops : Array Oper) (listed : Array Bool) (f i : Nat) : Bool := Region.noSelect ops && Region.free md ops listed i && (Region.ready md ops listed).contains i && !(i == f) && qaQ md ops f i
theorem qi {P : Program} {md : Region.Mode} {ops : Array Oper} {Q : Exit → Act → World → Prop} {f : Nat} {S : World → Prop} {n : Nat} {listed : Array Bool} {a : Act} {w : World} (i : Nat) (d : Tmp) (l' : Array Bool) {oi : Oper} {v : Value} (hi : ops[i]? = some oi) (hd : oi.dst = some d) (hl : listed.setIfInBounds i true = l') (hok : takeOk md ops listed f i = true) (hy : YieldsIf P ops S oi v a) (hS : S w)
 (h : Qg P md ops (NoPanic Q) f S n l' { a with tmps := a.tmps.setIfInBounds d v } w) : Qg P md ops (NoPanic Q) f S (n + 1) listed a w := by
 unfold takeOk at hok
 simp only [Bool.and_eq_true, Bool.not_eq_true'] at hok
 obtain ⟨⟨⟨⟨h1, h2⟩, h3⟩, h4⟩, h5⟩ := hok
 exact go_take i d l' hi hd hl h1 h2 h3 h4 h5 hy hS h
theorem sI {α : Type} (l : List α) (i : Nat) (a : α) : l.toArray.setIfInBounds i a = (l.set i a).toArray := List.setIfInBounds_toArray l i a
theorem sS {α : Type} (x : α) (l : List α) (i : Nat) (a : α) : (x :: l).set (i + 1) a = x :: l.set i a := List.set_cons_succ
theorem sZ {α : Type} (x : α) (l : List α) (a : α) : (x :: l).set 0 a = a :: l := List.set_cons_zero
theorem qF (w : World) : Go.RowKit.Below w.heap.size w w.drew := (Go.RowKit.Below.refl _ _).drew
theorem qM (i : Nat) (d : Tmp) (l' : Array Bool) {oi : Oper} {c : Call} {x : Operand} {g : FuncId} {vl : List Value} {R : Ending → World → Prop} (hi : ops[i]? = some oi) (hd : oi.dst = some d) (hl : listed.setIfInBounds i true = l') (hw : Region.wanted oi (yielded ops a.tmps) = true) (ho : oi.op = .call c) (hc : c.callee = .value x)
 (hx : a.eval x = .func (.func g) #[] #[]) (he : Enters P g) (hv : c.args.toList.map a.eval = vl) (h : Calls P g vl.toArray w R)
 (hR : ∀ e w', R e w' → ∃ v, e = .returned v ∧ (i ≠ f → S w') ∧ Qg P md ops Q f S n l' { a with tmps := a.tmps.setIfInBounds d v } w') : zX P md ops Q f S n listed a w i :=
 bstep_call hi hw ho hc hx he hv h fun e w' hr => let ⟨v, h1, h2, h3⟩ := hR e w' hr; ⟨v, h1, h2, by rw [QB hd, hl]; exact h3⟩
theorem qac (i : Nat) (l' : Array Bool) {oi : Oper} (hi : ops[i]? = some oi) (hd : oi.dst = none) (hl : listed.setIfInBounds i true = l') (hw : Region.wanted oi (yielded ops a.tmps) = true) (ty : TypeId) (x y : Operand) (ho : oi.op = .store ty x y)
 (g : Nat) (cells : Array Value) (hx : a.eval x = .pointer (some ⟨g, 0, none⟩)) (hy : a.eval y = .agg cells)
 (t : TypeId) (old : Array Value) (hg : w.heap[g]? = some (.cells old t (0, 0))) (hs : (P.info? ty).map (·.size) = some cells.size)
 (hold : old.size = cells.size) (h1 : cells.all (·.oneCell') = true)
 (h : (i ≠ f → S (w.setRow g cells)) ∧ Qg P md ops Q f S n l' a (w.setRow g cells)) : zX P md ops Q f S n listed a w i :=
 bstep_store hi hw ty x y ho g cells hx hy t old hg hs hold h1 ⟨h.1, by rw [Z9 hd, hl]; exact h.2⟩
theorem go_any (i : Nat) (l' : Array Bool) {oi : Oper} (hi : ops[i]? = some oi) (hl : listed.setIfInBounds i true = l')
 (h : ∀ K : Act → World → Prop, Shut (∀ a' w', (i ≠ f → S w') → Qg P md ops Q f S n l' a' w' → K a' w') → if Region.wanted oi (yielded ops a.tmps) = true then Oper.wp P oi a w K Q else K (a.put oi.dst undef) w) : zX P md ops Q f S n listed a w i :=
 bstep_any hi (by rw [hl]; exact h)
theorem qbh (i : Nat) (d : Tmp) (l' : Array Bool) {oi : Oper} (hi : ops[i]? = some oi) (hd : oi.dst = some d) (hl : listed.setIfInBounds i true = l') (hw : Region.wanted oi (yielded ops a.tmps) = true) (ty : TypeId) (ho : oi.op = .alloc ty) (Z : Array Value)
 (hz : ∀ w : World, (Instr.alloc ty true (.tuple #[])).run P w = .ok (.pointer (some ⟨w.heap.size, 0, none⟩)) (w.alloc (.cells Z ty)))
 (h : ∀ w2, w2 = w.alloc (.cells Z ty) → (i ≠ f → S w2) ∧ Qg P md ops Q f S n l' { a with tmps := a.tmps.setIfInBounds d (.pointer (some ⟨w.heap.size, 0, none⟩)) } w2) : zX P md ops Q f S n listed a w i := by
 refine Zx hi hw ?_
 unfold Oper.wp execOp
 simp only [ho, Sem.run_bind, Sem.run_pure, hz, Result.andThen_ok]
 have := h _ rfl
 rw [← QB hd, ← hl] at this
 exact this
theorem Ql (i : Nat) (l' : Array Bool) {oi : Oper} (hi : ops[i]? = some oi) (hd : oi.dst = none) (hl : listed.setIfInBounds i true = l') (hw : Region.wanted oi (yielded ops a.tmps) = true) (ty : TypeId) (x y : Operand) (ho : oi.op = .store ty x y)
 (g : Nat) (cells : Array Value) (hx : a.eval x = .pointer (some ⟨g, 0, none⟩)) (hy : a.eval y = .agg cells)
 (t : TypeId) (old : Array Value) (hg : w.heap[g]? = some (.cells old t (0, 0))) (hs : (P.info? ty).map (·.size) = some cells.size)
 (hold : old.size = cells.size) (h1 : cells.all (·.oneCell') = true)
 (h : ∀ w2, w2 = w.setRow g cells → (i ≠ f → S w2) ∧ Qg P md ops Q f S n l' a w2) : zX P md ops Q f S n listed a w i :=
 qac i l' hi hd hl hw ty x y ho g cells hx hy t old hg hs hold h1 (h _ rfl)
theorem qcj {α : Type} {P : Program} {ops : Array Oper} {Q : Exit → Act → World → Prop} {id : Nat} {b : Bool} {a : Act} {w : World} (C : World → α → World → Prop) (F : Act → α → Act)
 (h : ∀ Q' : Exit → Act → World → Prop, (∀ x w', C w x w' → Q' .normal (F a x) w') → (Code.region id ops b).wp P Q' a w) (hQ : ∀ W0 x w', W0 = w → C W0 x w' → Q .normal (F a x) w') : (Code.region id ops b).wp P Q a w :=
 h Q fun x w' hC => hQ w x w' rfl hC
theorem qv {rest : List Oper} {o : Oper} (hw : Region.wanted o (yielded ops a.tmps) = true) (ty : TypeId) (x : Operand) (ho : o.op = .load ty x) (g : Nat) (hx : a.eval x = .pointer (some ⟨g, 0, none⟩)) (t : TypeId) (cs : Array Value)
 {d : TypeDesc} (hg : w.heap[g]? = some (.cells cs t (0, 0))) (hu : P.underlying ty = some d) (hd : (match d with | .struct _ | .array _ _ => true | _ => false) = true) (hi : (P.info? ty).map (·.size) = some cs.size)
 (e : Tmp) (he : o.dst = some e) (h : wpList P ops Q rest { a with tmps := a.tmps.setIfInBounds e (.agg cs) } w) : wpList P ops Q (o :: rest) a w := by
 have hy := qj (ops := ops) (S := fun w' => w' = w) hw ty x ho g hx t cs (fun w' h' => by rw [h']; exact hg) hu hd hi
 rcases hy with ⟨_, h1⟩ | ⟨h1, _⟩
 · refine wpList_step fun K hK => ?_
   rw [if_pos hw]
   unfold Oper.wp
   rw [h1 w rfl, Oper.upon_value]
   refine hK _ _ ?_
   rw [QB he]; exact h
 · rw [hw] at h1; cases h1
theorem qm {rest : List Oper} {o : Oper} {c : Call} {x : Operand} {g : FuncId} {vl : List Value} {R : Ending → World → Prop} (hw : Region.wanted o (yielded ops a.tmps) = true) (ho : o.op = .call c) (hc : c.callee = .value x)
 (hx : a.eval x = .func (.func g) #[] #[]) (he : Enters P g) (hv : c.args.toList.map a.eval = vl) (h : Calls P g vl.toArray w R)
 (d : Tmp) (hd : o.dst = some d) (hR : ∀ e w', R e w' → ∃ v, e = .returned v ∧ wpList P ops Q rest { a with tmps := a.tmps.setIfInBounds d v } w') : wpList P ops Q (o :: rest) a w :=
 wpList_step fun K hK => by
  rw [if_pos hw]
  exact Oper.wp_mono hK (qck ho hc hx he hv h fun e w' hr => let ⟨v, h1, h2⟩ := hR e w' hr; ⟨v, h1, by rw [QB hd]; exact h2⟩)
end Go
namespace Go.Proofs.YtbgefoamhdgnaaaGreatDoor
def z36 : Array Value := (#[.int .u64 0, .int .u64 0, .int .u64 0, .int .u64 0] : Array Value)
theorem qb5 (w : World) : (Instr.alloc 180 true (.tuple #[])).run Tryz.prog w = .ok (.pointer (some ⟨w.heap.size, 0, none⟩)) (w.alloc (.cells z36 180)) := by
 unfold z36
 go_simp
def z40 : Array Value := (#[.int .i64 0, .int .i64 0, .int .i64 0, .int .i64 0, .int .i64 0, .int .i64 0, .int .i64 0, .int .i64 0, .int .i64 0, .int .i64 0, .int .i64 0, .int .i64 0, .int .i64 0, .int .i64 0, .int .i64 0, .int .i64 0, .int .i64 0, .int .i64 0, .int .i64 0, .int .i64 0, .int .i64 0, .int .i64 0] : Array Value)
theorem al40 (w : World) : (Instr.alloc 101 true (.tuple #[])).run Tryz.prog w = .ok (.pointer (some ⟨w.heap.size, 0, none⟩)) (w.alloc (.cells z40 101)) := by
 unfold z40
 go_simp
def z24 : Array Value := (#[.int .u8 0, .int .u8 0, .int .u8 0, .int .u8 0, .int .u8 0, .int .u8 0, .int .u8 0, .int .u8 0, .int .u8 0, .int .u8 0, .int .u8 0, .int .u8 0, .int .u8 0, .int .u8 0, .int .u8 0, .int .u8 0, .int .u8 0, .int .u8 0, .int .u8 0, .int .u8 0, .int .u8 0, .int .u8 0, .int .u8 0, .int .u8 0, .int .u8 0, .int .u8 0, .int .u8 0, .int .u8 0, .int .u8 0, .int .u8 0, .int .u8 0, .int .u8 0] : Array Value)
theorem al24 (w : World) : (Instr.alloc 36 true (.tuple #[])).run Tryz.prog w = .ok (.pointer (some ⟨w.heap.size, 0, none⟩)) (w.alloc (.cells z24 36)) := by
 unfold z24
 go_simp
end Go.Proofs.YtbgefoamhdgnaaaGreatDoor
end
namespace Go.Proofs.YtbgefoamhdgnaaaGreatDoor
section
open Go.RowKit Go.Sx
variable {C : Cx} {L : List Ent} {t : TypeId} {a b : Operand} {c d : Array Value} {r : Bool} {next : Value → List Ent → Prop}
theorem eqR (hP : C.P = Tryz.prog) (hg : Tryz.prog.eqGuardType Tryz.prog.depth t = false) (h : ∀ w, (Op.equalIn 10000 t (.agg c) (.agg d)).run Tryz.prog w = .ok r w) (go : next (.bool r) L) :
 zY C (do eqGuard .eql t a b (.agg c) (.agg d); binOp .eql t (.agg c) (.agg d)) L next := by
 refine semV (fun w _ => ?_) go
 rw [hP]
 simp only [Sem.run_bind, qbE hg, Result.andThen_ok]
 rw [run_eql_struct, h]
 rfl
theorem neR (hP : C.P = Tryz.prog) (hg : Tryz.prog.eqGuardType Tryz.prog.depth t = false) (h : ∀ w, (Op.equalIn 10000 t (.agg c) (.agg d)).run Tryz.prog w = .ok r w) (go : next (.bool (!r)) L) :
 zY C (do eqGuard .neq t a b (.agg c) (.agg d); binOp .neq t (.agg c) (.agg d)) L next := by
 refine semV (fun w _ => ?_) go
 rw [hP]
 simp only [Sem.run_bind, qbE hg, Result.andThen_ok]
 rw [run_neq_struct, h]
 rfl
end
end Go.Proofs.YtbgefoamhdgnaaaGreatDoor
namespace Go.Sx
section
open Go Go.RowKit
variable {C : Cx} {ops : Array Oper} {L0 : List Ent} {Q : Act → World → Prop}
def Inc (σ τ : Fr) : Prop := ∀ i v, get σ i = some v → get τ i = some v
theorem Inc.put {σ τ : Fr} (h : Inc σ τ) (N : Nat) (d : Option Nat) (v : Value) : Inc (put N d v σ) (put N d v τ) := fun i u hu => by
 rw [qar] at hu ⊢
 split at hu
 · rename_i hc; rw [if_pos hc]; exact hu
 · rename_i hc; rw [if_neg hc]; exact h i u hu
theorem dG_mono (n : Nat) : ∀ (l : Array Bool) (s s' : Sy), Sub L0 s'.L → Inc s.σ s'.σ → (∀ w, St C.M C.B w s'.L → St C.M C.B w s.L) → s.D = s'.D → dG C ops L0 [] Q n l s → dG C ops L0 [] Q n l s' := by
 have fit : ∀ (s s' : Sy) (a : Act), Inc s.σ s'.σ → s.D = s'.D → Fits C.N s' a → Fits C.N s a := fun s s' a hi hd hf => ⟨hf.size, hf.defers.trans hd.symm, fun i v hv => hf.slot i v (hi i v hv)⟩
 induction n with
 | zero => intro l s s' _ hi hL hD h; exact ⟨h.1, fun a w hf hs => h.2 a w (fit s s' a hi hD hf) (hL w hs)⟩
 | succ n ih =>
  intro l s s' hA hi hL hD h
  refine ⟨fun h0 a w hf hs => h.1 h0 a w (fit s s' a hi hD hf) (hL w hs), fun j hj o ho a w hf hs => ?_⟩
  have h1 := h.2 j hj o ho a w (fit s s' a hi hD hf) (hL w hs)
  refine ⟨fun hw => Fin.mono (fun v L' hk => ?_) (h1.1 hw), fun hw => ?_⟩
  · exact ⟨hk.1, ih _ ⟨put C.N o.dst v s.σ, L', s.D⟩ ⟨put C.N o.dst v s'.σ, L', s'.D⟩ (hk.1 rfl) (hi.put _ _ _) (fun _ h => h) hD hk.2⟩
  · exact ⟨fun _ => hA, ih _ ⟨put C.N o.dst undef s.σ, s.L, s.D⟩ ⟨put C.N o.dst undef s'.σ, s'.L, s'.D⟩ hA (hi.put _ _ _) hL hD (h1.2 hw).2⟩
structure GR (C : Cx) (ops : Array Oper) (L0 : List Ent) (K : Sy → Prop) (T : Nat → Array Bool → Sy → Prop) : Prop where
 fin : ∀ m l s, Region.ready .any ops l = [] → K s → T m l s
 one : ∀ m l s i, Region.ready .any ops l = [i] → Sub L0 s.L → dn C ops L0 [] i (T m (l.setIfInBounds i true)) s → T (m + 1) l s
 two : ∀ m l s i j, Region.ready .any ops l = [i, j] → Sub L0 s.L → dn C ops L0 [] i (T m (l.setIfInBounds i true)) s → dn C ops L0 [] j (T m (l.setIfInBounds j true)) s → T (m + 1) l s
 three : ∀ m l s i j k, Region.ready .any ops l = [i, j, k] → Sub L0 s.L → dn C ops L0 [] i (T m (l.setIfInBounds i true)) s → dn C ops L0 [] j (T m (l.setIfInBounds j true)) s → dn C ops L0 [] k (T m (l.setIfInBounds k true)) s → T (m + 1) l s
 four : ∀ m l s i j k q, Region.ready .any ops l = [i, j, k, q] → Sub L0 s.L → dn C ops L0 [] i (T m (l.setIfInBounds i true)) s → dn C ops L0 [] j (T m (l.setIfInBounds j true)) s → dn C ops L0 [] k (T m (l.setIfInBounds k true)) s → dn C ops L0 [] q (T m (l.setIfInBounds q true)) s → T (m + 1) l s
 mono : ∀ m l s s', Sub L0 s'.L → leF s.σ s'.σ → (∃ L', s.L.Perm L' ∧ Sub L' s'.L) → s.D = s'.D → T m l s → T m l s'
theorem GR.go {K : Sy → Prop} {T : Nat → Array Bool → Sy → Prop} (g : GR C ops L0 K T) {m : Nat} {l : Array Bool} {s s' : Sy} (h : T m l s) (hs : Sub L0 s'.L) (hle : leF s.σ s'.σ) (hp : ∃ L', s.L.Perm L' ∧ Sub L' s'.L) (hd : s.D = s'.D) : T m l s' := g.mono m l s s' hs hle hp hd h
theorem gr_dG (hT : TabOk C.P C.T) (K : Sy → Prop) : GR C ops L0 K (dG C ops L0 [] (zD C K)) := by
 have step : ∀ (n : Nat) (l : Array Bool) (s : Sy) (i : Nat), Sub L0 s.L → dn C ops L0 [] i (dG C ops L0 [] (zD C K) n (l.setIfInBounds i true)) s → ∀ o, ops[i]? = some o → ∀ a w, Fits C.N s a → St C.M C.B w s.L →
  StepG C ops o a w s.L fun u L' => (Qj i [] = false → Sub L0 L') ∧ dG C ops L0 [] (zD C K) n (l.setIfInBounds i true) ⟨put C.N o.dst u s.σ, L', s.D⟩ :=
  fun n l s i hi h => dn_ok hT h (fun s' _ h => h) (.inl hi)
 refine ⟨fun m l s h0 hk => ?_, fun m l s i hr hs h => ?_, fun m l s i j hr hs h1 h2 => ?_, fun m l s i j k hr hs h1 h2 h3 => ?_, fun m l s i j k q0 hr hs h1 h2 h3 h4 => ?_, fun m l s s' hA hle ⟨L', hp, hs⟩ hD h => dG_mono m l s s' hA (leF_get hle) (fun w hw => (hw.sub hs).perm hp) hD h⟩
 · cases m with
   | zero => exact ⟨h0, fun a w hf hs => ⟨s, hf, hs, hk⟩⟩
   | succ n => exact ⟨fun _ a w hf hs => ⟨s, hf, hs, hk⟩, fun j hj => by rw [h0] at hj; cases hj⟩
 · refine ⟨fun h0 => (by rw [hr] at h0; cases h0), fun q hq => ?_⟩
   rw [hr] at hq
   obtain rfl : q = i := by simpa using hq
   exact step m l s q hs h
 · refine ⟨fun h0 => (by rw [hr] at h0; cases h0), fun q hq => ?_⟩
   rw [hr] at hq
   have : q = i ∨ q = j := by simpa using hq
   rcases this with rfl | rfl
   · exact step m l s q hs h1
   · exact step m l s q hs h2
 · refine ⟨fun h0 => (by rw [hr] at h0; cases h0), fun q hq => ?_⟩
   rw [hr] at hq
   have : q = i ∨ q = j ∨ q = k := by simpa using hq
   rcases this with rfl | rfl | rfl
   · exact step m l s q hs h1
   · exact step m l s q hs h2
   · exact step m l s q hs h3
 · refine ⟨fun h0 => (by rw [hr] at h0; cases h0), fun q hq => ?_⟩
   rw [hr] at hq
   have : q = i ∨ q = j ∨ q = k ∨ q = q0 := by simpa using hq
   rcases this with rfl | rfl | rfl | rfl
   · exact step m l s q hs h1
   · exact step m l s q hs h2
   · exact step m l s q hs h3
   · exact step m l s q hs h4
def odT : List Nat → Od
 | [] => .nil
 | i :: l => .t i (odT l)
def lst (l : Array Bool) : List Nat → Array Bool
 | [] => l
 | i :: ts => lst (l.setIfInBounds i true) ts
def tsOk (ops : Array Oper) : List Nat → Array Bool → Bool
 | [], _ => true
 | i :: ts, l => tOk ops [] l i && tsOk ops ts (l.setIfInBounds i true)
theorem dx_ts (hT : TabOk C.P C.T) (hsel : Region.noSelect ops = true) {K : Sy → Prop} (ts : List Nat) : ∀ (n : Nat) (l : Array Bool) (s : Sy), Shut ops l → tsOk ops ts l = true → Sub L0 s.L →
 dx C ops L0 [] (odT ts) (dG C ops L0 [] (zD C K) n (lst l ts)) s → dG C ops L0 [] (zD C K) (n + ts.length) l s := by
 induction ts with
 | nil => intro n l s _ _ _ h; exact h
 | cons i ts ih =>
  intro n l s hsh hok hsb h
  simp only [tsOk, Bool.and_eq_true] at hok
  obtain ⟨hk, hr⟩ := hok
  simp only [tOk, Bool.and_eq_true, Bool.not_eq_true'] at hk
  obtain ⟨⟨⟨k1, k2⟩, k3⟩, k4⟩ := hk
  obtain ⟨σ, L, D⟩ := s
  change dt C ops L0 i (dx C ops L0 [] (odT ts) (dG C ops L0 [] (zD C K) n (lst (l.setIfInBounds i true) ts))) ⟨σ, L, D⟩ at h
  simp only [dt, opAt, qca] at h
  split at h
  · rename_i o ho
    have hf' : ∀ j, Qj j [] = true → (ops[j]?).isSome = true → Dep ops i j := fun j hj hs => qdp (allN_mem k4 hj) hs
    have hrd : i ∈ Region.ready .any ops l := by simpa using k2
    obtain ⟨b, hp, hq, hb⟩ := gd_ok (C := C) (s := ⟨σ, L, D⟩) h
    rw [List.length_cons, ← Nat.add_assoc]
    cases b with
    | false => exact qcf (v := undef) ho hsel k3 hf' _ l _ hsh (Region.free_spec ho k1) hrd hsb (fun a ha => .inr ⟨hb a ha, rfl⟩) (ih n _ _ (hsh.next hrd) hr hsb (hq rfl))
    | true =>
     have key : ∃ v, dx C ops L0 [] (odT ts) (dG C ops L0 [] (zD C K) n (lst (l.setIfInBounds i true) ts)) ⟨put C.N o.dst v σ, L, D⟩ ∧ ∀ a, Fits C.N ⟨σ, L, D⟩ a → ∀ w, St C.M C.B w L0 → FinT C v w ((execOp a.eval o).run C.P w) := by
      obtain ⟨v, hv, hr'⟩ := tkV_ok hT (qdJ σ) (hp rfl)
      refine ⟨v, hv, fun a ha w hs => ?_⟩
      rw [execOp_congr o (fun cs b => Region.noSelect_spec hsel i o cs b ho) (fun x hx => canon_eq ha (qds (hp rfl) x hx))]
      exact hr' w hs
     obtain ⟨v, hv, hr'⟩ := key
     exact qcf (v := v) ho hsel k3 hf' _ l _ hsh (Region.free_spec ho k1) hrd hsb (fun a ha => .inl ⟨hb a ha, hr' a ha⟩) (ih n _ _ (hsh.next hrd) hr hsb hv)
  · exact h.elim
theorem drg (L0 : List Ent) (ts : List Nat) (m : Nat) (hT : TabOk C.P C.T) {id : Nat} {K : Exit → Sy → Prop} {s : Sy} (hm : C.P.follows .mixedOrders = true) (hn : m + ts.length = ops.size)
 (hok : (Region.noSelect ops && tsOk ops ts (Array.replicate ops.size false)) = true) (hL : Sub L0 s.L)
 (h : ∀ T : Nat → Array Bool → Sy → Prop, GR C ops L0 (K .normal) T → dx C ops L0 [] (odT ts) (T m (lst (Array.replicate ops.size false) ts)) s) : qb0 C id ops K s := by
 simp only [Bool.and_eq_true] at hok
 obtain ⟨h1, h3⟩ := hok
 refine ⟨fun n a w hf hs => ?_⟩
 have hsh : Shut ops (Array.replicate ops.size false) := by
  intro j o ho hj
  have hlt : j < ops.size := (Array.getElem?_eq_some_iff.1 ho).1
  simp [hlt] at hj
 have h4 := dx_ts hT h1 ts m (Array.replicate ops.size false) s hsh h3 hL (h _ (gr_dG hT (K .normal)))
 rw [hn] at h4
 exact wpIn_region_any hm (dG_any (Q' := Qof C K) (fun a w hq => hq) _ _ _ h4 a _ hf hs.drew)
theorem qJ {α : Type} (X1 : List α) (e : α) (X2 : List α) : (X1 ++ e :: X2).Perm (X1 ++ X2 ++ [e]) := by
 rw [List.append_assoc]
 exact (List.perm_append_comm (l₁ := [e]) (l₂ := X2)).append_left X1
end
end Go.Sx
namespace Go.Proofs.YtbgefoamhdgnaaaGreatDoor
section
open Go.RowKit Go.Sx
def rt1 (a : Nat) : Nat := pwm a ((PP + 3) / 2 / 2 / 2)
def rti : Nat := pwm (2 % PP) ((PP - 1 % PP) / 2 / 2)
def rt2 (a : Nat) : Nat := if rt1 a * rt1 a % PP = a then rt1 a else rt1 a * rti % PP
def zd (a : Nat) : Bool := decide (rt2 a * rt2 a % PP = a)
def rt3 (a : Nat) : Nat := if zd a then (if rt2 a % 2 = 1 then PP - rt2 a else rt2 a) else 0
theorem ent81 : _root_.Go.Enters Tryz.prog 81 := ⟨_, Tryz.func81, by kernel_rfl, by kernel_rfl⟩
theorem qbM (x : Nat) (h : x < PP) : x < 4096 ^ 22 := Nat.lt_trans h qdc
end
section
open Go.RowKit Go.Lib
def e4 (n : Nat) : Array Value := row .u64 4 (dg 18446744073709551616 n)
theorem qd (n : Nat) : (e4 n).size = 4 := Qc _ _ _
def ElP (r : Nat) (w : World) (e : Ending) (w' : World) : Prop := ∃ m : Nat, m < 115792089237316195423570985008687907853269984665640564039457584007913129639936 ∧ m % PP = r ∧ e = .returned (.agg (e4 m)) ∧ Below w.heap.size w w'
theorem qbr (n i : Nat) : 0 ≤ dg 18446744073709551616 n i := (Zd _ n i (by decide)).1
theorem qaR (n i : Nat) : dg 18446744073709551616 n i < 18446744073709551616 := (Zd _ n i (by decide)).2
theorem qbR : (18446744073709551616 : Int) ^ 4 = 115792089237316195423570985008687907853269984665640564039457584007913129639936 := by decide +kernel
theorem n64_4 : (18446744073709551616 : Nat) ^ 4 = 115792089237316195423570985008687907853269984665640564039457584007913129639936 := by decide +kernel
theorem qcr (n : Nat) (h : n < 115792089237316195423570985008687907853269984665640564039457584007913129639936) : qp 18446744073709551616 (dg 18446744073709551616 n) 4 = n := by
 have := QZ 18446744073709551616 n 4
 rw [n64_4, Nat.mod_eq_of_lt h] at this
 exact this
theorem qbV (h : Nat → Int) (hd : ∀ j, j < 4 → 0 ≤ h j ∧ h j < 18446744073709551616) : ∃ m : Nat, m < 115792089237316195423570985008687907853269984665640564039457584007913129639936 ∧ row .u64 4 h = e4 m ∧ qp 18446744073709551616 h 4 = m := by
 have h0 := Qb 18446744073709551616 (by decide) h 4 (fun i hi => (hd i hi).1)
 have h1 := ZA 18446744073709551616 (by decide) h 4 (fun i hi => (hd i hi).2)
 rw [qbR] at h1
 obtain ⟨m, hm⟩ := Int.eq_ofNat_of_zero_le h0
 refine ⟨m, by omega, q7 _ _ _ _ (zm 18446744073709551616 h m 4 hd hm), hm⟩
theorem mod38 (A A' o o' : Nat) (h : A' + o' * 115792089237316195423570985008687907853269984665640564039457584007913129639936 = A + 38 * o) : (A' + o' * 115792089237316195423570985008687907853269984665640564039457584007913129639936) % PP = (A + o * 115792089237316195423570985008687907853269984665640564039457584007913129639936) % PP := by
 have e : 115792089237316195423570985008687907853269984665640564039457584007913129639936 = 38 + 2 * PP := by decide +kernel
 rw [h, e, Nat.mul_add, ← Nat.add_assoc, show o * (2 * PP) = PP * (2 * o) by ac_rfl, Nat.add_mul_mod_self_left, Nat.mul_comm 38 o]
theorem fold_step (S D g c r q : Int) (F : Int) (h : S + c * D = F) (hr : g + c = r + 18446744073709551616 * q) : (S + r * D) + q * (D * 18446744073709551616) = F + g * D := by
 have : g = r + 18446744073709551616 * q - c := by omega
 subst this; grind
theorem fold_any (n o : Nat) (hn : n < 115792089237316195423570985008687907853269984665640564039457584007913129639936) (ho : o < 18446744073709551616) (w : World) :
 Calls Tryz.prog 249 #[.agg (e4 n), .int .u64 o] w (ElP ((n + o * 115792089237316195423570985008687907853269984665640564039457584007913129639936) % PP) w) := by
 obtain ⟨r, hr⟩ : ∃ r, r = (n + o * 115792089237316195423570985008687907853269984665640564039457584007913129639936) % PP := ⟨_, rfl⟩
 rw [← hr]
 have Hn := Lib.hid hn; clear hn
 have Ho := Lib.hid ho; clear ho
 have Hr := Lib.hid hr; clear hr
 go_enter Tryz.func249, Tryz.ntmps249
 go_wp2_with fail
 go_loopg [1] (n + o * 115792089237316195423570985008687907853269984665640564039457584007913129639936) (fun gk s wr => ∃ A ov : Nat, gk = A + ov * 115792089237316195423570985008687907853269984665640564039457584007913129639936 ∧ gk % PP = r ∧ A < 115792089237316195423570985008687907853269984665640564039457584007913129639936 ∧ ov < 18446744073709551616 ∧ s = .int .u64 ov ∧ Has wr w.heap.size (e4 A) 180 ∧ HasN wr (w.heap.size + 1) 4 180 ∧ Below w.heap.size w wr)
 case atStart => exact ⟨n, o, rfl, Hr.out.symm, Hn.out, Ho.out, rfl, (Has.new _ _ _).alloc _, HasN.new1 _ _ _ _ 4 rfl, Qp _ _ _⟩
 case round =>
  obtain ⟨A, ov, hgk, hmod, hA, hov, rfl, m0, m1, hB⟩ := hrel
  by_cases hz : 0 < ov
  · have hdec : (A : Int) = qp 18446744073709551616 (dg 18446744073709551616 A) 4 := (qcr A hA).symm
    have hm := fun w => mul64 (ov : Int) 38 (by omega) (by omega) (by omega) (by omega) w
    obtain ⟨hi, hhi⟩ : ∃ x : Int, x = (ov : Int) * 38 / 18446744073709551616 := ⟨_, rfl⟩
    obtain ⟨lo, hlo⟩ : ∃ x : Int, x = (ov : Int) * 38 % 18446744073709551616 := ⟨_, rfl⟩
    rw [← hhi, ← hlo] at hm
    have hi0 : 0 ≤ hi := by omega
    have hi1 : hi ≤ 37 := by omega
    have lo0 : 0 ≤ lo := by omega
    have lo1 : lo < 18446744073709551616 := by omega
    have hsplit : lo + hi * 18446744073709551616 = 38 * (ov : Int) := by omega
    have M0 := Lib.hid m0; clear m0
    have M1 := Lib.hid m1; clear m1
    have Hgk := Lib.hid hgk; clear hgk
    have Hmod := Lib.hid hmod; clear hmod
    have HA := Lib.hid hA; clear hA
    have Hdec := Lib.hid hdec; clear hdec
    have Hm := Lib.hid hm; clear hm
    have Hsplit := Lib.hid hsplit; clear hsplit
    clear hhi hlo
    go_wp2_with fail
    refine (Hm.out _).mono ?_
    rintro e w2 ⟨rfl, rfl⟩
    go_wp2_with fail
    obtain ⟨w3, rfl⟩ : ∃ w3 : World, w3 = wr := ⟨_, rfl⟩
    go_loopw [6, 15] (fun s i wr => ∃ (k : Nat) (h : Nat → Int) (c : Int), k ≤ 4 ∧ i = .int .i64 k ∧ s = .int .u64 c ∧ 0 ≤ c ∧ c < 18446744073709551616 ∧ (1 ≤ k → c ≤ 38) ∧ (∀ j, j < k → 0 ≤ h j ∧ h j < 18446744073709551616) ∧ (∀ j, k ≤ j → h j = dg 18446744073709551616 A j) ∧ qp 18446744073709551616 h k + c * 18446744073709551616 ^ k = qp 18446744073709551616 (dg 18446744073709551616 A) k + (if k = 0 then lo else 38 * (ov : Int)) ∧ Has wr w.heap.size (row .u64 4 h) 180 ∧ HasN wr (w.heap.size + 1) 4 180 ∧ Below w.heap.size w wr) (fun _ i _ => 4 - (RowKit.intOf i).toNat)
    case atStart => exact ⟨0, dg 18446744073709551616 A, lo, by omega, rfl, rfl, lo0, lo1, fun h => by omega, fun j hj => by omega, fun _ _ => rfl, by simp [qp], M0.out, M1.out, hB⟩
    case round =>
     clear M0 M1 hB
     obtain ⟨k, h, c, hk, rfl, rfl, c0, c1, hc, hd, hg, hs, m0, m1, hB⟩ := hrel
     have M0 := Lib.hid m0; clear m0
     have M1 := Lib.hid m1; clear m1
     have Hc := Lib.hid hc; clear hc
     have Hd := Lib.hid hd; clear hd
     have Hg := Lib.hid hg; clear hg
     have Hs := Lib.hid hs; clear hs
     by_cases hlt : k < 4
     · have h1 := M0.out.cell k hlt
       have hfz := M0.out.frozen k
       have x0 := qbr A k
       have x1 := qaR A k
       rw [Hg.out k (Nat.le_refl _)] at h1
       obtain ⟨x, hx⟩ : ∃ x, x = dg 18446744073709551616 A k := ⟨_, rfl⟩
       rw [← hx] at h1 x0 x1
       have ka := fun w => qbo x c x0 c0 w
       obtain ⟨s, hss⟩ : ∃ s, s = (x + c) % 18446744073709551616 := ⟨_, rfl⟩
       obtain ⟨d, hdd⟩ : ∃ d, d = (x + c) / 18446744073709551616 := ⟨_, rfl⟩
       rw [← hss, ← hdd] at ka
       have s0 : 0 ≤ s := by omega
       have s1 : s < 18446744073709551616 := by omega
       have d0 : 0 ≤ d := by omega
       have d1 : d ≤ 1 := by omega
       have hsum : x + c = s + 18446744073709551616 * d := by omega
       have Hx := Lib.hid hx; clear hx
       have Hsum := Lib.hid hsum; clear hsum
       clear hss hdd
       by_cases hk0 : k = 0
       · subst hk0
         go_wp2_with fail
         go_roundw
         case measure => simp [RowKit.intOf]
         case rel =>
          refine ⟨1, upd h 0 s, d + hi, by omega, by go_num, rfl, by omega, by omega, fun _ => by omega, ?_, ?_, ?_, M0.out.set _ _, M1.out.other _ _ (by simp <;> omega), by first | exact hB.setCell (Nat.le_refl _) _ | exact (hB.setCell (Nat.le_refl _) _).drew⟩
          · intro j hj
            obtain rfl : j = 0 := by omega
            rw [qr]; exact ⟨s0, s1⟩
          · intro j hj; rw [qt _ _ _ _ (by omega)]; exact Hg.out j (by omega)
          · have := Hsum.out
            have h3 := Hsplit.out
            have h4 := Hs.out
            simp only [qp, qr, Int.pow_zero, Int.mul_one, Int.zero_add, if_true, Int.pow_one] at h4 ⊢
            rw [if_neg (by decide), ← Hx.out]
            omega
       · have ht : ((k : Int) == 0) = false := by simp; omega
         go_wp2_with fail
         go_roundw
         case measure => simp [RowKit.intOf]; omega
         case rel =>
          refine ⟨k + 1, upd h k s, d, by omega, by go_num, rfl, by omega, by omega, fun _ => by omega, ?_, ?_, ?_, M0.out.set _ _, M1.out.other _ _ (by simp <;> omega), by first | exact hB.setCell (Nat.le_refl _) _ | exact (hB.setCell (Nat.le_refl _) _).drew⟩
          · intro j hj
            by_cases e : j = k
            · subst e; rw [qr]; exact ⟨s0, s1⟩
            · rw [qt _ _ _ _ e]; exact Hd.out j (by omega)
          · intro j hj; rw [qt _ _ _ _ (by omega)]; exact Hg.out j (by omega)
          · have h4 := Hs.out
            rw [if_neg hk0] at h4
            rw [if_neg (by omega)]
            simp only [qp]
            rw [qQ _ _ _ _ _ (Nat.le_refl _), qr, ← Hx.out, Int.pow_succ]
            have := fold_step _ _ x _ _ _ _ h4 Hsum.out
            omega
     · obtain rfl : k = 4 := by omega
       obtain ⟨A', hA', hrow, hsum⟩ := qbV h Hd.out
       have hs4 := Hs.out
       rw [hsum, ← Hdec.out, if_neg (by omega), qbR] at hs4
       have m0 := M0.out
       rw [hrow] at m0
       have hc38 := Hc.out (by omega)
       obtain ⟨o', rfl⟩ := Int.eq_ofNat_of_zero_le c0
       have hnum : A' + o' * 115792089237316195423570985008687907853269984665640564039457584007913129639936 = A + 38 * ov := by omega
       have hmod2 : (A' + o' * 115792089237316195423570985008687907853269984665640564039457584007913129639936) % PP = r := by rw [mod38 A A' ov o' hnum, ← Hgk.out]; exact Hmod.out
       have hms : A' + o' * 115792089237316195423570985008687907853269984665640564039457584007913129639936 < gk := by rw [Hgk.out]; omega
       have M0 := Lib.hid m0; clear m0
       have Hmod2 := Lib.hid hmod2; clear hmod2
       have Hms := Lib.hid hms; clear hms
       have HA' := Lib.hid hA'; clear hA'
       clear hrow hsum hs4 hnum
       go_wp2_with fail
       go_roundg (A' + o' * 115792089237316195423570985008687907853269984665640564039457584007913129639936)
       case measure => exact Hms.out
       case rel => exact ⟨A', o', rfl, Hmod2.out, HA'.out, by omega, rfl, M0.out, M1.out, hB⟩
  · obtain rfl : ov = 0 := by omega
    have hfin : A % PP = r := by rw [← hmod, hgk, Nat.zero_mul, Nat.add_zero]
    obtain ⟨Z, hZ, mz⟩ := m1
    have HBB := Lib.hid (below_setRow hB (w.heap.size + 1) (e4 A) (by omega))
    have M0 := Lib.hid m0; clear m0
    have Mz := Lib.hid mz; clear mz
    have HZ := Lib.hid hZ; clear hZ
    have Hfin := Lib.hid hfin; clear hfin
    have HA := Lib.hid hA; clear hA
    clear hmod hgk hov
    go_wp2_with (first | (refine wpList_load_row rfl 180 _ rfl (w.heap.size) rfl 180 (e4 A) (0, 0) _ M0.out Tryz.underlying180 rfl (by rw [qd]; kernel_rfl) ?_) | (refine wpList_store_row rfl 180 _ _ rfl (w.heap.size + 1) _ rfl rfl 180 Z Mz.out (by rw [qd]; kernel_rfl) (HZ.out.trans (qd _).symm) (qo _ _ _) ?_))
    exact bodyPost_ret (v := .agg (e4 A)) (results_cell_row (t := 180) (by rfl) _ _ (w.heap.size + 1) _ _ _ rfl (Mz.out.setRow _) Tryz.underlying180 rfl (by rw [qd]; kernel_rfl)) rfl ⟨A, HA.out, Hfin.out, rfl, HBB.out⟩
end
end Go.Proofs.YtbgefoamhdgnaaaGreatDoor
section
namespace Go
variable {P : Program} {ops : Array Oper} {Q : Exit → Act → World → Prop} {S : World → Prop} {a : Act} {w : World}
theorem zf {o : Oper} (hw : Region.wanted o (yielded ops a.tmps) = true) (t : TypeId) (parts : Array (Nat × Operand)) (ho : o.op = .build t parts) (pl : List (Nat × Value)) (hv : parts.toList.map (fun p => (p.1, a.eval p.2)) = pl) (cells : Array Value) (hc : P.built t pl = some cells) : YieldsIf P ops S o (.agg cells) a := by
 refine Or.inl ⟨hw, fun w _ => ?_⟩
 have hc2 : P.built t (parts.map fun (i, x) => (i, a.eval x)).toList = some cells := by
  rw [Array.toList_map, ← hc, ← hv]
 unfold execOp
 simp only [ho, Sem.run_bind, run_build w t _ cells hc2, Result.andThen_ok]
 rfl
theorem Qw {rest : List Oper} {o : Oper} (hw : Region.wanted o (yielded ops a.tmps) = true) (t : TypeId) (parts : Array (Nat × Operand)) (ho : o.op = .build t parts) (pl : List (Nat × Value)) (hv : parts.toList.map (fun p => (p.1, a.eval p.2)) = pl) (cells : Array Value) (hc : P.built t pl = some cells)
 (d : Tmp) (hd : o.dst = some d) (h : wpList P ops Q rest { a with tmps := a.tmps.setIfInBounds d (.agg cells) } w) : wpList P ops Q (o :: rest) a w := by
 rcases zf (ops := ops) (S := fun _ => True) hw t parts ho pl hv cells hc with ⟨_, h1⟩ | ⟨h1, _⟩
 · refine wpList_step fun K hK => ?_
   rw [if_pos hw]
   unfold Oper.wp
   rw [h1 w trivial, Oper.upon_value]
   refine hK _ _ ?_
   rw [QB hd]; exact h
 · rw [hw] at h1; cases h1
theorem qE {rest : List Oper} {o : Oper} (hw : Region.wanted o (yielded ops a.tmps) = true) (ty : TypeId) (ho : o.op = .alloc ty) (Z : Array Value)
 (hz : ∀ w : World, (Instr.alloc ty true (.tuple #[])).run P w = .ok (.pointer (some ⟨w.heap.size, 0, none⟩)) (w.alloc (.cells Z ty))) (d : Tmp) (hd : o.dst = some d)
 (h : ∀ w2, w2 = w.alloc (.cells Z ty) → wpList P ops Q rest { a with tmps := a.tmps.setIfInBounds d (.pointer (some ⟨w.heap.size, 0, none⟩)) } w2) : wpList P ops Q (o :: rest) a w := by
 refine wpList_step fun K hK => ?_
 rw [if_pos hw]
 unfold Oper.wp execOp
 simp only [ho, Sem.run_bind, Sem.run_pure, hz, Result.andThen_ok]
 refine hK _ _ ?_
 rw [QB hd]; exact h _ rfl
theorem ql {rest : List Oper} {o : Oper} (hw : Region.wanted o (yielded ops a.tmps) = true) (ty : TypeId) (x y : Operand) (ho : o.op = .store ty x y) (hd : o.dst = none)
 (g : Nat) (cells : Array Value) (hx : a.eval x = .pointer (some ⟨g, 0, none⟩)) (hy : a.eval y = .agg cells)
 (t : TypeId) (old : Array Value) (hg : w.heap[g]? = some (.cells old t (0, 0))) (hi : (P.info? ty).map (·.size) = some cells.size)
 (hold : old.size = cells.size) (h1 : cells.all (·.oneCell') = true)
 (h : ∀ w2, w2 = w.setRow g cells → wpList P ops Q rest a w2) : wpList P ops Q (o :: rest) a w := by
 refine wpList_step fun K hK => ?_
 rw [if_pos hw]
 refine wp_store_row ty x y ho g cells hx hy t old hg hi hold h1 ?_
 refine hK _ _ ?_
 rw [Z9 hd]; exact h _ rfl
theorem QO {rest : List Oper} {o : Oper} (hw : Region.wanted o (yielded ops a.tmps) = true) (ty : TypeId) (x : Operand) (ho : o.op = .load ty x) (b i : Nat) (hx : a.eval x = .pointer (some ⟨b, i, none⟩)) (cs : List Value) (c : Array Value) (hcc : c = cs.toArray)
 (hr : w.rangeAt b i cs) (d : TypeDesc) (hu : P.underlying ty = some d) (hd : d.isRow = true) (hi : (P.info? ty).map (·.size) = some cs.length)
 (e : Tmp) (he : o.dst = some e) (h : wpList P ops Q rest { a with tmps := a.tmps.setIfInBounds e (.agg c) } w) : wpList P ops Q (o :: rest) a w := by
 have hy := yieldsIf_load_mid (ops := ops) (S := fun w' => w' = w) hw ty x ho b i hx cs d (fun w' h' => by rw [h']; exact hr) hu hd hi
 rcases hy with ⟨_, h1⟩ | ⟨h1, _⟩
 · refine wpList_step fun K hK => ?_
   rw [if_pos hw]
   unfold Oper.wp
   rw [h1 w rfl, Oper.upon_value]
   refine hK _ _ ?_
   rw [QB he, ← hcc]; exact h
 · rw [hw] at h1; cases h1
theorem Qq {o : Oper} (hw : Region.wanted o (yielded ops a.tmps) = true) (ty : TypeId) (x : Operand) (ho : o.op = .load ty x) (b i : Nat) (hx : a.eval x = .pointer (some ⟨b, i, none⟩)) (cs : List Value) (c : Array Value) (hcc : c = cs.toArray)
 (hS : ∀ w, S w → w.rangeAt b i cs) (d : TypeDesc) (hu : P.underlying ty = some d) (hd : d.isRow = true) (hi : (P.info? ty).map (·.size) = some cs.length) : YieldsIf P ops S o (.agg c) a := by
 rw [hcc]; exact yieldsIf_load_mid hw ty x ho b i hx cs d hS hu hd hi
end Go
namespace Go.Proofs.YtbgefoamhdgnaaaGreatDoor
open Go.RowKit Go.Lib
def e4l (n : Nat) : List Value := ze .u64 4 (dg 18446744073709551616 n)
theorem Zc (n : Nat) : (e4l n).length = 4 := zQ _ _ _
def pt (x y z : Nat) (b : Bool) : Array Value := (e4l x ++ e4l y ++ e4l z ++ [Value.bool b]).toArray
theorem qn (x y z : Nat) (b : Bool) : (pt x y z b).size = 13 := by simp [pt, Zc]
theorem Qx (x y z : Nat) (b : Bool) : (pt x y z b).all (·.oneCell') = true := by
 simp [pt, e4l, ze, List.all_eq_true, Value.oneCell']
def zk (n : Nat) : List Value := ze .i64 22 (dg 4096 n)
theorem r22_l (n : Nat) : r22 n = (zk n).toArray := rfl
theorem q9 (n : Nat) : (zk n).length = 22 := zQ _ _ _
def rp (x y z t : Nat) : Array Value := (zk x ++ zk y ++ zk z ++ zk t).toArray
theorem qL (x y z t : Nat) : (rp x y z t).size = 88 := by simp [rp, q9]
theorem qaH (x y z t : Nat) : (rp x y z t).all (·.oneCell') = true := by
 simp [rp, zk, ze, List.all_eq_true, Value.oneCell']
theorem zh {w : World} {b : Nat} {t : TypeId} {l1 l2 l3 : List Value} (h : Has w b (l1 ++ l2 ++ l3).toArray t) : w.rangeAt b l1.length l2 := fun j v hv => by
 have hj : j < l2.length := (List.getElem?_eq_some_iff.1 hv).1
 rw [h.cellAt]
 simp only [List.getElem?_toArray]
 rw [List.append_assoc, List.getElem?_append_right (by omega), List.getElem?_append_left (by omega), show l1.length + j - l1.length = j by omega, hv]
theorem pt_x {w : World} {b : Nat} {t : TypeId} {x y z : Nat} {o : Bool} (h : Has w b (pt x y z o) t) : w.rangeAt b 0 (e4l x) := by
 have h2 : Has w b ([] ++ e4l x ++ (e4l y ++ e4l z ++ [Value.bool o])).toArray t := by simpa [pt] using h
 exact zh h2
theorem pt_y {w : World} {b : Nat} {t : TypeId} {x y z : Nat} {o : Bool} (h : Has w b (pt x y z o) t) : w.rangeAt b 4 (e4l y) := by
 have h2 : Has w b (e4l x ++ e4l y ++ (e4l z ++ [Value.bool o])).toArray t := by simpa [pt] using h
 have := zh h2
 rwa [Zc] at this
theorem pt_z {w : World} {b : Nat} {t : TypeId} {x y z : Nat} {o : Bool} (h : Has w b (pt x y z o) t) : w.rangeAt b 8 (e4l z) := by
 have h2 : Has w b ((e4l x ++ e4l y) ++ e4l z ++ [Value.bool o]).toArray t := by simpa [pt] using h
 have := zh h2
 rwa [List.length_append, Zc, Zc] at this
theorem pt_w {w : World} {b : Nat} {t : TypeId} {x y z : Nat} {o : Bool} (h : Has w b (pt x y z o) t) : w.cell? ⟨b, 12, none⟩ = some (.bool o) := by
 rw [h.cellAt]; simp [pt, Zc]
theorem rp_x {w : World} {b : Nat} {t : TypeId} {x y z s : Nat} (h : Has w b (rp x y z s) t) : w.rangeAt b 0 (zk x) := by
 have h2 : Has w b ([] ++ zk x ++ (zk y ++ zk z ++ zk s)).toArray t := by simpa [rp] using h
 exact zh h2
theorem rp_y {w : World} {b : Nat} {t : TypeId} {x y z s : Nat} (h : Has w b (rp x y z s) t) : w.rangeAt b 22 (zk y) := by
 have h2 : Has w b (zk x ++ zk y ++ (zk z ++ zk s)).toArray t := by simpa [rp] using h
 have := zh h2
 rwa [q9] at this
theorem rp_z {w : World} {b : Nat} {t : TypeId} {x y z s : Nat} (h : Has w b (rp x y z s) t) : w.rangeAt b 44 (zk z) := by
 have h2 : Has w b ((zk x ++ zk y) ++ zk z ++ zk s).toArray t := by simpa [rp] using h
 have := zh h2
 rwa [List.length_append, q9, q9] at this
theorem bd36z : Tryz.prog.built 180 [] = some (e4 0) := by kernel_rfl
theorem bd53z : Tryz.prog.built 182 [] = some (pt 0 0 0 false) := by kernel_rfl
theorem bd53 (x y z : Nat) (b : Bool) : Tryz.prog.built 182 [(0, .agg (e4 x)), (1, .agg (e4 y)), (2, .agg (e4 z)), (3, .bool b)] = some (pt x y z b) := by kernel_rfl
theorem bd57 (x y z t : Nat) : Tryz.prog.built 103 [(0, .agg (r22 x)), (1, .agg (r22 y)), (2, .agg (r22 z)), (3, .agg (r22 t))] = some (rp x y z t) := by kernel_rfl
theorem bd57o (y z : Nat) : Tryz.prog.built 103 [(1, .agg (r22 y)), (2, .agg (r22 z))] = some (rp 0 y z 0) := by kernel_rfl
def z53 : Array Value := (#[.int .u64 0, .int .u64 0, .int .u64 0, .int .u64 0, .int .u64 0, .int .u64 0, .int .u64 0, .int .u64 0, .int .u64 0, .int .u64 0, .int .u64 0, .int .u64 0, .bool false] : Array Value)
theorem al53 (w : World) : (Instr.alloc 182 true (.tuple #[])).run Tryz.prog w = .ok (.pointer (some ⟨w.heap.size, 0, none⟩)) (w.alloc (.cells z53 182)) := by
 unfold z53
 go_simp
theorem al57 (w : World) : (Instr.alloc 103 true (.tuple #[])).run Tryz.prog w = .ok (.pointer (some ⟨w.heap.size, 0, none⟩)) (w.alloc (.cells Tryz.zeroCells103 103)) := by
 go_simp
theorem qaz {P : Program} {fn : Func} {p q r : Tmp} {ty : TypeId} (h : fn.results = #[.cell p ty, .cell q ty, .cell r ty]) (tmps : Array Value) (w : World) (g1 g2 g3 : Nat) (t1 t2 t3 : TypeId) (c1 c2 c3 : Array Value) (d : TypeDesc)
 (hp : tmps.getD p undef = .pointer (some ⟨g1, 0, none⟩)) (hq : tmps.getD q undef = .pointer (some ⟨g2, 0, none⟩)) (hr : tmps.getD r undef = .pointer (some ⟨g3, 0, none⟩))
 (h1 : w.heap[g1]? = some (.cells c1 t1 (0, 0))) (h2 : w.heap[g2]? = some (.cells c2 t2 (0, 0))) (h3 : w.heap[g3]? = some (.cells c3 t3 (0, 0)))
 (hu : P.underlying ty = some d) (hd : (match d with | .struct _ | .array _ _ => true | _ => false) = true) (i1 : (P.info? ty).map (·.size) = some c1.size) (i2 : (P.info? ty).map (·.size) = some c2.size) (i3 : (P.info? ty).map (·.size) = some c3.size) :
 (results fn tmps).run P w = .ok (.tuple #[.agg c1, .agg c2, .agg c3]) w := by
 have hp' : tmps[p]?.getD undef = .pointer (some ⟨g1, 0, none⟩) := by simpa using hp
 have hq' : tmps[q]?.getD undef = .pointer (some ⟨g2, 0, none⟩) := by simpa using hq
 have hr' : tmps[r]?.getD undef = .pointer (some ⟨g3, 0, none⟩) := by simpa using hr
 simp [results, h, hp', hq', hr', asAddr, run_loadVar_row w g1 t1 ty c1 _ d h1 hu hd i1, run_loadVar_row w g2 t2 ty c2 _ d h2 hu hd i2, run_loadVar_row w g3 t3 ty c3 _ d h3 hu hd i3]
end Go.Proofs.YtbgefoamhdgnaaaGreatDoor
end
section
namespace Go
open Go.RowKit
variable {P : Program} {ops : Array Oper} {Q : Exit → Act → World → Prop} {l n : Nat} {a : Act} {w : World}
def qan (ops : Array Oper) : Bool := ops.all fun o => match o.op with | .defer _ => false | _ => true
theorem qcM (h : qan ops = true) (i : Nat) (o : Oper) (hi : ops[i]? = some o) : ∀ c, o.op ≠ .defer c := fun c hc => by
 have h1 := Array.all_eq_true_iff_forall_mem.1 h o (Array.mem_of_getElem? hi)
 rw [hc] at h1
 cases h1
theorem qaB {o : Oper} (hd : ∀ c, o.op ≠ .defer c) {K : Act → World → Prop} (h : o.wp P a w K Q) : o.wpIn (Fence.wide.inRound l) n P a w K Q := by
 refine ⟨fun _ _ => trivial, ?_⟩
 show o.uponIn _ n P a K Q ((o.semAt (some l) a.eval).run P w)
 rw [Oper.semAt_some l _ o hd]
 unfold Oper.wp at h
 generalize (execOp a.eval o).run P w = r at *
 cases r with
 | ok x w' =>
  cases x with
  | value v => exact h
  | skip => exact h
  | defer d => exact h
  | enter f args => exact ⟨fun e => (by cases e), CallsIn.inRound l (callsIn_wide.2 h)⟩
  | row row args => exact ⟨fun e => (by cases e), fun c cs _ => let ⟨v, w2, hr, hs⟩ := h c cs; ⟨v, w2, hr, stepsIn_wide.2 hs⟩⟩
  | _ => exact h.elim
 | halt x w' => cases x <;> exact h
theorem op_in_round (hd : qan ops = true) (hQ : ¬ LetsOut Q) {i : Nat} {K : Act → World → Prop} (h : wpOp P ops Q i K a w) : wpOpIn (Fence.wide.inRound l) n P ops Q i K a w := by
 unfold wpOp at h
 unfold wpOpIn
 cases hi : ops[i]? with
 | none => simp only [hi] at h ⊢; exact h
 | some o =>
  simp only [hi] at h ⊢
  split
  · rename_i hw
    rw [if_pos hw] at h
    rcases h with h | ⟨_, h⟩
    · exact qaB (qcM hd i o hi) h
    · exact (hQ h).elim
  · rename_i hw
    rw [if_neg hw] at h
    exact ⟨fun _ _ => trivial, h⟩
theorem any_in_round (hd : qan ops = true) (hQ : ¬ LetsOut Q) {md : Region.Mode} : ∀ (f : Nat) (listed : Array Bool) (a : Act) (w : World), wpAny P md ops Q f listed a w → wpAnyIn (Fence.wide.inRound l) n P md ops Q f listed a w := by
 intro f
 induction f with
 | zero => intro _ _ _ h; exact h
 | succ f ih => intro listed a w h; exact ⟨h.1, fun j hj => op_in_round hd hQ (wpOp_mono (fun a' w' h' => ih _ a' w' h') (h.2 j hj))⟩
theorem qdj (hd : qan ops = true) (hQ : ¬ LetsOut Q) : ∀ (rest : List Oper) (_ : ∀ o ∈ rest, o ∈ ops) (a : Act) (w : World), wpList P ops Q rest a w → wpListIn (Fence.wide.inRound l) n P ops Q rest a w := by
 intro rest
 induction rest with
 | nil => intro _ _ _ h; exact h
 | cons o rest ih =>
  intro hr a w h
  unfold wpList at h
  unfold wpListIn
  split
  · rename_i hw
    rw [if_pos hw] at h
    rcases h with h | ⟨_, h⟩
    · obtain ⟨i, hi⟩ := Array.getElem?_of_mem (hr o (by simp))
      exact qaB (qcM hd i o hi) (Oper.wp_mono (fun a' w' h' => ih (fun o' ho' => hr o' (by simp [ho'])) a' w' h') h)
    · exact (hQ h).elim
  · rename_i hw
    rw [if_neg hw] at h
    exact ⟨fun _ _ => trivial, ih (fun o' ho' => hr o' (by simp [ho'])) _ _ h⟩
theorem qZ {l0 : List Oper} (hd : qan l0.toArray = true) (h : wpList P l0.toArray Q l0 a w) (hQ : ¬ LetsOut Q := by exact fun ⟨_, _, h⟩ => h) : wpListIn (Fence.wide.inRound l) n P l0.toArray Q l0 a w :=
 qdj hd hQ l0 (fun o ho => by simpa using ho) a w h
theorem ZX {F : Fence} {id : Nat} {b : Bool} (h : (Code.region id ops b).wpIn F n P (NoPanic Q) a w) : (Code.region id ops b).wpIn F n P Q a w := wpIn_mono h NoPanic.imp
theorem wpr_goS {id : Nat} (S : World → Prop) (f N : Nat) (l0 : Array Bool) (hm : (P.follows .mixedOrders && qan ops) = true) (hN : ops.size = N) (hl : Array.replicate N false = l0)
 (h : Qg P .any ops Q f S N l0 a w.drew) (hQ : ¬ LetsOut Q := by exact fun ⟨_, _, h⟩ => h) : (Code.region id ops true).wpIn (Fence.wide.inRound l) n P Q a w := by
 obtain ⟨h1, h2⟩ := (Bool.and_eq_true _ _).mp hm
 refine wpIn_region_any h1 (any_in_round h2 hQ _ _ _ _ (qaP (f := f) (S := S) _ _ _ _ ?_))
 subst hl; subst hN; exact h
structure But (B : Nat) (A W : World) : Prop where
 os : W.os = A.os
 tape : W.tape = A.tape
 output : W.output = A.output
 size : A.heap.size ≤ W.heap.size
 block : ∀ k, k < A.heap.size → k ≠ B → W.heap[k]? = A.heap[k]?
theorem But.refl (B : Nat) (W : World) : But B W W := ⟨rfl, rfl, rfl, Nat.le_refl _, fun _ _ _ => rfl⟩
theorem But.call {B : Nat} {A W W' : World} (h : But B A W) (hb : Below W.heap.size W W') : But B A W' :=
 ⟨hb.os.trans h.os, hb.tape.trans h.tape, hb.output.trans h.output, Nat.le_trans h.size hb.size, fun k hk hn => (hb.block k (Nat.lt_of_lt_of_le hk h.size)).trans (h.block k hk hn)⟩
theorem But.drew {B : Nat} {A W : World} (h : But B A W) : But B A W.drew := ⟨h.os, h.tape, h.output, h.size, h.block⟩
theorem But.setRow_other {B : Nat} {A W : World} (h : But B A W) (g : Nat) (c : Array Value) (hg : g = B) : But B A (W.setRow g c) := by
 have h2 := Go.Proofs.YtbgefoamhdgnaaaGreatDoor.below_setRow (Below.refl 0 W) g c (Nat.zero_le _)
 exact ⟨h2.os.trans h.os, h2.tape.trans h.tape, h2.output.trans h.output, Nat.le_trans h.size h2.size, fun k hk hn => (Go.setRow_other W g k c (by omega)).trans (h.block k hk hn)⟩
theorem But.others {B : Nat} {A W : World} (h : But B A W) {c : Array Value} {t : TypeId} (hB : Go.Proofs.YtbgefoamhdgnaaaGreatDoor.Has A B c t) : KeepsOthers A W :=
 ⟨h.size, fun k o hk ho => (h.block k (Array.getElem?_eq_some_iff.1 hk).1 (fun e => by
  subst e
  have e2 : some o = some (.cells c t (0, 0)) := hk.symm.trans hB
  obtain rfl := Option.some.inj e2
  cases ho)).trans hk⟩
def qbq (b1 b2 : Nat) (A W : World) : Prop := W.heap[b1]? = A.heap[b1]? ∧ W.heap[b2]? = A.heap[b2]?
theorem keep2_t {b1 b2 : Nat} {A B C : World} (h : qbq b1 b2 A B) (k : qbq b1 b2 B C) : qbq b1 b2 A C := ⟨k.1.trans h.1, k.2.trans h.2⟩
theorem keep2_b {b1 b2 : Nat} {w : World} (h1 : b1 < w.heap.size) (h2 : b2 < w.heap.size) (W : World) (l : Nat) (o o' : Obj) (hl : w.heap.size ≤ l) (_ : W.heap[l]? = some o) (_ : o.isCells = false) (_ : o.isWalk = false) : qbq b1 b2 W (W.putObj l o') := by
 have h (k : Nat) (hk : k ≠ l) : (W.putObj l o').heap[k]? = W.heap[k]? := by
  show (W.heap.setIfInBounds l o')[k]? = _
  rw [Array.getElem?_setIfInBounds_ne (fun e => hk e.symm)]
 exact ⟨h b1 (by omega), h b2 (by omega)⟩
theorem But.keep2 {B b1 b2 : Nat} {A W : World} (h : But B A W) (n1 : b1 ≠ B) (n2 : b2 ≠ B) (l1 : b1 < A.heap.size) (l2 : b2 < A.heap.size) : qbq b1 b2 A W := ⟨h.block b1 l1 n1, h.block b2 l2 n2⟩
theorem qcy {o : Oper} {c : Call} {x : Operand} {g : FuncId} {bs : Array Value} {vl : List Value} (ho : o.op = .call c) (hc : c.callee = .value x) (hx : a.eval x = .func (.func g) bs #[]) (he : Enters P g)
 (hv : c.args.toList.map a.eval = vl) (w : World) : (execOp a.eval o).run P w = .ok (.enter g (bs ++ vl.toArray)) w := by
 obtain ⟨fn, h1, h2, h3⟩ := he
 have h4 : fn.name ≠ "runtime.NumGoroutine" := by simpa using h2
 have h5 : c.args.map a.eval = vl.toArray := by apply Array.ext'; rw [← hv]; simp
 unfold execOp
 simp only [ho, resolve, hc, hx, h5]
 cases hb : fn.body with
 | none => rw [hb] at h3; cases h3
 | some code => simp [Deferred.ofValue, invoke, callFunc, h1, h4, hb]
theorem qax {o : Oper} {c : Call} {x : Operand} {g : FuncId} {bs : Array Value} {vl : List Value} {K : Act → World → Prop} {R : Ending → World → Prop} (ho : o.op = .call c) (hc : c.callee = .value x) (hx : a.eval x = .func (.func g) bs #[]) (he : Enters P g)
 (hv : c.args.toList.map a.eval = vl) (h : Calls P g (bs ++ vl.toArray) w R) (hR : ∀ e w', R e w' → ∃ v, e = .returned v ∧ K (a.put o.dst v) w') : o.wp P a w K Q := by
 unfold Oper.wp
 rw [qcy ho hc hx he hv w, Oper.upon_enter]
 refine h.mono fun e w' hr => ?_
 obtain ⟨v, rfl, hK⟩ := hR e w' hr
 exact hK
theorem qcU {md : Region.Mode} {f N : Nat} {S : World → Prop} {listed : Array Bool} (i : Nat) (d : Tmp) (l' : Array Bool) {oi : Oper} {c : Call} {x : Operand} {g : FuncId} {bs : Array Value} {vl : List Value} {R : Ending → World → Prop} (hi : ops[i]? = some oi) (hd : oi.dst = some d) (hl : listed.setIfInBounds i true = l') (hw : Region.wanted oi (yielded ops a.tmps) = true) (ho : oi.op = .call c) (hc : c.callee = .value x)
 (hx : a.eval x = .func (.func g) bs #[]) (he : Enters P g) (hv : c.args.toList.map a.eval = vl) (h : Calls P g (bs ++ vl.toArray) w R)
 (hR : ∀ e w', R e w' → ∃ v, e = .returned v ∧ (i ≠ f → S w') ∧ Qg P md ops Q f S N l' { a with tmps := a.tmps.setIfInBounds d v } w') : zX P md ops Q f S N listed a w i :=
 Zx hi hw (qax ho hc hx he hv h fun e w' hr => let ⟨v, h1, h2, h3⟩ := hR e w' hr; ⟨v, h1, h2, by rw [QB hd, hl]; exact h3⟩)
theorem qaO {rest : List Oper} {o : Oper} {c : Call} {x : Operand} {g : FuncId} {bs : Array Value} {vl : List Value} {R : Ending → World → Prop} (hw : Region.wanted o (yielded ops a.tmps) = true) (ho : o.op = .call c) (hc : c.callee = .value x)
 (hx : a.eval x = .func (.func g) bs #[]) (he : Enters P g) (hv : c.args.toList.map a.eval = vl) (h : Calls P g (bs ++ vl.toArray) w R)
 (d : Tmp) (hd : o.dst = some d) (hR : ∀ e w', R e w' → ∃ v, e = .returned v ∧ wpList P ops Q rest { a with tmps := a.tmps.setIfInBounds d v } w') : wpList P ops Q (o :: rest) a w :=
 wpList_step fun K hK => by
  rw [if_pos hw]
  exact Oper.wp_mono hK (qax ho hc hx he hv h fun e w' hr => let ⟨v, h1, h2⟩ := hR e w' hr; ⟨v, h1, by rw [QB hd]; exact h2⟩)
theorem go_storem {md : Region.Mode} {f N : Nat} {S : World → Prop} {listed : Array Bool} (i : Nat) (l' : Array Bool) {oi : Oper} (hi : ops[i]? = some oi) (hd : oi.dst = none) (hl : listed.setIfInBounds i true = l') (hw : Region.wanted oi (yielded ops a.tmps) = true) (ty : TypeId) (x y : Operand) (ho : oi.op = .store ty x y)
 (b o : Nat) (cells : Array Value) (hx : a.eval x = .pointer (some ⟨b, o, none⟩)) (hy : a.eval y = .agg cells) (ht : w.there b o cells.size) (hs : (P.info? ty).map (·.size) = some cells.size) (h1 : cells.all (·.oneCell') = true)
 (h : ∀ w2, w2 = w.setCells b o cells.toList → (i ≠ f → S w2) ∧ Qg P md ops Q f S N l' a w2) : zX P md ops Q f S N listed a w i :=
 Zx hi hw (wp_store_mid ty x y ho b o cells hx hy ht hs h1 (by have := h _ rfl; rw [Z9 hd, hl]; exact this))
theorem range_wide {α : Type} {g : Operand} {ps : Array Tmp} {assign body : Code} {n : Nat} (h1 : 1 ≤ n) {gf : Nat} {lb : Array Value} (hg : a.eval g = .func (.func gf) #[] lb) (eg : ∀ args w, (callFunc gf args).run P w = .ok (.enter gf args) w)
 {encs : α → Array Value} {Kp : World → World → Prop} {S Sp : List α → Prop} {N : Nat} {w0 : World} (hseq : SeqStopsK Fence.wide (n - 1) P gf lb encs Kp S Sp N w0)
 (hKt : ∀ {A B C : World}, Kp A B → Kp B C → Kp A C) (hKb : ∀ (W : World) (l : Nat) (o o' : Obj), w.heap.size ≤ l → W.heap[l]? = some o → o.isCells = false → o.isWalk = false → Kp W (W.putObj l o')) (hb0 : Below w0.heap.size w0 w) (hps : ∀ x, (encs x).size = ps.size)
 (I : List α → World → Prop) (hI : OwnFrom w.heap.size I) (h0 : I [] w) (asg : α → Array Value → Array Value)
 (hassign : ∀ (l : Nat) (x : α) (W : World) (K : Act → World → Prop), K { tmps := asg x ((ps.zip (encs x)).foldl (fun t (p, v) => t.setIfInBounds p v) a.tmps), defers := [] } W →
  assign.wpIn (Fence.wide.inRound l) (n - 1 - 1) P (Exit.then K (fun _ _ _ => False)) { tmps := (ps.zip (encs x)).foldl (fun t (p, v) => t.setIfInBounds p v) a.tmps, defers := [] } W)
 (hbody : ∀ (l : Nat) (pre : List α) (x : α) (W : World), I pre W → pre.length < N → body.wpIn (Fence.wide.inRound l) (n - 1 - 1) P (ownPostK Kp I (fun _ _ _ => False) (pre ++ [x]) W) { tmps := asg x ((ps.zip (encs x)).foldl (fun t (p, v) => t.setIfInBounds p v) a.tmps), defers := [] } W)
 (hdone : ∀ (D : Nat) (xs : List α) (W : World), w.heap.size ≤ D → S xs → I xs W → W.heap[D]? = some (.deferred (some [])) → Q .normal { a with defers := { target := .collected D, args := #[] } :: a.defers } W) :
 (Code.rangeFunc g ps assign body).wp P Q a w := by
 refine (wpIn_wide (n := n)).1 (wpIn_rangeFunc_ownF rfl h1 hg trivial eg hseq hKt hKb hb0 hps I (fun _ _ _ => False) hI (fun c s W W' row hs => hs.elim) h0 (fun x => { tmps := asg x ((ps.zip (encs x)).foldl (fun t (p, v) => t.setIfInBounds p v) a.tmps), defers := [] }) hassign hbody hdone (fun D c pre W _ _ h => h.elim))
end Go
namespace Go.Proofs.YtbgefoamhdgnaaaGreatDoor
open Go.RowKit
theorem But.grown {B : Nat} {A W W' : World} {r : Option Nat} (h : But B A W) (hg : W.grownBy W' r) (hr : ∀ k, r = some k → A.heap.size ≤ k) : But B A W' :=
 ⟨hg.os.trans h.os, hg.tape.trans h.tape, hg.output.trans h.output, Nat.le_trans h.size hg.size, fun k hk hn => (hg.block k (Nat.lt_of_lt_of_le hk h.size) (fun e => by have := hr k e.symm; omega)).trans (h.block k hk hn)⟩
theorem But.trans {B : Nat} {A W W' : World} (h : But B A W) (h2 : But B W W') : But B A W' :=
 ⟨h2.os.trans h.os, h2.tape.trans h.tape, h2.output.trans h.output, Nat.le_trans h.size h2.size, fun k hk hn => (h2.block k (Nat.lt_of_lt_of_le hk h.size) hn).trans (h.block k hk hn)⟩
def OwnI {β : Type} (A : World) (B : Nat) (t : TypeId) (C : β → Array Value → Prop) (s : β) (W : World) : Prop := ∃ c, C s c ∧ Has W B c t ∧ But B A W
theorem ownI_from {β : Type} {A : World} {B : Nat} {t : TypeId} {C : β → Array Value → Prop} (hB : B < A.heap.size) : OwnFrom A.heap.size (OwnI A B t C) :=
 fun _ W W' _ ⟨c, hc, hh, hb⟩ hg hr => ⟨c, hc, (hg.block B (Nat.lt_of_lt_of_le hB hb.size) (fun e => by have := (hr B e.symm).1; omega)).trans hh, But.grown hb hg (fun k e => (hr k e).1)⟩
theorem Has.but {A W : World} {B b : Nat} {c : Array Value} {t : TypeId} (h : Has A b c t) (hb : But B A W) (hn : b ≠ B) : Has W b c t := (hb.block b h.lt hn).trans h
theorem HasN.but {A W : World} {B b n : Nat} {t : TypeId} (h : HasN A b n t) (hb : But B A W) (hn : b ≠ B) : HasN W b n t := let ⟨c, hc, h⟩ := h; ⟨c, hc, h.but hb hn⟩
theorem qbK {A W w : World} {B n0 : Nat} (h : Below n0 w A) (hb : But B A W) (h0 : n0 ≤ B) (h1 : n0 ≤ A.heap.size) : Below n0 w W :=
 h.trans ⟨hb.os, hb.tape, hb.output, hb.size, fun k hk => hb.block k (by omega) (by omega)⟩
end Go.Proofs.YtbgefoamhdgnaaaGreatDoor
namespace Go.Proofs.YtbgefoamhdgnaaaGreatDoor
open Go.RowKit Go.Shelf
attribute [local go_sem] Oper.semAt_some
def qaS {α : Type} (f : Nat → α) (k : Nat) : List α := (List.range k).map f
theorem qdq {α : Type} (f : Nat → α) (k : Nat) : qaS f (k + 1) = qaS f k ++ [f k] := by simp [qaS, List.range_succ]
theorem upto_length {α : Type} (f : Nat → α) (k : Nat) : (qaS f k).length = k := by simp [qaS]
def bkf (len : Nat) (k : Nat) : Nat := len - 1 - k
theorem bkw1_in (F : Fence) (n : Nat) (h7 : F.fn 223) (hro : F.round = none) (hn : 1 ≤ n) (l Bs b len cap : Nat) (g : Nat → Int) (hreach : len ≤ 1000000) (J Jx : List Nat → World → Prop)
 (hY : ∀ (pre : List Nat) (x : Nat) (W : World), J pre W → pre.length < len → YieldAt F (n - 1) Tryz.prog l #[.int .i64 (x : Int), .int .u8 (g x)] W fun e W' =>
  (e = .returned (.bool true) ∧ J (pre ++ [x]) W' ∧ qbq Bs b W W') ∨ (e = .returned (.bool false) ∧ Jx (pre ++ [x]) W'))
 (W : World) (hBs : W.cell? ⟨Bs, 0, none⟩ = some (.slice (some ⟨b, 0, none⟩) len cap)) (hc : ∀ j, j < len → W.cell? ⟨b, j, none⟩ = some (.int .u8 (g j))) (h0 : J [] W) :
 CallsIn F n Tryz.prog 223 #[.func (.yield l) #[] #[], .pointer (some ⟨Bs, 0, none⟩)] W fun e W' => (∃ v, e = .returned v) ∧
  ((∃ ys, ys = qaS (bkf len) len ∧ J ys W') ∨ (∃ pre, (∃ k, k ≤ len ∧ pre = qaS (bkf len) k) ∧ Jx pre W')) := by
 refine callsIn_of_wp Tryz.func223 rfl h7 ?_ hro
 simp only [Tryz.ntmps223, List.size_toArray, List.length_cons, List.length_nil, Nat.reduceAdd, Nat.reduceSub, Array.replicate_succ, Array.replicate_zero, List.push_toArray, List.append_toArray, List.nil_append, List.cons_append]
 gi_wp2
 gi_loopw [3] (fun i wr => ∃ m : Nat, m ≤ len ∧ i = .int .i64 ((m : Int) - 1) ∧ J (qaS (bkf len) (len - m)) wr ∧ qbq Bs b W wr)
  (fun i _ => (RowKit.intOf i + 1).toNat)
 case atStart => exact ⟨len, Nat.le_refl _, rfl, by rw [Nat.sub_self]; exact h0, rfl, rfl⟩
 case round =>
  obtain ⟨m, hm, rfl, hJs, hnx⟩ := hrel
  have hBs' := (World.cell?_of_block (w := W) (w' := wr) (a := ⟨Bs, 0, none⟩) hnx.1).trans hBs
  rcases Nat.eq_zero_or_pos m with h0m | h0m
  · subst h0m
    gi_wp2
    go_end0
    exact ⟨⟨_, rfl⟩, .inl ⟨_, rfl, hJs⟩⟩
  · obtain ⟨j, rfl⟩ : ∃ j, m = j + 1 := ⟨m - 1, by omega⟩
    rw [show ((j + 1 : Nat) : Int) - 1 = (j : Int) by omega]
    have hj : j < len := by omega
    have hcx : wr.cell? ⟨b, j, none⟩ = some (.int .u8 (g j)) := (World.cell?_of_block (w := W) (w' := wr) (a := ⟨b, j, none⟩) hnx.2).trans (hc j hj)
    obtain ⟨fn, tmps, assign, body, hy, hR⟩ := hY _ j wr hJs (by rw [upto_length]; omega)
    have hlast : qaS (bkf len) (len - (j + 1)) ++ [j] = qaS (bkf len) (len - j) := by
     rw [show len - j = len - (j + 1) + 1 by omega, qdq]
     unfold bkf
     rw [show len - 1 - (len - (j + 1)) = j by omega]
    rw [hlast] at hR
    gi_wp2
    refine hR.mono ?_
    rintro e W3 (⟨rfl, hJ3, hk3⟩ | ⟨rfl, hJx3⟩)
    · gi_wp2
      go_roundw
      case rel => exact ⟨j, by omega, rfl, hJ3, keep2_t hnx hk3⟩
      case measure => simp [RowKit.intOf]
    · gi_wp2
      refine bodyPost_ret (results_none rfl _ _ _) rfl ?_
      exact ⟨⟨_, rfl⟩, .inr ⟨_, ⟨len - j, by omega, rfl⟩, hJx3⟩⟩
theorem bkw_any (a : Option Addr) (len cap : Nat) (w : World) :
 Calls Tryz.prog 170 #[.slice a len cap] w fun e w' => e = .returned (.func (.func 223) #[] #[.pointer (some ⟨w.heap.size, 0, none⟩)]) ∧ w' = w.alloc (.cells #[.slice a len cap] 48) := by
 refine (callsIn_wide (n := 0)).1 (callsIn_of_wp Tryz.func170 rfl trivial ?_ rfl)
 simp only [Tryz.ntmps170, List.size_toArray, List.length_cons, List.length_nil, Nat.reduceAdd, Nat.reduceSub, Array.replicate_succ, Array.replicate_zero, List.push_toArray, List.append_toArray, List.nil_append, List.cons_append]
 gi_wp2
 go_ret
 exact ⟨rfl, rfl⟩
theorem bkw_stops (n : Nat) (hn : 1 ≤ n) (Bs b len cap : Nat) (g : Nat → Int) (hreach : len ≤ 1000000) (w : World) (hbs : Bs < w.heap.size) (hb : b < w.heap.size)
 (hBs : w.cell? ⟨Bs, 0, none⟩ = some (.slice (some ⟨b, 0, none⟩) len cap)) (hc : ∀ j, j < len → w.cell? ⟨b, j, none⟩ = some (.int .u8 (g j))) :
 SeqStopsK Fence.wide n Tryz.prog 223 #[.pointer (some ⟨Bs, 0, none⟩)] (fun x : Nat => #[Value.int .i64 (x : Int), Value.int .u8 (g x)]) (qbq Bs b) (fun ys => ys = qaS (bkf len) len) (fun pre => ∃ k, k ≤ len ∧ pre = qaS (bkf len) k) len w := fun l J Jx W hW _ _ hY h0 =>
 bkw1_in Fence.wide n trivial rfl hn l Bs b len cap g hreach J Jx hY W ((hW.cell (p := ⟨Bs, 0, none⟩) hbs).trans hBs) (fun j hj => (hW.cell (p := ⟨b, j, none⟩) hb).trans (hc j hj)) h0
end Go.Proofs.YtbgefoamhdgnaaaGreatDoor
end
section
namespace Go
open Go.RowKit
variable {P : Program} {ops : Array Oper} {Q : Exit → Act → World → Prop} {S : World → Prop} {a : Act} {w : World}
theorem qcw (w : World) (b : Nat) (ty : TypeId) (v : Value) (d : TypeDesc) (hc : w.cell? ⟨b, 0, none⟩ = some v) (hu : P.underlying ty = some d) (hd : d.isRow = false) : (Instr.loadAt ty (.pointer (some ⟨b, 0, none⟩))).run P w = .ok v w := by
 have hag : (isAgg ty).run P w = .ok false w := by
  cases d <;> first | (simp [isAgg, run_underlying hu]; done) | (simp [TypeDesc.isRow] at hd)
 simp [Instr.loadAt, Instr.sureAddr, loadVar, hag, hc]
theorem qY {o : Oper} (hw : Region.wanted o (yielded ops a.tmps) = true) (ty : TypeId) (x : Operand) (ho : o.op = .load ty x) (b : Nat) (hx : a.eval x = .pointer (some ⟨b, 0, none⟩)) (v : Value) (d : TypeDesc)
 (hS : ∀ w, S w → w.cell? ⟨b, 0, none⟩ = some v) (hu : P.underlying ty = some d) (hd : d.isRow = false) : YieldsIf P ops S o v a := by
 refine Or.inl ⟨hw, fun w hSw => ?_⟩
 unfold execOp
 simp only [ho, hx, Sem.run_bind, qcw w b ty v d (hS w hSw) hu hd, Result.andThen_ok]
 rfl
theorem Qv {rest : List Oper} {o : Oper} (hw : Region.wanted o (yielded ops a.tmps) = true) (ty : TypeId) (x : Operand) (ho : o.op = .load ty x) (b : Nat) (hx : a.eval x = .pointer (some ⟨b, 0, none⟩)) (v : Value) (d : TypeDesc)
 (hS : w.cell? ⟨b, 0, none⟩ = some v) (hu : P.underlying ty = some d) (hd : d.isRow = false) (e : Tmp) (he : o.dst = some e) (h : wpList P ops Q rest { a with tmps := a.tmps.setIfInBounds e v } w) : wpList P ops Q (o :: rest) a w := by
 rcases qY (ops := ops) (S := fun w' => w' = w) hw ty x ho b hx v d (fun w' h' => by rw [h']; exact hS) hu hd with ⟨_, h1⟩ | ⟨h1, _⟩
 · refine wpList_step fun K hK => ?_
   rw [if_pos hw]
   unfold Oper.wp
   rw [h1 w rfl, Oper.upon_value]
   refine hK _ _ ?_
   rw [QB he]; exact h
 · rw [hw] at h1; cases h1
theorem qci {o : Oper} (hw : Region.wanted o (yielded ops a.tmps) = true) (t : TypeId) (x y : Operand) (ho : o.op = .indexAddr t x y) (b len cap : Nat) (hx : a.eval x = .slice (some ⟨b, 0, none⟩) len cap) (kd : IntKind) (i : Int) (hy : a.eval y = .int kd i) (j : Nat) (hj : i = (j : Int)) (hlt : j < len)
 (e : TypeId) (hu : P.underlying t = some (.slice e)) (inf : TypeInfo) (hi : P.info? e = some inf) (n : Nat) (hn : inf.size = n) (off : Nat) (hoff : off = j * n) : YieldsIf P ops S o (.pointer (some ⟨b, off, none⟩)) a := by
 refine Or.inl ⟨hw, fun w _ => ?_⟩
 subst hj; subst hn; subst hoff
 have hlt' : (j : Int) < (len : Int) := by omega
 unfold execOp
 simp [ho, hx, hy, Instr.indexAt, asIntOf, run_underlying hu, sizeOf, typeInfo, hi, hlt, Addr.add_mid]
theorem qbN {rest : List Oper} {o : Oper} (hw : Region.wanted o (yielded ops a.tmps) = true) (t : TypeId) (x y : Operand) (ho : o.op = .makeSlice t x y) (v1 v2 : Value) (hx : a.eval x = v1) (hy : a.eval y = v2) (v : Value) (w2 : World) (hr : (Instr.makeSlice t v1 v2).run P w = .ok v w2)
 (d : Tmp) (hd : o.dst = some d) (h : wpList P ops Q rest { a with tmps := a.tmps.setIfInBounds d v } w2) : wpList P ops Q (o :: rest) a w := by
 refine wpList_step fun K hK => ?_
 rw [if_pos hw]
 unfold Oper.wp execOp
 simp only [ho, hx, hy, Sem.run_bind, hr, Result.andThen_ok]
 refine hK _ _ ?_
 rw [QB hd]; exact h
theorem zu {rest : List Oper} {o : Oper} (hw : Region.wanted o (yielded ops a.tmps) = true) (ty : TypeId) (x y : Operand) (ho : o.op = .store ty x y) (hd : o.dst = none) (b : Nat) (v : Value) (hx : a.eval x = .pointer (some ⟨b, 0, none⟩)) (hy : a.eval y = v)
 (old : Value) (t : TypeId) (hg : w.heap[b]? = some (.cells #[old] t (0, 0))) (hs : (P.info? ty).map (·.size) = some 1) (hv : v.oneCell' = true) (hc : v.cells = #[v]) (h : ∀ w2, w2 = w.setCell ⟨b, 0, none⟩ v → wpList P ops Q rest a w2) : wpList P ops Q (o :: rest) a w := by
 have h1 : Go.Proofs.YtbgefoamhdgnaaaGreatDoor.Has w b #[old] t := hg
 have h2 := run_storeCells_cells (P := P) b 0 [v] 0 w (fun j hj => by
  obtain rfl : j = 0 := by simpa using hj
  rw [h1.cellAt]; rfl) (fun j _ => h1.frozen _) (by simpa using hv)
 cases hi : P.info? ty with
 | none => rw [hi] at hs; cases hs
 | some i =>
  rw [hi] at hs
  have hs : i.size = 1 := Option.some.inj hs
  have hsv : (storeVar ty ⟨b, 0, none⟩ v).run P w = .ok () (w.setCell ⟨b, 0, none⟩ v) := by
   simp only [Nat.add_zero] at h2
   have h3 : (storeCells ⟨b, 0, none⟩ [v]).run P w = .ok () (w.setCell ⟨b, 0, none⟩ v) := h2
   simp [storeVar, sizeOf, typeInfo, hi, hc, hs, h3]
  refine wpList_step fun K hK => ?_
  rw [if_pos hw]
  unfold Oper.wp execOp
  simp only [ho, hx, hy, Instr.storeAt, Instr.sureAddr, Sem.run_bind, Sem.run_pure, Result.andThen_ok, hsv]
  refine hK _ _ ?_
  rw [Z9 hd]; exact h _ rfl
end Go
namespace Go.Proofs.YtbgefoamhdgnaaaGreatDoor
open Go.RowKit Go.Lib
theorem HasN.setAt {w : World} {b n : Nat} {t : TypeId} (h : HasN w b n t) (o : Nat) (v : Value) : HasN (w.setCell ⟨b, o, none⟩ v) b n t := let ⟨c, hn, h⟩ := h; ⟨_, by rw [Array.size_setIfInBounds]; exact hn, h.setAt o v⟩
theorem HasN.setCells {b n : Nat} {t : TypeId} : ∀ (vs : List Value) (o : Nat) (w : World), HasN w b n t → HasN (w.setCells b o vs) b n t
 | [], _, _, h => h
 | v :: r, o, _, h => HasN.setCells r (o + 1) _ (h.setAt o v)
theorem zH {B b : Nat} {a : World} (hb : B ≤ b) : ∀ (vs : List Value) (o : Nat) (w : World), Below B a w → Below B a (w.setCells b o vs)
 | [], _, _, h => h
 | v :: r, o, _, h => zH hb r (o + 1) _ (h.setCell (by exact hb) v)
theorem Has.one {w : World} {b : Nat} {v : Value} {t : TypeId} (h : Has w b #[v] t) : w.cell? ⟨b, 0, none⟩ = some v := by rw [h.cellAt]; rfl
end Go.Proofs.YtbgefoamhdgnaaaGreatDoor
end
namespace Go
section
open Go.RowKit
variable {P : Program}
structure Zone (lo hi : Nat) (A B : World) : Prop where
 os : B.os = A.os
 tape : B.tape = A.tape
 output : B.output = A.output
 size : B.heap.size = A.heap.size
 block : ∀ k, ¬ (lo ≤ k ∧ k < hi) → B.heap[k]? = A.heap[k]?
theorem Zone.put {lo hi : Nat} (A : World) (l : Nat) (o : Obj) (h1 : lo ≤ l) (h2 : l < hi) : Zone lo hi A (A.putObj l o) :=
 ⟨rfl, rfl, rfl, World.putObj_size, fun k hk => World.putObj_heap_other (fun e => hk (by omega))⟩
theorem Zone.wide {lo lo' hi : Nat} {A B : World} (h : Zone lo hi A B) (hl : lo' ≤ lo) : Zone lo' hi A B :=
 ⟨h.os, h.tape, h.output, h.size, fun k hk => h.block k (fun ⟨a, b⟩ => hk ⟨by omega, b⟩)⟩
theorem Zone.below {lo hi n0 : Nat} {w A B : World} (hb : Below n0 w A) (h : Zone lo hi A B) (hl : n0 ≤ lo) : Below n0 w B :=
 ⟨h.os.trans hb.os, h.tape.trans hb.tape, h.output.trans hb.output, by rw [h.size]; exact hb.size, fun k hk => (h.block k (fun ⟨a, _⟩ => by omega)).trans (hb.block k hk)⟩
def SeqZ (P : Program) (g : Nat) (lb : Array Value) (encs : Nat → Array Value) (N : Nat) (prot : Nat → Prop) (w : World) : Prop :=
 ∀ (n l : Nat) (J : Nat → Nat → World → Prop) (W : World), 1 ≤ n → Below w.heap.size w W →
  (∀ W1, Below W.heap.size W W1 → J W1.heap.size 0 W1) →
  (∀ s k A B, J s k A → Zone W.heap.size s A B → J s k B) →
  (∀ m s k W1, W.heap.size ≤ s → s ≤ W1.heap.size → k < N → J s k W1 → YieldAt Fence.wide m P l (encs k) W1 fun e W' =>
   e = .returned (.bool true) ∧ J s (k + 1) W' ∧ W1.heap.size ≤ W'.heap.size ∧ ∀ j, (W.heap.size ≤ j ∧ j < s) ∨ prot j → W'.heap[j]? = W1.heap[j]?) →
  CallsIn Fence.wide n P g (#[.func (.yield l) #[] #[]] ++ lb) W fun e W' => (∃ v, e = .returned v) ∧ ∃ s, W.heap.size ≤ s ∧ s ≤ W'.heap.size ∧ J s N W'
def ZPost (I : Nat → Nat → World → Prop) (lo s k : Nat) (prot : Nat → Prop) (W : World) : Exit → Act → World → Prop
 | .normal, _, W' => I s k W' ∧ W.heap.size ≤ W'.heap.size ∧ ∀ j, (lo ≤ j ∧ j < s) ∨ prot j → W'.heap[j]? = W.heap[j]?
 | _, _, _ => False
theorem range_z {g : Operand} {ps : Array Tmp} {assign body : Code} {Q : Exit → Act → World → Prop} {a : Act} {w : World} {gf : Nat} {lb : Array Value} (hg : a.eval g = .func (.func gf) #[] lb) (eg : ∀ args w, (callFunc gf args).run P w = .ok (.enter gf args) w)
 {encs : Nat → Array Value} {N : Nat} {prot : Nat → Prop} {w0 : World} (hseq : SeqZ P gf lb encs N prot w0) (hb0 : Below w0.heap.size w0 w) (hps : ∀ k, (encs k).size = ps.size) (hprot : ∀ j, prot j → j < w.heap.size)
 (I : Nat → Nat → World → Prop) (h0 : ∀ W1, Below w.heap.size w W1 → w.heap.size + 2 ≤ W1.heap.size → I W1.heap.size 0 W1) (hz : ∀ s k A B, I s k A → Zone w.heap.size s A B → I s k B)
 (asg : Nat → Array Value → Array Value)
 (hassign : ∀ (m l k : Nat) (W : World) (K : Act → World → Prop), K { tmps := asg k ((ps.zip (encs k)).foldl (fun t (p, v) => t.setIfInBounds p v) a.tmps), defers := [] } W →
  assign.wpIn (Fence.wide.inRound l) m P (Exit.then K (fun _ _ _ => False)) { tmps := (ps.zip (encs k)).foldl (fun t (p, v) => t.setIfInBounds p v) a.tmps, defers := [] } W)
 (hbody : ∀ (m l s k : Nat) (W : World), w.heap.size + 2 ≤ s → s ≤ W.heap.size → k < N → I s k W →
  body.wpIn (Fence.wide.inRound l) m P (ZPost I w.heap.size s (k + 1) prot W) { tmps := asg k ((ps.zip (encs k)).foldl (fun t (p, v) => t.setIfInBounds p v) a.tmps), defers := [] } W)
 (hdone : ∀ (s : Nat) (W : World), w.heap.size + 2 ≤ s → s ≤ W.heap.size → I s N W → W.heap[w.heap.size]? = some (.deferred (some [])) → Q .normal { a with defers := { target := .collected w.heap.size, args := #[] } :: a.defers } W) :
 (Code.rangeFunc g ps assign body).wp P Q a w := by
 refine (wpIn_wide (n := 3)).1 (wpIn_rangeFunc fun fn hfn => ?_)
 obtain ⟨rec, hrec⟩ : ∃ rec : LoopState → Option Code → Loop, rec = fun st pe => { state := st, pending := pe, fn, tmps := a.tmps, params := ps, assign, body, defers := w.heap.size } := ⟨_, rfl⟩
 obtain ⟨W1, hW1⟩ : ∃ W1, (w.alloc (.deferred (some []))).alloc (.loop (rec .ready none)) = W1 := ⟨_, rfl⟩
 have hs1 : W1.heap.size = w.heap.size + 2 := by rw [← hW1]; simp
 have hL1 : W1.heap[w.heap.size + 1]? = some (.loop (rec .ready none)) := by
  have := World.alloc_heap_new (w.alloc (.deferred (some []))) (.loop (rec .ready none))
  rw [World.size_alloc] at this
  rw [← hW1]; exact this
 have hb1 : Below w.heap.size w W1 := by rw [← hW1]; exact ((Below.refl _ w).alloc (Nat.le_refl _) _).alloc (by simp) _
 have hK1 : W1.heap[w.heap.size]? = some (.deferred (some [])) := by
  rw [← hW1]; exact (Below.heap_alloc _ _ _ (by simp)).trans (World.alloc_heap_new w _)
 refine ⟨w.heap.size + 1, [{ target := .collected w.heap.size, args := #[] }], W1, { target := .fn (.func gf) lb, args := #[.func (.yield (w.heap.size + 1)) #[] #[]] }, W1, gf,
  #[.func (.yield (w.heap.size + 1)) #[] #[]] ++ lb, W1, ?_, ?_, fun _ _ => trivial, ?_, fun h => (by cases h), ?_⟩
 · rw [← hW1, hrec]; exact run_enterLoop_outer _ _ _ _ _
 · simp only [resolve, hg]
   simp [go_sem]
 · simp [invoke, go_sem, eg]
 · refine (hseq (3 - 1) (w.heap.size + 1)
    (fun s k W => I s k W ∧ w.heap.size + 2 ≤ s ∧ W.heap[w.heap.size + 1]? = some (.loop (rec .ready none)) ∧ W.heap[w.heap.size]? = some (.deferred (some []))) W1 (by decide) (hb0.trans (hb1.mono hb0.size)) ?_ ?_ ?_).mono ?_
   · intro W2 hb2
     have hz2 := hb2.size
     exact ⟨h0 W2 (hb1.trans (hb2.mono hb1.size)) (by omega), by omega, (hb2.block _ (by omega)).trans hL1, (hb2.block _ (by omega)).trans hK1⟩
   · rintro s k A B ⟨hi, hs, hl, hd⟩ hq
     exact ⟨hz s k A B hi (hq.wide (by omega)), hs, (hq.block _ (by omega)).trans hl, (hq.block _ (by omega)).trans hd⟩
   · rintro m s k W _ hs2 hk ⟨hi, hs, hl, hd⟩
     have hlt : w.heap.size + 1 < W.heap.size := (Array.getElem?_eq_some_iff.1 hl).1
     have hy := run_yield (P := P) (args := encs k) hl (by rw [hrec]; exact hps k)
     rw [hrec] at hy
     refine ⟨fn, _, assign, body, hy, roundIn_of_wpIn hfn (hassign m _ k W _ ?_)⟩
     clear hy
     refine ⟨_, run_beginRound hl (by rw [hrec]), ?_⟩
     have hl2 : (W.putObj (w.heap.size + 1) (.loop { rec .ready none with state := .busy })).heap[w.heap.size + 1]? = some (.loop { rec .ready none with state := .busy }) := World.putObj_heap_same hlt
     have hd2 : (W.putObj (w.heap.size + 1) (.loop { rec .ready none with state := .busy })).heap[w.heap.size]? = some (.deferred (some [])) := (World.putObj_heap_other (by omega)).trans hd
     have ho2 : ∀ j, j ≠ w.heap.size + 1 → (W.putObj (w.heap.size + 1) (.loop { rec .ready none with state := .busy })).heap[j]? = W.heap[j]? := fun j hj => World.putObj_heap_other hj
     have hi2 := hz s k _ _ hi (Zone.put W (w.heap.size + 1) (.loop { rec .ready none with state := .busy }) (by omega) (by omega))
     have hsz2 : (W.putObj (w.heap.size + 1) (.loop { rec .ready none with state := .busy })).heap.size = W.heap.size := World.putObj_size
     generalize W.putObj (w.heap.size + 1) (.loop { rec .ready none with state := .busy }) = W2 at *
     refine wpIn_mono (hbody m (w.heap.size + 1) s k W2 hs (by omega) hk hi2) ?_
     rintro e a3 W3 hp
     cases e with
     | normal =>
      obtain ⟨hi3, hsz3, hk3⟩ := hp
      have hl3 := (hk3 (w.heap.size + 1) (.inl ⟨by omega, by omega⟩)).trans hl2
      have hd3 := (hk3 w.heap.size (.inl ⟨by omega, by omega⟩)).trans hd2
      have hr := run_endRound (P := P) none hl3
      refine ⟨_, _, hr, rfl, ⟨hz _ _ _ _ hi3 (Zone.put W3 _ _ (by omega) (by omega)), hs, ?_, (World.putObj_heap_other (by omega)).trans hd3⟩, by rw [World.putObj_size]; omega, fun j hj => ?_⟩
      · subst hrec
        exact World.putObj_heap_same (Array.getElem?_eq_some_iff.1 hl3).1
      · have hj1 : j ≠ w.heap.size + 1 := by
         rcases hj with ⟨h1, _⟩ | h1
         · omega
         · have := hprot j h1; omega
        have hj2 : (w.heap.size ≤ j ∧ j < s) ∨ prot j := hj.imp (fun ⟨h1, h2⟩ => ⟨by omega, h2⟩) id
        exact (World.putObj_heap_other hj1).trans ((hk3 j hj2).trans (ho2 j hj1))
     | ret => exact hp.elim
     | exit id => exact hp.elim
     | goto t => exact hp.elim
     | panic ch => exact hp.elim
     | outgrown => exact hp.elim
   · rintro e W2 ⟨⟨v, rfl⟩, s, hs, hs', hi, hs2, hl, hd⟩
     refine ⟨none, _, by have := run_endLoop (P := P) hl (by rw [hrec]; simp); rw [hrec] at this; exact this, hdone s _ hs2 (by rw [World.putObj_size]; exact hs') (hz _ _ _ _ hi (Zone.put W2 _ _ (by omega) (by omega))) ((World.putObj_heap_other (by omega)).trans hd)⟩
end
end Go
section
namespace Go
theorem RoundIn.into {m l l2 : Nat} {P : Program} {f : FuncId} {tmps : Array Value} {assign body : Code} {w : World} {R : Ending → World → Prop}
 (h : RoundIn Fence.wide m P l f tmps assign body w R) : RoundIn (Fence.wide.inRound l2) m P l f tmps assign body w R := h
end Go
namespace Go.Proofs.YtbgefoamhdgnaaaGreatDoor
open Go.RowKit Go.Shelf
attribute [local go_sem] Oper.semAt_some
def Figs (w : World) (b len : Nat) (g : Nat → Int) : Prop := b < w.heap.size ∧ ∀ j, j < len → w.cell? ⟨b, j, none⟩ = some (.int .u32 (g j))
section figs
variable {w w' : World} {b len : Nat} {g : Nat → Int}
theorem Figs.lt (h : Figs w b len g) : b < w.heap.size := h.1
theorem Figs.same (h : Figs w b len g) (he : w'.heap[b]? = w.heap[b]?) (hs : w.heap.size ≤ w'.heap.size) : Figs w' b len g :=
 ⟨Nat.lt_of_lt_of_le h.1 hs, fun j hj => (World.cell?_of_block (w := w) (w' := w') (a := ⟨b, j, none⟩) he).trans (h.2 j hj)⟩
theorem Figs.call (h : Figs w b len g) (hb : Below w.heap.size w w') : Figs w' b len g := h.same (hb.block _ h.1) hb.size
theorem Figs.drew (h : Figs w b len g) : Figs w.drew b len g := h
theorem Figs.alloc (h : Figs w b len g) (o : Obj) : Figs (w.alloc o) b len g := h.call ((Below.refl _ _).alloc (Nat.le_refl _) _)
theorem Figs.other (h : Figs w b len g) (a : Addr) (v : Value) (hb : b ≠ a.block) : Figs (w.setCell a v) b len g :=
 h.same (heap_setCell_other w a b v hb) ((Below.refl 0 w).setCell (p := a) (Nat.zero_le _) v).size
theorem Figs.setRow_other (h : Figs w b len g) (k : Nat) (c : Array Value) (hg : b ≠ k) : Figs (w.setRow k c) b len g :=
 h.same (Go.setRow_other w k b c hg) (below_setRow (Below.refl 0 w) k c (Nat.zero_le _)).size
theorem Has.figs {K : Nat} {f : Nat → Int} {t : TypeId} (h : Has w b (row .u32 K f) t) : Figs w b K f := ⟨h.lt, fun j hj => h.cell j hj⟩
end figs
theorem bku_seq (Bs b len cap : Nat) (g : Nat → Int) (hlen : len ≤ 1000000) (w : World) (hBs : Has w Bs #[.slice (some ⟨b, 0, none⟩) len cap] 208) (hc : Figs w b len g) :
 SeqZ Tryz.prog 271 #[.pointer (some ⟨Bs, 0, none⟩)] (fun k => #[Value.int .i64 ((len - 1 - k : Nat) : Int), Value.int .u32 (g (len - 1 - k))]) len (fun j => j = Bs ∨ j = b) w := by
 intro n l J W hn hW h0 hz hY
 have mBs := hBs.below hW hBs.lt
 have mc := hc.same (hW.block _ hc.lt) hW.size
 have hj0 := h0 W (Below.refl _ _)
 have MBs := Lib.hid mBs; clear mBs
 have Mc := Lib.hid mc; clear mc
 have H0 := Lib.hid h0; clear h0
 have Hz := Lib.hid hz; clear hz
 clear hBs hc hW
 refine callsIn_of_wp Tryz.func271 rfl trivial ?_ rfl
 simp only [Tryz.ntmps271, List.size_toArray, List.length_cons, List.length_nil, Nat.reduceAdd, Nat.reduceSub, Array.replicate_succ, Array.replicate_zero, List.push_toArray, List.append_toArray, List.nil_append, List.cons_append]
 have hBsW : W.cell? ⟨Bs, 0, none⟩ = some (.slice (some ⟨b, 0, none⟩) len cap) := by rw [MBs.out.cellAt]; rfl
 gi_wp2
 gi_loopw [3] (fun i wr => ∃ m : Nat, m ≤ len ∧ i = .int .i64 ((m : Int) - 1) ∧ J W.heap.size (len - m) wr ∧ qbq Bs b W wr ∧ W.heap.size ≤ wr.heap.size)
  (fun i _ => (RowKit.intOf i + 1).toNat)
 case atStart => exact ⟨len, Nat.le_refl _, rfl, by rw [Nat.sub_self]; exact hj0, ⟨rfl, rfl⟩, Nat.le_refl _⟩
 case round =>
  obtain ⟨m, hm, rfl, hJs, hnx, hsz⟩ := hrel
  have hBs' := (World.cell?_of_block (w := W) (w' := wr) (a := ⟨Bs, 0, none⟩) hnx.1).trans hBsW
  rcases Nat.eq_zero_or_pos m with h0m | h0m
  · subst h0m
    gi_wp2
    go_end0
    exact ⟨⟨_, rfl⟩, _, Nat.le_refl _, hsz, hJs⟩
  · obtain ⟨j, rfl⟩ : ∃ j, m = j + 1 := ⟨m - 1, by omega⟩
    rw [show ((j + 1 : Nat) : Int) - 1 = (j : Int) by omega]
    have hj : j < len := by omega
    have hcx : wr.cell? ⟨b, j, none⟩ = some (.int .u32 (g j)) := (World.cell?_of_block (w := W) (w' := wr) (a := ⟨b, j, none⟩) hnx.2).trans (Mc.out.2 j hj)
    obtain ⟨fn, tmps, assign, body, hy, hR⟩ := hY (n - 1) W.heap.size (len - (j + 1)) wr (Nat.le_refl _) hsz (by omega) hJs
    rw [show len - 1 - (len - (j + 1)) = j by omega] at hy
    rw [show len - (j + 1) + 1 = len - j by omega] at hR
    gi_wp2
    refine hR.mono ?_
    rintro e W3 ⟨rfl, hJ3, hsz3, hk3⟩
    gi_wp2
    go_roundw
    case rel => exact ⟨j, by omega, rfl, hJ3, keep2_t hnx ⟨hk3 Bs (.inr (.inl rfl)), hk3 b (.inr (.inr rfl))⟩, by omega⟩
    case measure => simp [RowKit.intOf]
theorem bku_call (a : Option Addr) (len cap : Nat) (w : World) : Calls Tryz.prog 252 #[.slice a len cap] w fun e w' => (e = .returned (.func (.func 271) #[] #[.pointer (some ⟨w.heap.size, 0, none⟩)]) ∧ Has w' w.heap.size #[.slice a len cap] 208) ∧ Below w.heap.size w w' := by
 refine (callsIn_wide (n := 0)).1 (callsIn_of_wp Tryz.func252 rfl trivial ?_ rfl)
 simp only [Tryz.ntmps252, List.size_toArray, List.length_cons, List.length_nil, Nat.reduceAdd, Nat.reduceSub, Array.replicate_succ, Array.replicate_zero, List.push_toArray, List.append_toArray, List.nil_append, List.cons_append]
 gi_wp2
 go_ret
 exact ⟨⟨rfl, Has.new w _ _⟩, q8 w _⟩
theorem qc7 (a : Option Addr) (len cap : Nat) (w : World) : Calls Tryz.prog 217 #[.slice a len cap] w fun e w' => (e = .returned (.func (.func 251) #[] #[.pointer (some ⟨w.heap.size, 0, none⟩)]) ∧ Has w' w.heap.size #[.slice a len cap] 208) ∧ Below w.heap.size w w' := by
 refine (callsIn_wide (n := 0)).1 (callsIn_of_wp Tryz.func217 rfl trivial ?_ rfl)
 simp only [Tryz.ntmps217, List.size_toArray, List.length_cons, List.length_nil, Nat.reduceAdd, Nat.reduceSub, Array.replicate_succ, Array.replicate_zero, List.push_toArray, List.append_toArray, List.nil_append, List.cons_append]
 gi_wp2
 go_ret
 exact ⟨⟨rfl, Has.new w _ _⟩, q8 w _⟩
theorem ent252 : _root_.Go.Enters Tryz.prog 252 := ⟨_, Tryz.func252, by kernel_rfl, by kernel_rfl⟩
theorem ent217 : _root_.Go.Enters Tryz.prog 217 := ⟨_, Tryz.func217, by kernel_rfl, by kernel_rfl⟩
theorem ent271 : ∀ (args : Array Value) (w : World), (callFunc 271 args).run Tryz.prog w = .ok (.enter 271 args) w := Go.Proofs.enters_of Tryz.func271 (by kernel_rfl) rfl
theorem ent251 : ∀ (args : Array Value) (w : World), (callFunc 251 args).run Tryz.prog w = .ok (.enter 251 args) w := Go.Proofs.enters_of Tryz.func251 (by kernel_rfl) rfl
theorem bkf_seq (Bs b len cap : Nat) (g : Nat → Int) (hlen : len ≤ 1000000) (w0 : World) (hBs : Has w0 Bs #[.slice (some ⟨b, 0, none⟩) len cap] 208) (hc : Figs w0 b len g) :
 SeqZ Tryz.prog 251 #[.pointer (some ⟨Bs, 0, none⟩)] (fun k => #[Value.int .u32 (g (len - 1 - k))]) len (fun j => j = Bs ∨ j = b) w0 := by
 intro n l J w hn hW h0 hz hY
 have m1 := hBs.below hW hBs.lt
 have mc := hc.same (hW.block _ hc.lt) hW.size
 have lBs := m1.lt
 have lb := mc.lt
 have M1 := Lib.hid m1; clear m1
 have Mc := Lib.hid mc; clear mc
 clear hBs hc hW
 refine callsIn_of_wp_marks Tryz.func251 rfl trivial (wpIn_wide.2 ?_) rfl
 simp only [Tryz.ntmps251, List.size_toArray, List.length_cons, List.length_nil, Nat.reduceAdd, Nat.reduceSub, Array.replicate_succ, Array.replicate_zero, List.push_toArray, List.append_toArray, List.nil_append, List.cons_append]
 repeat ((fail_if_success (with_reducible (show wpList _ _ _ _ _ _))); go_step)
 (refine wpList_step (fun K hK => ?_); go_simp; (try go_bits); refine hK _ _ ?_; clear hK K)
 refine wpList_nil ?_
 have MY := Lib.hid (Has.new w #[.func (.yield l) #[] #[]] 338)
 have HB := Lib.hid (q8 w (.cells #[.func (.yield l) #[] #[]] 338))
 replace M1 := Lib.hid (M1.out.alloc (.cells #[.func (.yield l) #[] #[]] 338))
 replace Mc := Lib.hid (Mc.out.alloc (.cells #[.func (.yield l) #[] #[]] 338))
 obtain ⟨yw1, hwyw1⟩ : ∃ ww, ww = w.alloc (.cells #[.func (.yield l) #[] #[]] 338) := ⟨_, rfl⟩
 rw [← hwyw1] at M1 Mc MY HB ⊢
 clear hwyw1
 repeat ((fail_if_success (with_reducible (show wpList _ _ _ _ _ _))); go_step)
 have MYl := MY.out.lt
 refine Qv (by rfl) 208 _ rfl (Bs) rfl (.slice (some ⟨b, 0, none⟩) len cap) _ M1.out.one Tryz.underlying208 rfl 5 rfl ?_
 (try simp only [Act.put, sI, sS, sZ])
 refine qm (by rfl) rfl rfl (by rfl) ent252 (by rfl) (bku_call _ _ _ _) 6 rfl ?_
 rintro e uw1 ⟨⟨rfl, hbs⟩, hb⟩
 replace M1 := Lib.hid (M1.out.call hb)
 replace Mc := Lib.hid (Mc.out.call hb)
 replace MY := Lib.hid (MY.out.call hb)
 replace HB := Lib.hid (qf HB.out hb)
 have MS := Lib.hid hbs; clear hbs
 refine ⟨_, rfl, ?_⟩
 clear hb
 (try simp only [Act.put, sI, sS, sZ])
 refine wpList_nil ?_
 have gY : w.heap.size < yw1.heap.size := MYl
 obtain ⟨BS, hBS⟩ : ∃ B, B = yw1.heap.size := ⟨_, rfl⟩
 rw [← hBS] at MS gY ⊢
 clear hBS
 repeat ((fail_if_success (with_reducible (show wpList _ _ _ _ _ _))); go_step)
 have hlS := MS.out.lt
 have hlb := Mc.out.lt
 have hsz := HB.out.size
 have hst := bku_seq BS b len cap g hlen uw1 MS.out Mc.out
 have hf : ∀ (k : Nat) (t : Array Value), ((#[7, 8] : Array Tmp).zip #[Value.int .i64 ((len - 1 - k : Nat) : Int), Value.int .u32 (g (len - 1 - k))]).foldl (fun t (p, v) => t.setIfInBounds p v) t = (t.setIfInBounds 7 (.int .i64 ((len - 1 - k : Nat) : Int))).setIfInBounds 8 (.int .u32 (g (len - 1 - k))) := fun k t => by simp
 refine range_z (gf := 271) (lb := #[.pointer (some ⟨BS, 0, none⟩)]) rfl ent271 hst (Below.refl _ _) (fun _ => rfl) (fun j hj => by rcases hj with rfl | rfl <;> omega)
  (fun s k V => uw1.heap.size ≤ s ∧ J s k V ∧ Has V w.heap.size #[.func (.yield l) #[] #[]] 338) ?h0 ?hz (fun k t => t.setIfInBounds 4 (.int .u32 (g (len - 1 - k)))) ?assign ?body ?done
 case h0 =>
  intro W1 hb hs
  exact ⟨hb.size, h0 W1 (HB.out.trans (hb.mono hsz)), MY.out.below hb (by omega)⟩
 case hz =>
  rintro s k A B ⟨h1, h2, h3⟩ hq
  exact ⟨h1, hz s k A B h2 (hq.wide hsz), (hq.block _ (by omega)).trans h3⟩
 case assign =>
  intro m l2 k V K hK
  simp only [hf, sI, sS, sZ] at hK ⊢
  gi_wp2
  exact hK
 case body =>
  rintro m l2 s k V hs hsV hk ⟨h1, h2, h3⟩
  have hcy := h3.one
  obtain ⟨fn, tmps, assign, body, hy, hR⟩ := hY (m - 1) s k V (by omega) hsV hk h2
  have hR' := hR.into (l2 := l2)
  clear hR hst hz h0 hY h2
  simp only [hf, sI, sS, sZ]
  clear hf
  gi_wp2
  refine ⟨fun h => (by cases h), hR'.mono ?_⟩
  rintro e V3 ⟨rfl, hJ3, hsz3, hk3⟩
  gi_wp2
  exact ⟨⟨h1, hJ3, (hk3 _ (.inl ⟨by omega, by omega⟩)).trans h3⟩, hsz3, fun j hj => hk3 j (by rcases hj with ⟨h4, h5⟩ | rfl | rfl <;> first | exact .inl ⟨by omega, by omega⟩ | exact .inr (.inr rfl))⟩
 case done =>
  rintro s V hs hsV ⟨h1, h2, h3⟩ hD
  have hD2 := Lib.hid hD
  clear hD
  repeat ((fail_if_success (with_reducible (show wpList _ _ _ _ _ _))); go_step)
  refine ⟨by simp, .inl ⟨_, _, rfl, run_takeDeferred hD2.out, ?_⟩⟩
  refine ⟨_, results_none rfl _ _ _, ⟨_, rfl⟩, s, by omega, by rw [World.putObj_size]; exact hsV, hz _ _ _ _ h2 (Zone.put V _ _ hsz (by omega))⟩
end Go.Proofs.YtbgefoamhdgnaaaGreatDoor
end
section
namespace Go
open Go.RowKit
theorem qa1 {A B : World} {lo s : Nat} {e : TypeId} {size : Nat} {v : Value} {n : Nat} {xs : List Value} (h : A.ownsRow s e size v n xs) (hq : Zone lo s A B) : B.ownsRow s e size v n xs := by
 obtain ⟨h1, h2⟩ := h
 refine ⟨h1, h2.imp id ?_⟩
 rintro ⟨g, cap, cur, hv, hb, hg, hr⟩
 exact ⟨g, cap, cur, hv, hb, (hq.block g (fun ⟨_, h⟩ => by omega)).trans hg, hr⟩
theorem ownsRow_base {A : World} {b s : Nat} {e : TypeId} {size : Nat} {v : Value} {n : Nat} {xs : List Value} (h : A.ownsRow s e size v n xs) (hb : b ≤ s) : A.ownsRow b e size v n xs := by
 obtain ⟨h1, h2⟩ := h
 refine ⟨h1, h2.imp id ?_⟩
 rintro ⟨g, cap, cur, hv, hb', hr⟩
 exact ⟨g, cap, cur, hv, by omega, hr⟩
theorem ownsRow_s {W : World} {base : Nat} {e : TypeId} {size n : Nat} {v : Value} {xs : List Value} (h : W.ownsRow base e size v (n + 1) xs) : ∃ g cap, v = .slice (some ⟨g, 0, none⟩) (n + 1) cap ∧ base ≤ g := by
 rcases h.2 with ⟨_, h⟩ | ⟨g, cap, cur, hv, hb, _⟩
 · omega
 · exact ⟨g, cap, hv, hb⟩
end Go
namespace Go.Proofs.YtbgefoamhdgnaaaGreatDoor
open Go.RowKit Go.Shelf
attribute [local go_sem] Oper.semAt_some
theorem info91 : (Tryz.prog.info? 127).map (fun i => (i.zero, i.size, i.bytes)) = some (some (.int .u32 0), 1, 4) := by kernel_rfl
def qcW (vals : Nat → Int) (k : Nat) : List Value := (List.range k).map fun j => Value.int .u32 (vals j)
theorem fvals_succ (vals : Nat → Int) (k : Nat) : qcW vals (k + 1) = qcW vals k ++ [.int .u32 (vals k)] := by simp [qcW, List.range_succ]
theorem apseq_any (gf : Nat) (lb : Array Value) (len : Nat) (hlen : len ≤ 1000000) (vals : Nat → Int) (prot : Nat → Prop) (eg : ∀ (args : Array Value) (w : World), (callFunc gf args).run Tryz.prog w = .ok (.enter gf args) w) (w : World)
 (hseq : SeqZ Tryz.prog gf lb (fun k => #[.int .u32 (vals k)]) len prot w) (hprot : ∀ j, prot j → j < w.heap.size) :
 Calls Tryz.prog 250 #[.slice none 0 0, .func (.func gf) #[] lb] w fun e w' => (∃ v, e = .returned v ∧ w'.ownsRow w.heap.size 127 1 v len (qcW vals len)) ∧ Below w.heap.size w w' := by
 obtain ⟨i0, hi, hz0, hz1, hz2⟩ := info_parts info91
 refine (callsIn_wide (n := 3)).1 (callsIn_of_wp_marks Tryz.func250 rfl trivial (wpIn_wide.2 ?_) rfl)
 simp only [Tryz.ntmps250, List.size_toArray, List.length_cons, List.length_nil, Nat.reduceAdd, Nat.reduceSub, Array.replicate_succ, Array.replicate_zero, List.push_toArray, List.append_toArray, List.nil_append, List.cons_append]
 repeat ((fail_if_success (with_reducible (show wpList _ _ _ _ _ _))); go_step)
 iterate 2 (refine wpList_step (fun K hK => ?_); go_simp; (try go_bits); refine hK _ _ ?_; clear hK K)
 refine wpList_nil ?_
 have M2 := Lib.hid (Has.new w  (#[.slice none 0 0]) 208)
 have HB := Lib.hid (q8 w (.cells (#[.slice none 0 0]) 208))
 obtain ⟨yw1, hwyw1⟩ : ∃ ww, ww = (w.alloc (.cells (#[.slice none 0 0]) 208)) := ⟨_, rfl⟩
 rw [← hwyw1] at M2 HB ⊢
 clear hwyw1
 repeat ((fail_if_success (with_reducible (show wpList _ _ _ _ _ _))); go_step)
 (refine wpList_step (fun K hK => ?_); go_simp; (try go_bits); refine hK _ _ ?_; clear hK K)
 refine wpList_nil ?_
 repeat ((fail_if_success (with_reducible (show wpList _ _ _ _ _ _))); go_step)
 have hlt := M2.out.lt
 have hsz := HB.out.size
 have hf : ∀ (k : Nat) (t : Array Value), ((#[7] : Array Tmp).zip #[Value.int .u32 (vals k)]).foldl (fun t (p, v) => t.setIfInBounds p v) t = t.setIfInBounds 7 (.int .u32 (vals k)) := fun k t => by simp
 refine range_z (gf := gf) (lb := lb) rfl eg hseq HB.out (fun _ => rfl) (fun j hj => by have := hprot j hj; omega)
  (fun s k V => ∃ v, Has V w.heap.size #[v] 208 ∧ V.ownsRow s 127 1 v k (qcW vals k) ∧ Below w.heap.size w V ∧ yw1.heap.size ≤ s) ?h0 ?hz (fun k t => t.setIfInBounds 5 (.int .u32 (vals k))) ?assign ?body ?done
 case h0 =>
  intro W1 hb hs
  exact ⟨_, M2.out.below hb hlt, World.ownsRow_nil _ _ _ _, HB.out.trans (hb.mono hsz), hb.size⟩
 case hz =>
  rintro s k A B ⟨v, h1, h2, h3, h4⟩ hq
  exact ⟨v, (hq.block _ (by omega)).trans h1, qa1 h2 hq, hq.below h3 hsz, h4⟩
 case assign =>
  intro m l2 k V K hK
  simp only [hf, sI, sS, sZ] at hK ⊢
  gi_wp2
  exact hK
 case body =>
  rintro m l2 s k V hs hsV hk ⟨v, h1, h2, h3, h4⟩
  simp only [hf, sI, sS, sZ]
  clear hf hseq
  have M2 := Lib.hid h1
  have Hown := Lib.hid h2
  have H3 := Lib.hid h3
  clear h1 h2 h3
  repeat ((fail_if_success (with_reducible (show wpListIn _ _ _ _ _ _ _ _))); gi_step)
  refine qZ (by kernel_rfl) ?_
  refine Qv (by rfl) 208 _ rfl (w.heap.size) rfl (v) _ M2.out.one Tryz.underlying208 rfl 8 rfl ?_
  (try simp only [Act.put, sI, sS, sZ])
  iterate 2 (refine wpList_step (fun K hK => ?_); go_simp; (try go_bits); refine hK _ _ ?_; clear hK K)
  refine wpList_append_own _ rfl _ _ 208 rfl s 127 i0 (.int .u32 0) 1 4 Tryz.underlying208 hi hz0 hz1 hz2 rfl (by decide) v k (qcW vals k) rfl (Hown.out.alloc _) ⟨V.heap.size, 0, none⟩ 1 1 [.int .u32 (vals k)] rfl rfl (cell_one_new _ _ _) (by simp [Value.oneCell']) (by unfold maxLen; omega) (by omega) (by simp; omega) ?_
  intro v' w1 hown' hgrow _
  obtain ⟨g', cap', rfl, hg'⟩ := ownsRow_s hown'
  have hne : ∀ j, j < s → some j ≠ v.ownBlock := fun j hj e => by have := (Hown.out.lt j e.symm).1; omega
  have mB : Has w1 w.heap.size #[v] 208 := (hgrow.block _ (by have := M2.out.lt; simp; omega) (hne _ (by omega))).trans (M2.out.alloc _)
  have hszg := hgrow.size
  rw [World.size_alloc] at hszg
  (try simp only [Act.put, sI, sS, sZ])
  refine zu (by rfl) 208 _ _ rfl rfl (w.heap.size) (.slice (some ⟨g', 0, none⟩) (k + 1) cap') rfl rfl _ _ mB (by kernel_rfl) rfl rfl ?_
  intro w2 hw2
  refine wpList_nil ?_
  have hs2 : w1.heap.size ≤ w2.heap.size := by rw [hw2]; exact ((Below.refl 0 w1).setCell (p := ⟨w.heap.size, 0, none⟩) (Nat.zero_le _) _).size
  refine ⟨⟨_, by rw [hw2]; exact mB.setAt 0 _, ?_, ?_, h4⟩, by omega, fun j hj => ?_⟩
  · rw [fvals_succ, hw2]
    exact hown'.kept (grownBy_setCell' w1 w.heap.size _) (.inr (by unfold Value.ownBlock; intro e; injection e with e; have e2 : g' = w.heap.size := e; omega))
  · rw [hw2]
    have hb1 : Below w.heap.size w w1 := (H3.out.alloc H3.out.size (.cells #[.int .u32 (vals k)] 127)).grown hgrow (by rw [World.size_alloc]; have := H3.out.size; omega) (fun j e => by have := (Hown.out.lt j e).1; omega)
    exact hb1.setCell (p := ⟨w.heap.size, 0, none⟩) (Nat.le_refl _) _
  · have hj1 : j < s ∧ j ≠ w.heap.size := by
     rcases hj with ⟨a, b⟩ | h
     · exact ⟨b, by omega⟩
     · have := hprot j h; exact ⟨by omega, by omega⟩
    rw [hw2]
    exact (heap_setCell_other w1 ⟨w.heap.size, 0, none⟩ j _ hj1.2).trans ((hgrow.block j (by rw [World.size_alloc]; omega) (hne j hj1.1)).trans (Below.heap_alloc V _ j (by omega)))
 case done =>
  rintro s V hs hsV ⟨v, h1, h2, h3, h4⟩ hD
  have hD2 := Lib.hid hD
  have M2 := Lib.hid h1
  have Hown := Lib.hid h2
  have H3 := Lib.hid h3
  clear hD h1 h2 h3 hseq hf
  repeat ((fail_if_success (with_reducible (show wpList _ _ _ _ _ _))); go_step)
  refine Qv (by rfl) 208 _ rfl (w.heap.size) rfl (v) _ M2.out.one Tryz.underlying208 rfl 12 rfl ?_
  (try simp only [Act.put, sI, sS, sZ])
  (refine wpList_step (fun K hK => ?_); go_simp; (try go_bits); refine hK _ _ ?_; clear hK K)
  refine wpList_nil ?_
  repeat ((fail_if_success (with_reducible (show wpList _ _ _ _ _ _))); go_step)
  refine ⟨by simp, .inl ⟨_, _, rfl, run_takeDeferred hD2.out, ?_⟩⟩
  have hq : Zone yw1.heap.size s V (V.putObj yw1.heap.size (.deferred none)) := Zone.put V _ _ (Nat.le_refl _) (by omega)
  refine ⟨_, results_tmp rfl _ _ _, ⟨_, rfl, ownsRow_base (qa1 Hown.out hq) (by omega)⟩, hq.below H3.out hsz⟩
end Go.Proofs.YtbgefoamhdgnaaaGreatDoor
end
namespace Go.Proofs.YtbgefoamhdgnaaaGreatDoor
section
open Go.RowKit Go.Lib
def L0 : Nat := 7237005577332262213973186563042994240857116359379907606001950938285454250989
def r17 (n : Nat) : Array Value := row .u32 17 (dg 65536 n)
theorem zA (n : Nat) : (r17 n).size = 17 := Qc _ _ _
def z92 : Array Value := (#[.int .u32 0, .int .u32 0, .int .u32 0, .int .u32 0, .int .u32 0, .int .u32 0, .int .u32 0, .int .u32 0, .int .u32 0, .int .u32 0, .int .u32 0, .int .u32 0, .int .u32 0, .int .u32 0, .int .u32 0, .int .u32 0, .int .u32 0] : Array Value)
theorem al92 (w : World) : (Instr.alloc 236 true (.tuple #[])).run Tryz.prog w = .ok (.pointer (some ⟨w.heap.size, 0, none⟩)) (w.alloc (.cells z92 236)) := by
 unfold z92
 go_simp
theorem bd92 : Tryz.prog.built 236 [(0, .int .u32 54253), (1, .int .u32 23797), (2, .int .u32 25370), (3, .int .u32 22546), (4, .int .u32 40150), (5, .int .u32 41719), (6, .int .u32 63966), (7, .int .u32 5342), (15, .int .u32 4096)] = some (r17 L0) := by kernel_rfl
theorem qdz (w : World) : Calls Tryz.prog 214 #[] w fun e w' => e = .returned (.agg (r17 L0)) ∧ Below w.heap.size w w' := by
 go_enter Tryz.func214, Tryz.ntmps214
 repeat ((fail_if_success (with_reducible (show wpList _ _ _ _ _ _))); go_step)
 (refine wpList_step (fun K hK => ?_); go_simp; (try go_bits); refine hK _ _ ?_; clear hK K)
 refine wpList_nil ?_
 have M0 := Lib.hid (HasN.new w  (#[.int .u32 0, .int .u32 0, .int .u32 0, .int .u32 0, .int .u32 0, .int .u32 0, .int .u32 0, .int .u32 0, .int .u32 0, .int .u32 0, .int .u32 0, .int .u32 0, .int .u32 0, .int .u32 0, .int .u32 0, .int .u32 0, .int .u32 0] : Array Value) 236 17 (by kernel_rfl))
 have HB := Lib.hid (q8 w (.cells (#[.int .u32 0, .int .u32 0, .int .u32 0, .int .u32 0, .int .u32 0, .int .u32 0, .int .u32 0, .int .u32 0, .int .u32 0, .int .u32 0, .int .u32 0, .int .u32 0, .int .u32 0, .int .u32 0, .int .u32 0, .int .u32 0, .int .u32 0] : Array Value) 236))
 obtain ⟨yw1, hwyw1⟩ : ∃ ww, ww = (w.alloc (.cells (#[.int .u32 0, .int .u32 0, .int .u32 0, .int .u32 0, .int .u32 0, .int .u32 0, .int .u32 0, .int .u32 0, .int .u32 0, .int .u32 0, .int .u32 0, .int .u32 0, .int .u32 0, .int .u32 0, .int .u32 0, .int .u32 0, .int .u32 0] : Array Value) 236)) := ⟨_, rfl⟩
 rw [← hwyw1] at M0 HB ⊢
 clear hwyw1
 repeat ((fail_if_success (with_reducible (show wpList _ _ _ _ _ _))); go_step)
 refine Qw (by rfl) 236 _ rfl _ (by rfl) (r17 L0) (bd92) 1 rfl ?_
 (try simp only [Act.put, sI, sS, sZ])
 first | (obtain ⟨Zq, hZ, mZ⟩ := M0.out) | (obtain ⟨Zq, hZ, mZ⟩ := M0.out.toN (zA ..))
 refine ql (by rfl) 236 _ _ rfl rfl (w.heap.size) (r17 L0) rfl rfl 236 Zq mZ (by rw [zA]; kernel_rfl) (hZ.trans (zA ..).symm) (qo _ _ _) ?_
 intro yw2 hw2
 replace M0 := Lib.hid (mZ.setRow (r17 L0))
 replace HB := Lib.hid (below_setRow HB.out (w.heap.size) (r17 L0) (by omega))
 rw [← hw2] at M0 HB; clear mZ hZ hw2
 refine wpList_nil ?_
 go_wp2_with fail
 exact bodyPost_ret (v := .agg (r17 L0)) (results_cell_row (t := 236) (by rfl) _ _ (w.heap.size) _ _ _ rfl M0.out Tryz.underlying236 rfl (by rw [zA]; kernel_rfl)) rfl ⟨rfl, HB.out⟩
theorem ent214 : _root_.Go.Enters Tryz.prog 214 := ⟨_, Tryz.func214, by kernel_rfl, by kernel_rfl⟩
theorem ent215 : _root_.Go.Enters Tryz.prog 215 := ⟨_, Tryz.func215, by kernel_rfl, by kernel_rfl⟩
theorem ent216 : _root_.Go.Enters Tryz.prog 216 := ⟨_, Tryz.func216, by kernel_rfl, by kernel_rfl⟩
theorem ent218 : _root_.Go.Enters Tryz.prog 218 := ⟨_, Tryz.func218, by kernel_rfl, by kernel_rfl⟩
theorem ent250 : _root_.Go.Enters Tryz.prog 250 := ⟨_, Tryz.func250, by kernel_rfl, by kernel_rfl⟩
theorem ent163 : _root_.Go.Enters Tryz.prog 163 := ⟨_, Tryz.func163, by kernel_rfl, by kernel_rfl⟩
theorem qbW (gf : Nat) (lb : Array Value) (len : Nat) (h1 : 1 ≤ len) (hlen : len ≤ 1000000) (vals : Nat → Int) (prot : Nat → Prop) (eg : ∀ (args : Array Value) (w : World), (callFunc gf args).run Tryz.prog w = .ok (.enter gf args) w) (w : World)
 (hseq : SeqZ Tryz.prog gf lb (fun k => #[.int .u32 (vals k)]) len prot w) (hprot : ∀ j, prot j → j < w.heap.size) :
 Calls Tryz.prog 216 #[.func (.func gf) #[] lb] w fun e w' => (∃ B cap, e = .returned (.slice (some ⟨B, 0, none⟩) len cap) ∧ Figs w' B len vals) ∧ Below w.heap.size w w' := by
 have hap := apseq_any gf lb len hlen vals prot eg w hseq hprot
 have Hap := Lib.hid hap; clear hap
 clear hseq
 go_enter Tryz.func216, Tryz.ntmps216
 repeat ((fail_if_success (with_reducible (show wpList _ _ _ _ _ _))); go_step)
 (refine wpList_step (fun K hK => ?_); go_simp; (try go_bits); refine hK _ _ ?_; clear hK K)
 refine wpList_nil ?_
 have HB := Lib.hid (Below.refl w.heap.size w)
 repeat ((fail_if_success (with_reducible (show wpList _ _ _ _ _ _))); go_step)
 (refine wpList_step (fun K hK => ?_); go_simp; (try go_bits); refine hK _ _ ?_; clear hK K)
 refine qm (by rfl) rfl rfl (by rfl) ent250 (by rfl) (Hap.out) 4 rfl ?_
 rintro e uw1 ⟨⟨rv, rfl, hown⟩, hb⟩
 replace HB := Lib.hid (qf HB.out hb)
 refine ⟨_, rfl, ?_⟩
 clear hb
 (try simp only [Act.put, sI, sS, sZ])
 (refine wpList_step (fun K hK => ?_); go_simp; (try go_bits); refine hK _ _ ?_; clear hK K)
 refine wpList_nil ?_
 obtain ⟨j, rfl⟩ : ∃ j, len = j + 1 := ⟨len - 1, by omega⟩
 obtain ⟨hl, hr⟩ := hown
 rcases hr with ⟨_, h0⟩ | ⟨g, cap, cur, rfl, _, hg, hn, _, hcs, htk⟩
 · omega
 · have hfig : Figs uw1 g (j + 1) vals := ⟨(Array.getElem?_eq_some_iff.1 hg).1, fun i hi => by
    have hm : Has uw1 g cur 127 := hg
    rw [hm.cellAt]
    have h2 : (cur.toList.take ((j + 1) * 1))[i]? = some (.int .u32 (vals i)) := by rw [htk]; simp [qcW, hi]
    rw [List.getElem?_take_of_lt (by omega)] at h2
    simpa using h2⟩
   go_wp2_with fail
   go_ret
   exact ⟨⟨g, cap, rfl, hfig⟩, HB.out⟩
theorem cmp_any (a b : Int) (ha : 0 ≤ a) (ha2 : a < 65536) (hb : 0 ≤ b) (hb2 : b < 65536) (w : World) : Calls Tryz.prog 218 #[.int .u32 a, .int .u32 b] w fun e w' => e = .returned (.int .i64 (a - b)) ∧ Below w.heap.size w w' := by
 go_enter Tryz.func218, Tryz.ntmps218
 go_wp2
 go_ret
 exact ⟨rfl, Below.refl _ _⟩
def CmpZ (N : Nat) (A B : Nat → Int) (z : Int) : Prop := (∃ i, i < N ∧ (∀ j, j < i → A j = B j) ∧ A i ≠ B i ∧ z = A i - B i) ∨ ((∀ j, j < N → A j = B j) ∧ z = 0)
theorem cmpf_any (b1 b2 N c1 c2 : Nat) (A B : Nat → Int) (hN : N ≤ 1000) (hA : ∀ j, 0 ≤ A j ∧ A j < 65536) (hB2 : ∀ j, 0 ≤ B j ∧ B j < 65536) (w : World) (f1 : Figs w b1 N A) (f2 : Figs w b2 N B) :
 Calls Tryz.prog 215 #[.slice (some ⟨b1, 0, none⟩) N c1, .slice (some ⟨b2, 0, none⟩) N c2, .func (.func 218) #[] #[]] w fun e w' => (∃ z, CmpZ N A B z ∧ e = .returned (.int .i64 z)) ∧ Below w.heap.size w w' := by
 have HA := Lib.hid hA; clear hA
 have HB2 := Lib.hid hB2; clear hB2
 have F1 := Lib.hid f1; clear f1
 have F2 := Lib.hid f2; clear f2
 go_enter Tryz.func215, Tryz.ntmps215
 repeat ((fail_if_success (with_reducible (show wpList _ _ _ _ _ _))); go_step)
 (refine wpList_step (fun K hK => ?_); go_simp; (try go_bits); refine hK _ _ ?_; clear hK K)
 refine wpList_nil ?_
 have HB := Lib.hid (Below.refl w.heap.size w)
 repeat ((fail_if_success (with_reducible (show wpList _ _ _ _ _ _))); go_step)
 iterate 3 (refine wpList_step (fun K hK => ?_); go_simp; (try go_bits); refine hK _ _ ?_; clear hK K)
 refine wpList_nil ?_
 repeat ((fail_if_success (with_reducible (show wpList _ _ _ _ _ _))); go_step)
 go_loopw [13] (fun i wr => ∃ k : Nat, k ≤ N ∧ i = .int .i64 (k : Int) ∧ RowKit.Hid (∀ j, j < k → A j = B j) ∧ Figs wr b1 N A ∧ Figs wr b2 N B ∧ Below w.heap.size w wr) (fun i _ => (N - (RowKit.intOf i).toNat))
 case atStart => exact ⟨0, Nat.zero_le _, rfl, Lib.hid (fun j hj => by omega), F1.out, F2.out, HB.out⟩
 case round =>
  clear HB F1 F2
  obtain ⟨k, hk, rfl, Heq, f1, f2, hB⟩ := hrel
  have F1 := Lib.hid f1; clear f1
  have F2 := Lib.hid f2; clear f2
  have HB := Lib.hid hB; clear hB
  rcases Nat.lt_or_ge k N with hlt | hge
  · have kq : (k : Int) < (N : Int) := by omega
    have hc1 := F1.out.2 k hlt
    have hc2 := F2.out.2 k hlt
    have a1 := (HA.out k).1
    have a2 := (HA.out k).2
    have a3 := (HB2.out k).1
    have a4 := (HB2.out k).2
    obtain ⟨x, hx⟩ : ∃ x, x = A k := ⟨_, rfl⟩
    obtain ⟨y, hy⟩ : ∃ y, y = B k := ⟨_, rfl⟩
    rw [← hx] at hc1 a1 a2
    rw [← hy] at hc2 a3 a4
    have Hx := Lib.hid hx; clear hx
    have Hy := Lib.hid hy; clear hy
    have hcmp := fun w => cmp_any x y a1 a2 a3 a4 w
    have Hcmp := Lib.hid hcmp; clear hcmp
    repeat ((fail_if_success (with_reducible (show wpList _ _ _ _ _ _))); go_step)
    (refine wpList_step (fun K hK => ?_); go_simp; (try go_bits); refine hK _ _ ?_; clear hK K)
    refine wpList_nil ?_
    repeat ((fail_if_success (with_reducible (show wpList _ _ _ _ _ _))); go_step)
    iterate 5 (refine wpList_step (fun K hK => ?_); go_simp; (try go_bits); refine hK _ _ ?_; clear hK K)
    refine wpList_nil ?_
    repeat ((fail_if_success (with_reducible (show wpList _ _ _ _ _ _))); go_step)
    iterate 4 (refine wpList_step (fun K hK => ?_); go_simp; (try go_bits); refine hK _ _ ?_; clear hK K)
    refine wpList_nil ?_
    repeat ((fail_if_success (with_reducible (show wpList _ _ _ _ _ _))); go_step)
    iterate 5 (refine wpList_step (fun K hK => ?_); go_simp; (try go_bits); refine hK _ _ ?_; clear hK K)
    refine wpList_nil ?_
    repeat ((fail_if_success (with_reducible (show wpList _ _ _ _ _ _))); go_step)
    clear hc1 hc2
    iterate 3 (refine wpList_step (fun K hK => ?_); go_simp; (try go_bits); refine hK _ _ ?_; clear hK K)
    refine qm (by rfl) rfl rfl (by rfl) ent218 (by rfl) (Hcmp.out _) 29 rfl ?_
    rintro e uw101 ⟨rfl, hb⟩
    replace F1 := Lib.hid (F1.out.call hb)
    replace F2 := Lib.hid (F2.out.call hb)
    replace HB := Lib.hid (qf HB.out hb)
    refine ⟨_, rfl, ?_⟩
    clear hb
    (try simp only [Act.put, sI, sS, sZ])
    (refine wpList_step (fun K hK => ?_); go_simp; (try go_bits); refine hK _ _ ?_; clear hK K)
    refine wpList_nil ?_
    repeat ((fail_if_success (with_reducible (show wpList _ _ _ _ _ _))); go_step)
    by_cases hxy : x = y
    · subst hxy
      have Hnext : RowKit.Hid (∀ j, j < k + 1 → A j = B j) := by
       refine Lib.hid (fun j hj => ?_)
       by_cases e : j = k
       · rw [e, ← Hx.out, ← Hy.out]
       · exact Heq.out j (by omega)
      have hne : (x - x != 0) = false := by simp
      iterate 2 (refine wpList_step (fun K hK => ?_); go_simp; (try go_bits); refine hK _ _ ?_; clear hK K)
      refine wpList_nil ?_
      repeat ((fail_if_success (with_reducible (show wpList _ _ _ _ _ _))); go_step)
      iterate 2 (refine wpList_step (fun K hK => ?_); go_simp; (try go_bits); refine hK _ _ ?_; clear hK K)
      refine wpList_nil ?_
      go_roundw
      case measure => simp [RowKit.intOf]; omega
      case rel => (repeat apply Exists.intro); exact ⟨⟨k + 1, by omega, by go_num, Hnext, F1.out, F2.out, HB.out⟩, rfl⟩
    · have hne : (x - y != 0) = true := by simp; omega
      iterate 2 (refine wpList_step (fun K hK => ?_); go_simp; (try go_bits); refine hK _ _ ?_; clear hK K)
      refine wpList_nil ?_
      repeat ((fail_if_success (with_reducible (show wpList _ _ _ _ _ _))); go_step)
      iterate 2 (refine wpList_step (fun K hK => ?_); go_simp; (try go_bits); refine hK _ _ ?_; clear hK K)
      refine wpList_nil ?_
      go_wp2_with fail
      go_ret
      exact ⟨⟨x - y, .inl ⟨k, hlt, Heq.out, by rw [← Hx.out, ← Hy.out]; exact hxy, by rw [← Hx.out, ← Hy.out]⟩, rfl⟩, HB.out⟩
  · have hkN : k = N := by omega
    subst hkN
    clear hk hge
    repeat ((fail_if_success (with_reducible (show wpList _ _ _ _ _ _))); go_step)
    (refine wpList_step (fun K hK => ?_); go_simp; (try go_bits); refine hK _ _ ?_; clear hK K)
    refine wpList_nil ?_
    repeat ((fail_if_success (with_reducible (show wpList _ _ _ _ _ _))); go_step)
    iterate 5 (refine wpList_step (fun K hK => ?_); go_simp; (try go_bits); refine hK _ _ ?_; clear hK K)
    refine wpList_nil ?_
    repeat ((fail_if_success (with_reducible (show wpList _ _ _ _ _ _))); go_step)
    (refine wpList_step (fun K hK => ?_); go_simp; (try go_bits); refine hK _ _ ?_; clear hK K)
    refine wpList_nil ?_
    go_wp2_with fail
    go_ret
    exact ⟨⟨0, .inr ⟨Heq.out, rfl⟩, rfl⟩, HB.out⟩
end
section
open Go.RowKit Go.Lib
theorem Qf (B n i : Nat) : dg B n i = ((n / B ^ i % B : Nat) : Int) := rfl
def qcP (m n k : Nat) : Nat → Int := fun j => if j < k then dg 65536 m j else dg 65536 n j
theorem qcc (m n k : Nat) : qcP m n k k = dg 65536 n k := by unfold qcP; rw [if_neg (by omega)]
theorem mixd_upd (m n k : Nat) (x : Int) (h : x = dg 65536 m k) : upd (qcP m n k) k x = qcP m n (k + 1) := by
 funext j
 unfold upd qcP
 by_cases e : j = k
 · rw [if_pos e, if_pos (by omega), h, e]
 · rw [if_neg e]
   by_cases e2 : j < k
   · rw [if_pos e2, if_pos (by omega)]
   · rw [if_neg e2, if_neg (by omega)]
theorem mixd_0 (m n : Nat) : row .u32 17 (qcP m n 0) = r17 n := q7 _ _ _ _ (fun j hj => by unfold qcP; rw [if_neg (by omega)])
theorem mixd_17 (m n : Nat) : row .u32 17 (qcP m n 17) = r17 m := q7 _ _ _ _ (fun j hj => by unfold qcP; rw [if_pos hj])
theorem dbl_step (m n k c v x : Nat) (h : m / 65536 ^ k = 2 * (n / 65536 ^ k) + c) (hc : c < 2) (hx : n / 65536 ^ k % 65536 = x) (hv : v = 2 * x + c) :
 m / 65536 ^ k % 65536 = v % 65536 ∧ m / 65536 ^ (k + 1) = 2 * (n / 65536 ^ (k + 1)) + v / 65536 ∧ v / 65536 < 2 := by
 rw [Nat.pow_succ, ← Nat.div_div_eq_div_mul, ← Nat.div_div_eq_div_mul]
 omega
theorem sub_rest (d n l k c x y : Nat) (h : n / 65536 ^ k = d / 65536 ^ k + l / 65536 ^ k + c) (hc : c < 2) (hx : n / 65536 ^ k % 65536 = x) (hy : l / 65536 ^ k % 65536 = y) :
 (d / 65536 ^ k % 65536 = (x + 4294967296 - y - c) % 4294967296 % 65536) ∧ n / 65536 ^ (k + 1) = d / 65536 ^ (k + 1) + l / 65536 ^ (k + 1) + (x + 4294967296 - y - c) % 4294967296 / 2147483648 ∧ (x + 4294967296 - y - c) % 4294967296 / 2147483648 < 2 := by
 rw [Nat.pow_succ, ← Nat.div_div_eq_div_mul, ← Nat.div_div_eq_div_mul, ← Nat.div_div_eq_div_mul]
 generalize n / 65536 ^ k = N at *
 generalize d / 65536 ^ k = D at *
 generalize l / 65536 ^ k = L at *
 omega
theorem cmpz_le (n l N : Nat) (hn : n < 65536 ^ N) (hl : l < 65536 ^ N) (z : Int) (h : CmpZ N (fun k => dg 65536 n (N - 1 - k)) (fun k => dg 65536 l (N - 1 - k)) z) : decide (0 ≤ z) = decide (l ≤ n) := by
 have key : ∀ i, i ≤ N → (∀ j, j < i → n / 65536 ^ (N - 1 - j) % 65536 = l / 65536 ^ (N - 1 - j) % 65536) → n / 65536 ^ (N - i) = l / 65536 ^ (N - i) := by
  intro i
  induction i with
  | zero => intro _ _; rw [Nat.sub_zero, Nat.div_eq_of_lt hn, Nat.div_eq_of_lt hl]
  | succ i ih =>
   intro hi hj
   have h1 := ih (by omega) (fun j hj' => hj j (by omega))
   have h2 := hj i (by omega)
   rw [show N - 1 - i = N - (i + 1) by omega] at h2
   rw [show N - i = N - (i + 1) + 1 by omega, Nat.pow_succ, ← Nat.div_div_eq_div_mul, ← Nat.div_div_eq_div_mul] at h1
   omega
 have inj : ∀ k, dg 65536 n k = dg 65536 l k → n / 65536 ^ k % 65536 = l / 65536 ^ k % 65536 := fun k h => by unfold dg at h; omega
 rcases h with ⟨i, hi, he, hne, hz⟩ | ⟨he, hz⟩
 · have hk := key i (by omega) (fun j hj => inj _ (he j hj))
   have hne2 : n / 65536 ^ (N - 1 - i) % 65536 ≠ l / 65536 ^ (N - 1 - i) % 65536 := fun e => hne (by show dg _ _ _ = dg _ _ _; unfold dg; rw [e])
   have hz2 : z = ((n / 65536 ^ (N - 1 - i) % 65536 : Nat) : Int) - ((l / 65536 ^ (N - 1 - i) % 65536 : Nat) : Int) := hz
   rw [show N - i = N - 1 - i + 1 by omega, Nat.pow_succ, ← Nat.div_div_eq_div_mul, ← Nat.div_div_eq_div_mul] at hk
   generalize hp : 65536 ^ (N - 1 - i) = p at *
   have hp0 : 0 < p := by rw [← hp]; exact Nat.pow_pos (by decide)
   by_cases h0 : l ≤ n
   · have h3 : l / p ≤ n / p := Nat.div_le_div_right h0
     rw [decide_eq_true h0, decide_eq_true (by omega)]
   · have h3 : n / p ≤ l / p := Nat.div_le_div_right (by omega)
     rw [decide_eq_false h0, decide_eq_false (by omega)]
 · have hk := key N (Nat.le_refl _) (fun j hj => inj _ (he j hj))
   rw [Nat.sub_self, Nat.pow_zero, Nat.div_one, Nat.div_one] at hk
   rw [hz, hk, decide_eq_true (Nat.le_refl _)]; rfl
theorem dg65 (n j : Nat) : 0 ≤ dg 65536 n j ∧ dg 65536 n j < 65536 := by unfold dg; omega
theorem But.set {B : Nat} {A W : World} (h : But B A W) (a : Addr) (v : Value) (ha : a.block = B) : But B A (W.setCell a v) := by
 have h2 := (Below.refl 0 W).setCell (p := a) (Nat.zero_le _) v
 exact ⟨h2.os.trans h.os, h2.tape.trans h.tape, h2.output.trans h.output, Nat.le_trans h.size h2.size, fun k hk hn => (heap_setCell_other W a k v (by omega)).trans (h.block k hk hn)⟩
theorem L0_17 : L0 < 65536 ^ 17 := by decide +kernel
theorem qbY (R n : Nat) (hn : n < 65536 ^ 17) (w : World) (hR : Has w R (r17 n) 237) :
 Calls Tryz.prog 163 #[.pointer (some ⟨R, 0, none⟩)] w fun e w' => e = .returned (.bool (decide (L0 ≤ n))) ∧ Below w.heap.size w w' := by
 have hfr := Has.figs hR
 have MR := Lib.hid hR
 have HF := Lib.hid hfr
 have Hn := Lib.hid hn
 clear hR hfr hn
 go_enter Tryz.func163, Tryz.ntmps163
 repeat ((fail_if_success (with_reducible (show wpList _ _ _ _ _ _))); go_step)
 (refine wpList_step (fun K hK => ?_); go_simp; (try go_bits); refine hK _ _ ?_; clear hK K)
 refine wpList_nil ?_
 have HB := Lib.hid (Below.refl w.heap.size w)
 repeat ((fail_if_success (with_reducible (show wpList _ _ _ _ _ _))); go_step)
 refine qm (by rfl) rfl rfl (by rfl) ent214 (by rfl) (qdz _) 4 rfl ?_
 rintro e uw1 ⟨rfl, hb⟩
 replace HF := Lib.hid (HF.out.call hb)
 replace HB := Lib.hid (qf HB.out hb)
 refine ⟨_, rfl, ?_⟩
 clear hb
 (try simp only [Act.put, sI, sS, sZ])
 refine qE (by rfl) 236 rfl _ al92 3 rfl ?_
 intro yw1 hw2
 have hlt2 := HF.out.lt
 have hsz := HB.out.size
 replace HF := Lib.hid (HF.out.alloc (.cells z92 236))
 have M3 := Lib.hid (HasN.new uw1 z92 236 17 (by kernel_rfl))
 replace HB := Lib.hid (HB.out.alloc hsz (.cells z92 236))
 rw [← hw2] at HF M3 HB; clear hw2
 (try simp only [Act.put, sI, sS, sZ])
 first | (obtain ⟨Zq, hZ, mZ⟩ := M3.out) | (obtain ⟨Zq, hZ, mZ⟩ := M3.out.toN (zA ..))
 refine ql (by rfl) 236 _ _ rfl rfl (uw1.heap.size) (r17 L0) rfl rfl 236 Zq mZ (by rw [zA]; kernel_rfl) (hZ.trans (zA ..).symm) (qo _ _ _) ?_
 intro yw3 hw2
 replace HF := Lib.hid (HF.out.setRow_other (uw1.heap.size) (r17 L0) (by omega))
 replace M3 := Lib.hid (mZ.setRow (r17 L0))
 replace HB := Lib.hid (below_setRow HB.out (uw1.heap.size) (r17 L0) (by omega))
 rw [← hw2] at HF M3 HB; clear mZ hZ hw2
 refine wpList_nil ?_
 repeat ((fail_if_success (with_reducible (show wpList _ _ _ _ _ _))); go_step)
 have HL := Lib.hid (Has.figs M3.out)
 refine wp_region_noPanic ?_
 refine Qn (fun _ => True) 99 11 #[ff,ff,ff,ff,ff,ff,ff,ff,ff,ff,ff] (by kernel_rfl) rfl rfl ?_
 replace HF := Lib.hid (HF.out.drew)
 replace M3 := Lib.hid (M3.out.drew)
 replace HL := Lib.hid (HL.out.drew)
 replace HB := Lib.hid (qT HB.out 1)
 obtain ⟨yw4, hwyw4⟩ : ∃ ww, ww = yw3.drew := ⟨_, rfl⟩
 rw [← hwyw4] at HF M3 HL ⊢
 have kq : Below w.heap.size w yw4 := by rw [hwyw4]; exact HB.out
 clear HB; have HB := Lib.hid kq; clear kq hwyw4
 refine qi 0 5 #[tt,ff,ff,ff,ff,ff,ff,ff,ff,ff,ff] (v := ?uv1) rfl rfl rfl (by kernel_rfl) (Or.inl ⟨by rfl, ?uy1⟩) (trivial) ?urest1
 case uy1 => (intro _ _; go_simp; try with_reducible rfl)
 (try simp only [sI, sS, sZ])
 refine qi 1 6 #[tt,tt,ff,ff,ff,ff,ff,ff,ff,ff,ff] (v := ?uv2) rfl rfl rfl (by kernel_rfl) (Or.inl ⟨by rfl, ?uy2⟩) (trivial) ?urest2
 case uy2 => (intro _ _; go_simp; try with_reducible rfl)
 (try simp only [sI, sS, sZ])
 refine qi 2 7 #[tt,tt,tt,ff,ff,ff,ff,ff,ff,ff,ff] (v := ?uv3) rfl rfl rfl (by kernel_rfl) (Or.inl ⟨by rfl, ?uy3⟩) (trivial) ?urest3
 case uy3 => (intro _ _; go_simp; try with_reducible rfl)
 (try simp only [sI, sS, sZ])
 refine qi 5 10 #[tt,tt,tt,ff,ff,tt,ff,ff,ff,ff,ff] (v := ?uv4) rfl rfl rfl (by kernel_rfl) (Or.inl ⟨by rfl, ?uy4⟩) (trivial) ?urest4
 case uy4 => (intro _ _; go_simp; try with_reducible rfl)
 (try simp only [sI, sS, sZ])
 refine qq (i := 3) (by kernel_rfl) ?_
 refine qM 3 8 #[tt,tt,tt,tt,ff,tt,ff,ff,ff,ff,ff] rfl rfl rfl (by rfl) rfl rfl (by rfl) ent217 (by rfl) (qc7 _ _ _ _) ?_
 rintro e uw2 ⟨⟨rfl, hbs⟩, hb⟩
 replace HF := Lib.hid (HF.out.call hb)
 replace M3 := Lib.hid (M3.out.call hb)
 replace HL := Lib.hid (HL.out.call hb)
 replace HB := Lib.hid (qf HB.out hb)
 have MS1 := Lib.hid hbs; clear hbs
 refine ⟨_, rfl, fun _ => trivial, ?_⟩
 clear hb
 (try simp only [sI, sS, sZ])
 refine qq (i := 4) (by kernel_rfl) ?_
 refine qM 4 9 #[tt,tt,tt,tt,tt,tt,ff,ff,ff,ff,ff] rfl rfl rfl (by rfl) rfl rfl (by rfl) ent216 (by rfl) (qbW 251 #[.pointer (some ⟨yw4.heap.size, 0, none⟩)] 17 (by decide) (by decide) _ _ ent251 _ (bkf_seq (yw4.heap.size) (R) 17 17 (dg 65536 n) (by decide) _ MS1.out HF.out) (fun j hj => by rcases hj with rfl | rfl; exact MS1.out.lt; exact HF.out.lt)) ?_
 rintro e uw3 ⟨⟨C1, cap1, rfl, hfg⟩, hb⟩
 replace HF := Lib.hid (HF.out.call hb)
 replace M3 := Lib.hid (M3.out.call hb)
 replace HL := Lib.hid (HL.out.call hb)
 replace MS1 := Lib.hid (MS1.out.call hb)
 replace HB := Lib.hid (qf HB.out hb)
 have F1 := Lib.hid hfg; clear hfg
 refine ⟨_, rfl, fun _ => trivial, ?_⟩
 clear hb
 (try simp only [sI, sS, sZ])
 refine qq (i := 6) (by kernel_rfl) ?_
 refine qM 6 11 #[tt,tt,tt,tt,tt,tt,tt,ff,ff,ff,ff] rfl rfl rfl (by rfl) rfl rfl (by rfl) ent217 (by rfl) (qc7 _ _ _ _) ?_
 rintro e uw4 ⟨⟨rfl, hbs⟩, hb⟩
 replace HF := Lib.hid (HF.out.call hb)
 replace M3 := Lib.hid (M3.out.call hb)
 replace HL := Lib.hid (HL.out.call hb)
 replace MS1 := Lib.hid (MS1.out.call hb)
 replace F1 := Lib.hid (F1.out.call hb)
 replace HB := Lib.hid (qf HB.out hb)
 have MS2 := Lib.hid hbs; clear hbs
 refine ⟨_, rfl, fun _ => trivial, ?_⟩
 clear hb
 (try simp only [sI, sS, sZ])
 refine qq (i := 7) (by kernel_rfl) ?_
 refine qM 7 12 #[tt,tt,tt,tt,tt,tt,tt,tt,ff,ff,ff] rfl rfl rfl (by rfl) rfl rfl (by rfl) ent216 (by rfl) (qbW 251 #[.pointer (some ⟨uw3.heap.size, 0, none⟩)] 17 (by decide) (by decide) _ _ ent251 _ (bkf_seq (uw3.heap.size) (uw1.heap.size) 17 17 (dg 65536 L0) (by decide) _ MS2.out HL.out) (fun j hj => by rcases hj with rfl | rfl; exact MS2.out.lt; exact HL.out.lt)) ?_
 rintro e uw5 ⟨⟨C2, cap2, rfl, hfg⟩, hb⟩
 replace HF := Lib.hid (HF.out.call hb)
 replace M3 := Lib.hid (M3.out.call hb)
 replace HL := Lib.hid (HL.out.call hb)
 replace MS1 := Lib.hid (MS1.out.call hb)
 replace F1 := Lib.hid (F1.out.call hb)
 replace MS2 := Lib.hid (MS2.out.call hb)
 replace HB := Lib.hid (qf HB.out hb)
 have F2 := Lib.hid hfg; clear hfg
 refine ⟨_, rfl, fun _ => trivial, ?_⟩
 clear hb
 (try simp only [sI, sS, sZ])
 refine qq (i := 8) (by kernel_rfl) ?_
 refine qM 8 13 #[tt,tt,tt,tt,tt,tt,tt,tt,tt,ff,ff] rfl rfl rfl (by rfl) rfl rfl (by rfl) ent215 (by rfl) (cmpf_any C1 C2 17 cap1 cap2 _ _ (by decide) (fun j => dg65 _ _) (fun j => dg65 _ _) _ F1.out F2.out) ?_
 rintro e uw6 ⟨⟨z, hz, rfl⟩, hb⟩
 replace HF := Lib.hid (HF.out.call hb)
 replace M3 := Lib.hid (M3.out.call hb)
 replace HL := Lib.hid (HL.out.call hb)
 replace MS1 := Lib.hid (MS1.out.call hb)
 replace F1 := Lib.hid (F1.out.call hb)
 replace MS2 := Lib.hid (MS2.out.call hb)
 replace F2 := Lib.hid (F2.out.call hb)
 replace HB := Lib.hid (qf HB.out hb)
 have Hz := Lib.hid hz; clear hz
 refine ⟨_, rfl, fun _ => trivial, ?_⟩
 clear hb
 (try simp only [sI, sS, sZ])
 refine qi 9 14 #[tt,tt,tt,tt,tt,tt,tt,tt,tt,tt,ff] (v := ?uv5) rfl rfl rfl (by kernel_rfl) (Or.inl ⟨by rfl, ?uy5⟩) (trivial) ?urest5
 case uy5 => (intro _ _; go_simp; try with_reducible rfl)
 (try simp only [sI, sS, sZ])
 refine qi 10 2 #[tt,tt,tt,tt,tt,tt,tt,tt,tt,tt,tt] (v := ?uv6) rfl rfl rfl (by kernel_rfl) (Or.inl ⟨by rfl, ?uy6⟩) (trivial) ?urest6
 case uy6 => (intro _ _; go_simp; try with_reducible rfl)
 (try simp only [sI, sS, sZ])
 refine qD (by kernel_rfl) (NoPanic.normal ?_)
 go_wp2_with fail
 go_ret
 have hfin := cmpz_le n L0 17 Hn.out L0_17 z Hz.out
 exact ⟨by rw [← hfin]; rfl, HB.out⟩
end
section
open Go.RowKit Go.Lib
theorem ent291 : _root_.Go.Enters Tryz.prog 291 := ⟨_, Tryz.func291, by kernel_rfl, by kernel_rfl⟩
theorem ent273 : _root_.Go.Enters Tryz.prog 273 := ⟨_, Tryz.func273, by kernel_rfl, by kernel_rfl⟩
theorem wu32 (n : Int) (h0 : 0 ≤ n) (h1 : n < 2 ^ 32) : IntKind.u32.wrap n = n := by rw [IntKind.wrap_u32]; omega
theorem or_bit (x c : Nat) (hx : x < 65536) (hc : c < 2) : bits .or .u32 ((x : Int) * 2) (c : Int) = ((2 * x + c : Nat) : Int) := by
 rw [bits_join .u32 32 (by decide) wu32 1 _ _ (by omega) (by omega) (by omega) (by omega) (by omega) (by omega)]
 omega
theorem and_16 (v : Nat) (hv : v < 4294967296) : bits .and .u32 (v : Int) 65535 = ((v % 65536 : Nat) : Int) := by
 have h := bits_mask .u32 32 (by decide) wu32 16 (by decide) (v : Int) (by omega) (by omega)
 rw [show ((2 : Int) ^ 16 - 1) = 65535 by decide] at h
 rw [h]; omega
theorem sz_91 (w : World) : (sizeOf 127).run Tryz.prog w = .ok 1 w := by kernel_rfl
theorem sub_wrap (x y c v : Nat) (hx : x < 65536) (hy : y < 65536) (hc : c < 2) (hv : v = (x + 4294967296 - y - c) % 4294967296) : ((x : Int) - (y : Int) - (c : Int)) % 4294967296 = (v : Int) := by omega
theorem take_any (R n d : Nat) (hd : n = d + L0) (w : World) (hR : Has w R (r17 n) 237) :
 Calls Tryz.prog 291 #[.pointer (some ⟨R, 0, none⟩)] w fun e w' => e = .returned (.tuple #[]) ∧ Has w' R (r17 d) 237 ∧ But R w w' := by
 have H0 := Lib.hid (show n / 65536 ^ 0 = d / 65536 ^ 0 + L0 / 65536 ^ 0 + 0 by rw [Nat.pow_zero, Nat.div_one, Nat.div_one, Nat.div_one]; omega)
 rw [← mixd_0 d n] at hR
 have MR := Lib.hid hR
 have HB := Lib.hid (But.refl R w)
 clear hR hd
 go_enter Tryz.func291, Tryz.ntmps291
 repeat ((fail_if_success (with_reducible (show wpList _ _ _ _ _ _))); go_step)
 (refine wpList_step (fun K hK => ?_); go_simp; (try go_bits); refine hK _ _ ?_; clear hK K)
 refine wpList_nil ?_
 repeat ((fail_if_success (with_reducible (show wpList _ _ _ _ _ _))); go_step)
 refine qm (by rfl) rfl rfl (by rfl) ent214 (by rfl) (qdz _) 6 rfl ?_
 rintro e uw1 ⟨rfl, hb⟩
 replace MR := Lib.hid (MR.out.call hb)
 replace HB := Lib.hid (HB.out.call hb)
 refine ⟨_, rfl, ?_⟩
 clear hb
 (try simp only [Act.put, sI, sS, sZ])
 (refine wpList_step (fun K hK => ?_); go_simp; (try go_bits); refine hK _ _ ?_; clear hK K)
 refine wpList_nil ?_
 repeat ((fail_if_success (with_reducible (show wpList _ _ _ _ _ _))); go_step)
 go_loopw [7, 2] (fun i c wr => ∃ k cc : Nat, k ≤ 17 ∧ cc < 2 ∧ i = .int .i64 (k : Int) ∧ c = .int .u32 (cc : Int) ∧ RowKit.Hid (n / 65536 ^ k = d / 65536 ^ k + L0 / 65536 ^ k + cc) ∧ Has wr R (row .u32 17 (qcP d n k)) 237 ∧ But R w wr) (fun i _ _ => (17 - RowKit.intOf i).toNat)
 case atStart => exact ⟨0, 0, by omega, by omega, rfl, rfl, H0, MR.out, HB.out⟩
 case round =>
  clear MR HB H0
  obtain ⟨k, cc, hk, hcc, rfl, rfl, H0, mR, hB⟩ := hrel
  have MR := Lib.hid mR; clear mR
  have HB := Lib.hid hB; clear hB
  rcases Nat.lt_or_ge k 17 with hlt | hge
  · have kq : (k : Int) < 17 := by omega
    obtain ⟨x, hx⟩ : ∃ x, n / 65536 ^ k % 65536 = x := ⟨_, rfl⟩
    obtain ⟨y, hy⟩ : ∃ y, L0 / 65536 ^ k % 65536 = y := ⟨_, rfl⟩
    have lx : x < 65536 := by omega
    have ly : y < 65536 := by omega
    have hc1 : wr.cell? ⟨R, k, none⟩ = some (.int .u32 (x : Int)) := by rw [MR.out.cell k hlt, qcc, Qf, hx]
    have hfz := MR.out.frozen k
    have hix : ∀ w, (Instr.index 236 (.agg (r17 L0)) (.int .i64 (k : Int))).run Tryz.prog w = .ok (.int .u32 (y : Int)) w := fun w => by
     rw [show r17 L0 = row .u32 17 (dg 65536 L0) from rfl, QU w 236 127 17 .u32 Tryz.underlying236 Tryz.underlying127 sz_91 _ k hlt, Qf, hy]
    obtain ⟨v, hv⟩ : ∃ v, v = (x + 4294967296 - y - cc) % 4294967296 := ⟨_, rfl⟩
    have hsub := sub_wrap x y cc v lx ly hcc hv
    have lv : v < 4294967296 := by omega
    obtain ⟨r, hr⟩ : ∃ r, r = v % 65536 := ⟨_, rfl⟩
    obtain ⟨c2, hc2⟩ : ∃ c, c = v / 2147483648 := ⟨_, rfl⟩
    have hand : bits .and .u32 (v : Int) 65535 = (r : Int) := by rw [and_16 v lv, hr]
    have hshr : (v : Int) / 2147483648 = (c2 : Int) := by omega
    obtain ⟨s1, s2, s3⟩ := sub_rest d n L0 k cc x y H0.out hcc hx hy
    rw [← hv, ← hr] at s1
    rw [← hv, ← hc2] at s2
    rw [← hv, ← hc2] at s3
    have hup : (r : Int) = dg 65536 d k := by rw [Qf, s1]
    clear hr hc2
    have S1 := Lib.hid s1; clear s1
    have S2 := Lib.hid s2; clear s2
    have S3 := Lib.hid s3; clear s3
    have Hv := Lib.hid hv; clear hv
    have Hx := Lib.hid hx; clear hx
    have Hy := Lib.hid hy; clear hy
    have Hup := Lib.hid hup; clear hup
    repeat ((fail_if_success (with_reducible (show wpList _ _ _ _ _ _))); go_step)
    (refine wpList_step (fun K hK => ?_); go_simp; (try go_bits); refine hK _ _ ?_; clear hK K)
    refine wpList_nil ?_
    repeat ((fail_if_success (with_reducible (show wpList _ _ _ _ _ _))); go_step)
    iterate 4 (refine wpList_step (fun K hK => ?_); go_simp; (try go_bits); refine hK _ _ ?_; clear hK K)
    refine wpList_nil ?_
    clear hix
    repeat ((fail_if_success (with_reducible (show wpList _ _ _ _ _ _))); go_step)
    iterate 10 (refine wpList_step (fun K hK => ?_); go_simp; (try go_bits); refine hK _ _ ?_; clear hK K)
    refine wpList_nil ?_
    clear hsub hc1
    repeat ((fail_if_success (with_reducible (show wpList _ _ _ _ _ _))); go_step)
    have hc1 : wr.cell? ⟨R, k, none⟩ = some (.int .u32 (x : Int)) := by rw [MR.out.cell k hlt, qcc, Qf, Hx.out]
    iterate 9 (refine wpList_step (fun K hK => ?_); go_simp; (try go_bits); refine hK _ _ ?_; clear hK K)
    clear hc1 hfz hand
    have kq := MR.out.set (k) ((r : Int)); rw [mixd_upd d n k _ Hup.out] at kq; clear MR; have MR := Lib.hid kq; clear kq
    replace HB := Lib.hid (But.set HB.out ⟨R, k, none⟩ (.int .u32 ((r : Int))) rfl)
    obtain ⟨yw101, hwyw101⟩ : ∃ ww, ww = wr.setCell ⟨R, k, none⟩ (.int .u32 ((r : Int))) := ⟨_, rfl⟩
    rw [← hwyw101] at MR HB ⊢
    clear hwyw101
    (refine wpList_step (fun K hK => ?_); go_simp; (try go_bits); refine hK _ _ ?_; clear hK K)
    refine wpList_nil ?_
    clear hshr
    repeat ((fail_if_success (with_reducible (show wpList _ _ _ _ _ _))); go_step)
    iterate 2 (refine wpList_step (fun K hK => ?_); go_simp; (try go_bits); refine hK _ _ ?_; clear hK K)
    refine wpList_nil ?_
    go_roundw
    case measure => simp [RowKit.intOf]; omega
    case rel => (repeat apply Exists.intro); exact ⟨⟨k + 1, c2, by omega, S3.out, by go_num, rfl, S2, MR.out, HB.out⟩, rfl⟩
  · have hk17 : k = 17 := by omega
    subst hk17
    clear hk hge
    have mR := MR.out
    rw [mixd_17] at mR
    repeat ((fail_if_success (with_reducible (show wpList _ _ _ _ _ _))); go_step)
    (refine wpList_step (fun K hK => ?_); go_simp; (try go_bits); refine hK _ _ ?_; clear hK K)
    refine wpList_nil ?_
    go_wp2_with fail
    go_end0
    exact ⟨rfl, mR, HB.out⟩
theorem bit_any (R n b : Nat) (hn : n < L0) (hb : b < 2) (w : World) (hR : Has w R (r17 n) 237) :
 Calls Tryz.prog 273 #[.pointer (some ⟨R, 0, none⟩), .int .u32 (b : Int)] w fun e w' => e = .returned (.tuple #[]) ∧ Has w' R (r17 ((2 * n + b) % L0)) 237 ∧ But R w w' := by
 obtain ⟨m, hm⟩ : ∃ m, m = 2 * n + b := ⟨_, rfl⟩
 have hl := L0_17
 have hlv : L0 = 7237005577332262213973186563042994240857116359379907606001950938285454250989 := rfl
 have hp17 : (65536 : Nat) ^ 17 = 7588550360256754183279148073529370729071901715047420004889892225542594864082845696 := by decide +kernel
 have hm17 : m < 65536 ^ 17 := by rw [hp17]; rw [hlv] at hn; omega
 have hm2 : m < L0 + L0 := by omega
 rw [← hm]
 have H0 := Lib.hid (show m / 65536 ^ 0 = 2 * (n / 65536 ^ 0) + b by rw [Nat.pow_zero, Nat.div_one, Nat.div_one]; exact hm)
 rw [← mixd_0 m n] at hR
 have MR := Lib.hid hR
 have HB := Lib.hid (But.refl R w)
 clear hR hl hlv hp17 hm hn
 have Hm17 := Lib.hid hm17; clear hm17
 have Hm2 := Lib.hid hm2; clear hm2
 go_enter Tryz.func273, Tryz.ntmps273
 repeat ((fail_if_success (with_reducible (show wpList _ _ _ _ _ _))); go_step)
 (refine wpList_step (fun K hK => ?_); go_simp; (try go_bits); refine hK _ _ ?_; clear hK K)
 refine wpList_nil ?_
 repeat ((fail_if_success (with_reducible (show wpList _ _ _ _ _ _))); go_step)
 go_loopw [6, 1] (fun i c wr => ∃ k cc : Nat, k ≤ 17 ∧ cc < 2 ∧ i = .int .i64 (k : Int) ∧ c = .int .u32 (cc : Int) ∧ RowKit.Hid (m / 65536 ^ k = 2 * (n / 65536 ^ k) + cc) ∧ Has wr R (row .u32 17 (qcP m n k)) 237 ∧ But R w wr) (fun i _ _ => (17 - RowKit.intOf i).toNat)
 case atStart => exact ⟨0, b, by omega, hb, rfl, rfl, H0, MR.out, HB.out⟩
 case round =>
  clear MR HB H0
  obtain ⟨k, cc, hk, hcc, rfl, rfl, H0, mR, hB⟩ := hrel
  have MR := Lib.hid mR; clear mR
  have HB := Lib.hid hB; clear hB
  rcases Nat.lt_or_ge k 17 with hlt | hge
  · have kq : (k : Int) < 17 := by omega
    obtain ⟨x, hx⟩ : ∃ x, n / 65536 ^ k % 65536 = x := ⟨_, rfl⟩
    have lx : x < 65536 := by omega
    have hc1 : wr.cell? ⟨R, k, none⟩ = some (.int .u32 (x : Int)) := by rw [MR.out.cell k hlt, qcc, Qf, hx]
    have hfz := MR.out.frozen k
    obtain ⟨v, hv⟩ : ∃ v, v = 2 * x + cc := ⟨_, rfl⟩
    have hor : bits .or .u32 ((x : Int) * 2) (cc : Int) = (v : Int) := by rw [or_bit x cc lx hcc, hv]
    have lv : v < 4294967296 := by omega
    obtain ⟨r, hr⟩ : ∃ r, r = v % 65536 := ⟨_, rfl⟩
    obtain ⟨c2, hc2⟩ : ∃ c, c = v / 65536 := ⟨_, rfl⟩
    have hand : bits .and .u32 (v : Int) 65535 = (r : Int) := by rw [and_16 v lv, hr]
    have hshr : (v : Int) / 65536 = (c2 : Int) := by omega
    obtain ⟨s1, s2, s3⟩ := dbl_step m n k cc v x H0.out hcc hx hv
    rw [← hr] at s1
    rw [← hc2] at s2
    rw [← hc2] at s3
    have hup : (r : Int) = dg 65536 m k := by rw [Qf, s1]
    clear hr hc2
    have S1 := Lib.hid s1; clear s1
    have S2 := Lib.hid s2; clear s2
    have S3 := Lib.hid s3; clear s3
    have Hv := Lib.hid hv; clear hv
    have Hx := Lib.hid hx; clear hx
    have Hup := Lib.hid hup; clear hup
    repeat ((fail_if_success (with_reducible (show wpList _ _ _ _ _ _))); go_step)
    (refine wpList_step (fun K hK => ?_); go_simp; (try go_bits); refine hK _ _ ?_; clear hK K)
    refine wpList_nil ?_
    repeat ((fail_if_success (with_reducible (show wpList _ _ _ _ _ _))); go_step)
    iterate 2 (refine wpList_step (fun K hK => ?_); go_simp; (try go_bits); refine hK _ _ ?_; clear hK K)
    refine wpList_nil ?_
    repeat ((fail_if_success (with_reducible (show wpList _ _ _ _ _ _))); go_step)
    iterate 9 (refine wpList_step (fun K hK => ?_); go_simp; (try go_bits); refine hK _ _ ?_; clear hK K)
    refine wpList_nil ?_
    clear hor hc1
    repeat ((fail_if_success (with_reducible (show wpList _ _ _ _ _ _))); go_step)
    have hc1 : wr.cell? ⟨R, k, none⟩ = some (.int .u32 (x : Int)) := by rw [MR.out.cell k hlt, qcc, Qf, Hx.out]
    iterate 9 (refine wpList_step (fun K hK => ?_); go_simp; (try go_bits); refine hK _ _ ?_; clear hK K)
    clear hc1 hfz hand
    have kq := MR.out.set (k) ((r : Int)); rw [mixd_upd m n k _ Hup.out] at kq; clear MR; have MR := Lib.hid kq; clear kq
    replace HB := Lib.hid (But.set HB.out ⟨R, k, none⟩ (.int .u32 ((r : Int))) rfl)
    obtain ⟨yw101, hwyw101⟩ : ∃ ww, ww = wr.setCell ⟨R, k, none⟩ (.int .u32 ((r : Int))) := ⟨_, rfl⟩
    rw [← hwyw101] at MR HB ⊢
    clear hwyw101
    (refine wpList_step (fun K hK => ?_); go_simp; (try go_bits); refine hK _ _ ?_; clear hK K)
    refine wpList_nil ?_
    clear hshr
    repeat ((fail_if_success (with_reducible (show wpList _ _ _ _ _ _))); go_step)
    iterate 2 (refine wpList_step (fun K hK => ?_); go_simp; (try go_bits); refine hK _ _ ?_; clear hK K)
    refine wpList_nil ?_
    go_roundw
    case measure => simp [RowKit.intOf]; omega
    case rel => (repeat apply Exists.intro); exact ⟨⟨k + 1, c2, by omega, S3.out, by go_num, rfl, S2, MR.out, HB.out⟩, rfl⟩
  · have hk17 : k = 17 := by omega
    subst hk17
    clear hk hge
    have mR := MR.out
    rw [mixd_17] at mR
    replace MR := Lib.hid mR
    clear mR
    have hal := fun w h => qbY R m Hm17.out w h
    repeat ((fail_if_success (with_reducible (show wpList _ _ _ _ _ _))); go_step)
    (refine wpList_step (fun K hK => ?_); go_simp; (try go_bits); refine hK _ _ ?_; clear hK K)
    refine wpList_nil ?_
    repeat ((fail_if_success (with_reducible (show wpList _ _ _ _ _ _))); go_step)
    by_cases hle : L0 ≤ m
    · rw [decide_eq_true hle] at hal
      obtain ⟨d, hd⟩ : ∃ d, m = d + L0 := ⟨m - L0, by omega⟩
      have hfin : m % L0 = d := by
       have := Hm2.out
       rw [hd, Nat.add_mod_right, Nat.mod_eq_of_lt (by omega)]
      have htk := fun w h => take_any R m d hd w h
      clear hle hd
      have Hal := Lib.hid hal; clear hal
      have Htk := Lib.hid htk; clear htk
      have Hfin := Lib.hid hfin; clear hfin
      (refine wpList_step (fun K hK => ?_); go_simp; (try go_bits); refine hK _ _ ?_; clear hK K)
      refine qm (by rfl) rfl rfl (by rfl) ent163 (by rfl) (Hal.out _ MR.out) 27 rfl ?_
      rintro e uw101 ⟨rfl, hb⟩
      replace MR := Lib.hid (MR.out.call hb)
      replace HB := Lib.hid (HB.out.call hb)
      refine ⟨_, rfl, ?_⟩
      clear hb
      (try simp only [Act.put, sI, sS, sZ])
      refine wpList_nil ?_
      repeat ((fail_if_success (with_reducible (show wpList _ _ _ _ _ _))); go_step)
      (refine wpList_step (fun K hK => ?_); go_simp; (try go_bits); refine hK _ _ ?_; clear hK K)
      refine qm (by rfl) rfl rfl (by rfl) ent291 (by rfl) (Htk.out _ MR.out) 29 rfl ?_
      rintro e uw102 ⟨rfl, hmU, hb⟩
      replace MR := Lib.hid hmU; clear hmU
      replace HB := Lib.hid (But.trans HB.out hb)
      clear hb
      refine ⟨_, rfl, ?_⟩
      (try simp only [Act.put, sI, sS, sZ])
      refine wpList_nil ?_
      go_wp2_with fail
      go_end0
      exact ⟨rfl, by rw [Hfin.out]; exact MR.out, HB.out⟩
    · rw [decide_eq_false hle] at hal
      have hfin : m % L0 = m := Nat.mod_eq_of_lt (by omega)
      clear hle
      have Hal := Lib.hid hal; clear hal
      have Hfin := Lib.hid hfin; clear hfin
      (refine wpList_step (fun K hK => ?_); go_simp; (try go_bits); refine hK _ _ ?_; clear hK K)
      refine qm (by rfl) rfl rfl (by rfl) ent163 (by rfl) (Hal.out _ MR.out) 27 rfl ?_
      rintro e uw101 ⟨rfl, hb⟩
      replace MR := Lib.hid (MR.out.call hb)
      replace HB := Lib.hid (HB.out.call hb)
      refine ⟨_, rfl, ?_⟩
      clear hb
      (try simp only [Act.put, sI, sS, sZ])
      refine wpList_nil ?_
      go_wp2_with fail
      go_end0
      exact ⟨rfl, by rw [Hfin.out]; exact MR.out, HB.out⟩
end
end Go.Proofs.YtbgefoamhdgnaaaGreatDoor
namespace Go
section
open Go.RowKit
variable {P : Program} {ops : Array Oper} {Q : Exit → Act → World → Prop} {S : World → Prop} {a : Act} {w : World}
theorem run_loadAt_c (w : World) (b j : Nat) (ty : TypeId) (v : Value) (d : TypeDesc) (hc : w.cell? ⟨b, j, none⟩ = some v) (hu : P.underlying ty = some d) (hd : d.isRow = false) : (Instr.loadAt ty (.pointer (some ⟨b, j, none⟩))).run P w = .ok v w := by
 have hag : (isAgg ty).run P w = .ok false w := by
  cases d <;> first | (simp [isAgg, run_underlying hu]; done) | (simp [TypeDesc.isRow] at hd)
 simp [Instr.loadAt, Instr.sureAddr, loadVar, hag, hc]
theorem ZW {o : Oper} (hw : Region.wanted o (yielded ops a.tmps) = true) (ty : TypeId) (x : Operand) (ho : o.op = .load ty x) (b j : Nat) (hx : a.eval x = .pointer (some ⟨b, j, none⟩)) (v : Value) (d : TypeDesc)
 (hS : ∀ w, S w → w.cell? ⟨b, j, none⟩ = some v) (hu : P.underlying ty = some d) (hd : d.isRow = false) : YieldsIf P ops S o v a := by
 refine Or.inl ⟨hw, fun w hSw => ?_⟩
 unfold execOp
 simp only [ho, hx, Sem.run_bind, run_loadAt_c w b j ty v d (hS w hSw) hu hd, Result.andThen_ok]
 rfl
theorem qdf (w : World) (b j : Nat) (ty : TypeId) (v : Value) (hc : (w.cell? ⟨b, j, none⟩).isSome = true) (hf : w.frozen? ⟨b, j, none⟩ = false) (hs : (P.info? ty).map (·.size) = some 1) (hv : v.oneCell' = true) (hcv : v.cells = #[v]) :
 (storeVar ty ⟨b, j, none⟩ v).run P w = .ok () (w.setCell ⟨b, j, none⟩ v) := by
 have h2 := run_storeCells_cells (P := P) b j [v] 0 w (fun k hk => by
  obtain rfl : k = 0 := by simpa using hk
  exact hc) (fun k hk => by
  obtain rfl : k = 0 := by simpa using hk
  exact hf) (by simpa using hv)
 cases hi : P.info? ty with
 | none => rw [hi] at hs; cases hs
 | some i =>
  rw [hi] at hs
  have hs : i.size = 1 := Option.some.inj hs
  simp only [Nat.add_zero] at h2
  have h3 : (storeCells ⟨b, j, none⟩ [v]).run P w = .ok () (w.setCell ⟨b, j, none⟩ v) := h2
  simp [storeVar, sizeOf, typeInfo, hi, hcv, hs, h3]
theorem qdH {md : Region.Mode} {f n : Nat} {listed : Array Bool} (i : Nat) (l' : Array Bool) {oi : Oper} (hi : ops[i]? = some oi) (hd : oi.dst = none) (hl : listed.setIfInBounds i true = l') (hw : Region.wanted oi (yielded ops a.tmps) = true) (ty : TypeId) (x y : Operand) (ho : oi.op = .store ty x y)
 (b j : Nat) (v : Value) (hx : a.eval x = .pointer (some ⟨b, j, none⟩)) (hy : a.eval y = v) (hc : (w.cell? ⟨b, j, none⟩).isSome = true) (hf : w.frozen? ⟨b, j, none⟩ = false) (hs : (P.info? ty).map (·.size) = some 1) (hv : v.oneCell' = true) (hcv : v.cells = #[v])
 (h : (i ≠ f → S (w.setCell ⟨b, j, none⟩ v)) ∧ Qg P md ops Q f S n l' a (w.setCell ⟨b, j, none⟩ v)) : zX P md ops Q f S n listed a w i := by
 refine Zx hi hw ?_
 unfold Oper.wp execOp
 simp only [ho, hx, hy, Instr.storeAt, Instr.sureAddr, Sem.run_bind, Sem.run_pure, Result.andThen_ok, qdf w b j ty v hc hf hs hv hcv]
 exact ⟨h.1, by rw [Z9 hd, hl]; exact h.2⟩
end
end Go
namespace Go.Proofs.YtbgefoamhdgnaaaGreatDoor
section
open Go.RowKit Go.Lib
def Byts (w : World) (a : Option Addr) (len n : Nat) : Prop := len = 0 ∨ ∃ b o, a = some ⟨b, o, none⟩ ∧ b < w.heap.size ∧ ∀ i, i < len → w.cell? ⟨b, o + i, none⟩ = some (.int .u8 (dg 256 n i))
theorem Byts.call {w w' : World} {a : Option Addr} {len n : Nat} (h : Byts w a len n) (hb : Below w.heap.size w w') : Byts w' a len n := by
 rcases h with h | ⟨b, o, h1, h2, h3⟩
 · exact .inl h
 · exact .inr ⟨b, o, h1, Nat.lt_of_lt_of_le h2 hb.size, fun i hi => (hb.cell (p := ⟨b, o + i, none⟩) h2).trans (h3 i hi)⟩
theorem Has.byts {w : World} {b n : Nat} {t : TypeId} (h : Has w b (k32 n) t) : Byts w (some ⟨b, 0, none⟩) 32 n :=
 .inr ⟨b, 0, rfl, h.lt, fun i hi => by rw [Nat.zero_add]; exact h.cell i hi⟩
def zb (n k : Nat) : Nat → Int := fun j => (if 2 * j < k then dg 256 n (2 * j) else 0) + (if 2 * j + 1 < k then 256 * dg 256 n (2 * j + 1) else 0)
theorem figsf_even (n j : Nat) : zb n (2 * j) j = 0 := by unfold zb; rw [if_neg (by omega), if_neg (by omega)]; rfl
theorem figsf_odd (n j : Nat) : zb n (2 * j + 1) j = dg 256 n (2 * j) := by unfold zb; rw [if_pos (by omega), if_neg (by omega)]; omega
theorem qcY (n j : Nat) (x : Int) (hx : x = dg 256 n (2 * j)) : upd (zb n (2 * j)) j x = zb n (2 * j + 1) := by
 funext i
 unfold upd zb
 by_cases e : i = j
 · subst e; rw [if_pos rfl, if_pos (by omega), if_neg (by omega), hx]; omega
 · rw [if_neg e]
   congr 1
   · by_cases h : 2 * i < 2 * j
     · rw [if_pos h, if_pos (by omega)]
     · rw [if_neg h, if_neg (by omega)]
   · by_cases h : 2 * i + 1 < 2 * j
     · rw [if_pos h, if_pos (by omega)]
     · rw [if_neg h, if_neg (by omega)]
theorem qdl (n j : Nat) (x : Int) (hx : x = dg 256 n (2 * j) + 256 * dg 256 n (2 * j + 1)) : upd (zb n (2 * j + 1)) j x = zb n (2 * j + 1 + 1) := by
 funext i
 unfold upd zb
 by_cases e : i = j
 · subst e; rw [if_pos rfl, if_pos (by omega), if_pos (by omega), hx]
 · rw [if_neg e]
   congr 1
   · by_cases h : 2 * i < 2 * j + 1
     · rw [if_pos h, if_pos (by omega)]
     · rw [if_neg h, if_neg (by omega)]
   · by_cases h : 2 * i + 1 < 2 * j + 1
     · rw [if_pos h, if_pos (by omega)]
     · rw [if_neg h, if_neg (by omega)]
theorem dg_two (n j : Nat) : dg 65536 n j = dg 256 n (2 * j) + 256 * dg 256 n (2 * j + 1) := by
 unfold dg
 rw [show (65536 : Nat) ^ j = 256 ^ (2 * j) by rw [Nat.pow_mul], show (256 : Nat) ^ (2 * j + 1) = 256 ^ (2 * j) * 256 from Nat.pow_succ _ _, ← Nat.div_div_eq_div_mul]
 omega
theorem figsf_all (n len : Nat) (hn : n < 256 ^ len) : row .u32 ((len + 1) / 2) (zb n len) = row .u32 ((len + 1) / 2) (dg 65536 n) := by
 refine q7 _ _ _ _ fun j hj => ?_
 rw [dg_two]
 unfold zb
 rw [if_pos (by omega)]
 by_cases h : 2 * j + 1 < len
 · rw [if_pos h]
 · rw [if_neg h]
   have e : len = 2 * j + 1 := by omega
   have : dg 256 n (2 * j + 1) = 0 := by unfold dg; rw [← e, Nat.div_eq_of_lt hn]; rfl
   rw [this]; rfl
theorem figsf_0 (n K : Nat) : row .u32 K (zb n 0) = row .u32 K (fun _ => 0) := q7 _ _ _ _ fun j _ => by unfold zb; rw [if_neg (by omega), if_neg (by omega)]; rfl
theorem mkK (w : World) (K : Nat) (hK : K ≤ 1000) : (Instr.makeSlice 208 (.int .i64 (K : Int)) (.int .i64 (K : Int))).run Tryz.prog w = .ok (.slice (some ⟨w.heap.size, 0, none⟩) K K) (w.alloc (.cells (row .u32 K fun _ => 0) 127)) := by
 obtain ⟨i0, hi, hz0, hz1, hz2⟩ := info_parts info91
 have h := run_makeSlice (P := Tryz.prog) w 208 127 i0 _ Tryz.underlying208 hi hz0 .i64 .i64 (K : Int) (K : Int) (by omega) (by omega) (by rw [hz1]; omega) (by rw [hz2]; omega) (by omega)
 rw [hz1] at h
 simp only [Int.toNat_natCast, Nat.mul_one] at h
 have e : madeCells (Value.int .u32 0).cells K = row .u32 K fun _ => 0 := by
  apply Array.ext_getElem?
  intro j
  by_cases hj : j < K
  · rw [Q5 _ _ _ _ hj]; simp [madeCells, Value.cells, hj, Nat.mod_one]
  · rw [Zm _ _ _ _ hj]; simp [madeCells]; omega
 rw [e] at h
 exact h
theorem or_low (c : Nat) (hc : c < 256) : bits .or .u32 0 (c : Int) = (c : Int) := by
 rw [bits_join .u32 32 (by decide) wu32 8 _ _ (by omega) (by omega) (by omega) (by omega) (by omega) (by omega)]; omega
theorem or_high (x c : Nat) (hx : x < 256) (hc : c < 256) : bits .or .u32 (x : Int) ((c * 256 : Nat) : Int) = ((x + 256 * c : Nat) : Int) := by
 have h1 : bits .or .u32 (x : Int) ((c * 256 : Nat) : Int) = bits .or .u32 ((c * 256 : Nat) : Int) (x : Int) := by
  rw [(bits_nat .u32 32 (by decide) wu32 x (c * 256) (by omega) (by omega)).2, (bits_nat .u32 32 (by decide) wu32 (c * 256) x (by omega) (by omega)).2, Nat.or_comm]
 rw [h1, bits_join .u32 32 (by decide) wu32 8 _ _ (by omega) (by omega) (by omega) (by omega) (by omega) (by omega)]
 omega
theorem qbU (a : Option Addr) (len cap n : Nat) (hlen : len ≤ 1000) (hn : n < 256 ^ len) (w : World) (hb : Byts w a len n) :
 Calls Tryz.prog 162 #[.slice a len cap] w fun e w' => (∃ F, w.heap.size ≤ F ∧ e = .returned (.slice (some ⟨F, 0, none⟩) ((len + 1) / 2) ((len + 1) / 2)) ∧ Has w' F (row .u32 ((len + 1) / 2) (dg 65536 n)) 127) ∧ Below w.heap.size w w' := by
 have hfin := figsf_all n len hn
 obtain ⟨K, hKe⟩ : ∃ K, K = (len + 1) / 2 := ⟨_, rfl⟩
 rw [← hKe] at hfin ⊢
 have hK1 : ((len : Int) + 1) / 2 = (K : Int) := by omega
 have hKl : K ≤ 1000 := by omega
 have hK2 : len ≤ 2 * K := by omega
 clear hn hKe
 have MB := Lib.hid hb
 clear hb
 have Hfin := Lib.hid hfin; clear hfin
 go_enter Tryz.func162, Tryz.ntmps162
 repeat ((fail_if_success (with_reducible (show wpList _ _ _ _ _ _))); go_step)
 (refine wpList_step (fun K hK => ?_); go_simp; (try go_bits); refine hK _ _ ?_; clear hK K)
 refine wpList_nil ?_
 have HB := Lib.hid (Below.refl w.heap.size w)
 repeat ((fail_if_success (with_reducible (show wpList _ _ _ _ _ _))); go_step)
 iterate 4 (refine wpList_step (fun K hK => ?_); go_simp; (try go_bits); refine hK _ _ ?_; clear hK K)
 rw [hK1]
 refine qbN (by rfl) 208 _ _ rfl _ _ rfl rfl _ _ (mkK _ K hKl) 10 rfl ?_
 have hb := q8 w (.cells (row .u32 K fun _ => 0) 127)
 have nwMF := Has.new w (row .u32 K fun _ => 0) 127
 obtain ⟨yw1, hwyw1⟩ : ∃ ww, ww = w.alloc (.cells (row .u32 K fun _ => 0) 127) := ⟨_, rfl⟩
 rw [← hwyw1] at hb nwMF ⊢
 clear hwyw1
 replace HB := Lib.hid (qf HB.out hb)
 clear hb
 have MF := Lib.hid nwMF; clear nwMF
 (try simp only [Act.put, sI, sS, sZ])
 (refine wpList_step (fun K hK => ?_); go_simp; (try go_bits); refine hK _ _ ?_; clear hK K)
 refine wpList_nil ?_
 clear hK1
 rw [← figsf_0 n K] at MF
 repeat ((fail_if_success (with_reducible (show wpList _ _ _ _ _ _))); go_step)
 iterate 3 (refine wpList_step (fun K hK => ?_); go_simp; (try go_bits); refine hK _ _ ?_; clear hK K)
 refine wpList_nil ?_
 repeat ((fail_if_success (with_reducible (show wpList _ _ _ _ _ _))); go_step)
 go_loopw [13] (fun i wr => ∃ k : Nat, k ≤ len ∧ i = .int .i64 (k : Int) ∧ Has wr w.heap.size (row .u32 K (zb n k)) 127 ∧ Below w.heap.size w wr) (fun i _ => (len - (RowKit.intOf i).toNat))
 case atStart => exact ⟨0, Nat.zero_le _, rfl, MF.out, HB.out⟩
 case round =>
  clear MF HB
  obtain ⟨k, hk, rfl, mF, hB⟩ := hrel
  rcases Nat.lt_or_ge k len with hlt | hge
  · rcases MB.out with h0 | ⟨b, o, rfl, hbl, hcb⟩
    · omega
    have kq : (k : Int) < (len : Int) := by omega
    have hc1 := (hB.cell (p := ⟨b, o + k, none⟩) hbl).trans (hcb k hlt)
    clear hcb
    obtain ⟨c, hc⟩ : ∃ c, n / 256 ^ k % 256 = c := ⟨_, rfl⟩
    have lc : c < 256 := by omega
    rw [Qf, hc] at hc1
    have MF := Lib.hid mF; clear mF
    have HB := Lib.hid hB; clear hB
    have Hc := Lib.hid hc; clear hc
    repeat ((fail_if_success (with_reducible (show wpList _ _ _ _ _ _))); go_step)
    (refine wpList_step (fun K hK => ?_); go_simp; (try go_bits); refine hK _ _ ?_; clear hK K)
    refine wpList_nil ?_
    repeat ((fail_if_success (with_reducible (show wpList _ _ _ _ _ _))); go_step)
    iterate 5 (refine wpList_step (fun K hK => ?_); go_simp; (try go_bits); refine hK _ _ ?_; clear hK K)
    refine wpList_nil ?_
    clear hc1
    repeat ((fail_if_success (with_reducible (show wpList _ _ _ _ _ _))); go_step)
    obtain ⟨j, hj⟩ : ∃ j, j = k / 2 := ⟨_, rfl⟩
    have hjK : j < K := by omega
    have hq1 : (k : Int).tdiv 2 = (j : Int) := by rw [Int.tdiv_eq_ediv_of_nonneg (by omega)]; omega
    have hq2 : (k : Int) / 2 = (j : Int) := by omega
    rcases Nat.mod_two_eq_zero_or_one k with he | he
    · have hm1 : (k : Int).tmod 2 = 0 := by rw [Int.tmod_eq_emod_of_nonneg (by omega)]; omega
      have hm2 : (k : Int) % 2 = 0 := by omega
      have hk2 : k = 2 * j := by omega
      have hol := or_low c lc
      have hjb : (j : Int) < (K : Int) := by omega
      have hwj : IntKind.i64.wrap (j : Int) = (j : Int) := by rw [IntKind.wrap_i64]; omega
      have hw0 : IntKind.i64.wrap 0 = 0 := by decide
      have hwc : IntKind.u32.wrap (c : Int) = (c : Int) := by rw [IntKind.wrap_u32]; omega
      have hcs : (wr.cell? ⟨w.heap.size, j, none⟩).isSome = true := by rw [MF.out.cell j hjK]; rfl
      clear hj
      subst hk2
      have hup : (c : Int) = dg 256 n (2 * j) := by rw [Qf, Hc.out]
      have He := Lib.hid he; clear he
      have Hup := Lib.hid hup; clear hup
      refine wp_region_noPanic ?_
      refine Qn (fun w' => Has w' (w.heap.size) (row .u32 K (zb n (2 * j))) 127) 13 14 #[ff,ff,ff,ff,ff,ff,ff,ff,ff,ff,ff,ff,ff,ff] (by kernel_rfl) rfl rfl ?_
      replace MF := Lib.hid (MF.out.drew)
      replace HB := Lib.hid (qT HB.out 1)
      obtain ⟨yw101, hwyw101⟩ : ∃ ww, ww = wr.drew := ⟨_, rfl⟩
      rw [← hwyw101] at MF ⊢
      have kq : Below w.heap.size w yw101 := by rw [hwyw101]; exact HB.out
      clear HB; have HB := Lib.hid kq; clear kq hwyw101
      refine qi 0 18 #[tt,ff,ff,ff,ff,ff,ff,ff,ff,ff,ff,ff,ff,ff] (v := ?uv1) rfl rfl rfl (by kernel_rfl) (Or.inl ⟨by rfl, ?uy1⟩) (MF.out) ?urest1
      case uy1 => (intro _ _; go_simp; try with_reducible rfl)
      (try simp only [sI, sS, sZ])
      refine qi 1 19 #[tt,tt,ff,ff,ff,ff,ff,ff,ff,ff,ff,ff,ff,ff] (v := ?uv2) rfl rfl rfl (by kernel_rfl) (Or.inl ⟨by rfl, ?uy2⟩) (MF.out) ?urest2
      case uy2 => (intro _ _; go_simp; try with_reducible rfl)
      (try simp only [sI, sS, sZ])
      refine qi 2 20 #[tt,tt,tt,ff,ff,ff,ff,ff,ff,ff,ff,ff,ff,ff] (v := ?uv3) rfl rfl rfl (by kernel_rfl) (Or.inl ⟨by rfl, ?uy3⟩) (MF.out) ?urest3
      case uy3 => (intro _ _; go_simp; try with_reducible rfl)
      (try simp only [sI, sS, sZ])
      refine qi 3 21 #[tt,tt,tt,tt,ff,ff,ff,ff,ff,ff,ff,ff,ff,ff] (v := ?uv4) rfl rfl rfl (by kernel_rfl) (Or.inl ⟨by rfl, ?uy4⟩) (MF.out) ?urest4
      case uy4 => (intro _ _; go_simp; try with_reducible rfl)
      (try simp only [sI, sS, sZ])
      refine qi 4 22 #[tt,tt,tt,tt,tt,ff,ff,ff,ff,ff,ff,ff,ff,ff] rfl rfl rfl (by kernel_rfl) (ZW (by rfl) 127 _ rfl (w.heap.size) (j) rfl (.int .u32 0) _ (fun _ h => (by rw [Has.cell h j hjK, figsf_even])) Tryz.underlying127 rfl) (MF.out) ?_
      (try simp only [sI, sS, sZ])
      refine qi 5 23 #[tt,tt,tt,tt,tt,tt,ff,ff,ff,ff,ff,ff,ff,ff] (v := ?uv5) rfl rfl rfl (by kernel_rfl) (Or.inl ⟨by rfl, ?uy5⟩) (MF.out) ?urest5
      case uy5 => (intro _ _; go_simp; try with_reducible rfl)
      (try simp only [sI, sS, sZ])
      refine qi 6 24 #[tt,tt,tt,tt,tt,tt,tt,ff,ff,ff,ff,ff,ff,ff] (v := ?uv6) rfl rfl rfl (by kernel_rfl) (Or.inl ⟨by rfl, ?uy6⟩) (MF.out) ?urest6
      case uy6 => (intro _ _; go_simp; try with_reducible rfl)
      (try simp only [sI, sS, sZ])
      refine qi 7 25 #[tt,tt,tt,tt,tt,tt,tt,tt,ff,ff,ff,ff,ff,ff] (v := ?uv7) rfl rfl rfl (by kernel_rfl) (Or.inl ⟨by rfl, ?uy7⟩) (MF.out) ?urest7
      case uy7 => (intro _ _; go_simp; try with_reducible rfl)
      (try simp only [sI, sS, sZ])
      refine qi 8 26 #[tt,tt,tt,tt,tt,tt,tt,tt,tt,ff,ff,ff,ff,ff] (v := ?uv8) rfl rfl rfl (by kernel_rfl) (Or.inl ⟨by rfl, ?uy8⟩) (MF.out) ?urest8
      case uy8 => (intro _ _; go_simp; try with_reducible rfl)
      (try simp only [sI, sS, sZ])
      refine qi 9 27 #[tt,tt,tt,tt,tt,tt,tt,tt,tt,tt,ff,ff,ff,ff] (v := ?uv9) rfl rfl rfl (by kernel_rfl) (Or.inl ⟨by rfl, ?uy9⟩) (MF.out) ?urest9
      case uy9 => (intro _ _; go_simp; try with_reducible rfl)
      (try simp only [sI, sS, sZ])
      refine qi 10 28 #[tt,tt,tt,tt,tt,tt,tt,tt,tt,tt,tt,ff,ff,ff] (v := ?uv10) rfl rfl rfl (by kernel_rfl) (Or.inl ⟨by rfl, ?uy10⟩) (MF.out) ?urest10
      case uy10 => (intro _ _; go_simp; try with_reducible rfl)
      (try simp only [sI, sS, sZ])
      refine qi 11 29 #[tt,tt,tt,tt,tt,tt,tt,tt,tt,tt,tt,tt,ff,ff] (v := ?uv11) rfl rfl rfl (by kernel_rfl) (Or.inl ⟨by rfl, ?uy11⟩) (MF.out) ?urest11
      case uy11 => (intro _ _; go_simp; try with_reducible rfl)
      (try simp only [sI, sS, sZ])
      refine qi 12 30 #[tt,tt,tt,tt,tt,tt,tt,tt,tt,tt,tt,tt,tt,ff] (v := ?uv12) rfl rfl rfl (by kernel_rfl) (Or.inl ⟨by rfl, ?uy12⟩) (MF.out) ?urest12
      case uy12 => (intro _ _; go_simp; try with_reducible rfl)
      (try simp only [sI, sS, sZ])
      refine qq (i := 13) (by kernel_rfl) ?_
      refine qdH 13 #[tt,tt,tt,tt,tt,tt,tt,tt,tt,tt,tt,tt,tt,tt] rfl rfl rfl (by rfl) 127 _ _ rfl (w.heap.size) (j) (.int .u32 ((c : Int))) rfl rfl (by rw [MF.out.cell j hjK]; rfl) (MF.out.frozen _) (by kernel_rfl) rfl rfl ⟨fun h => (h rfl).elim, ?_⟩
      have kq := MF.out.set (j) ((c : Int)); rw [qcY n j _ Hup.out] at kq; clear MF; have MF := Lib.hid kq; clear kq
      replace HB := Lib.hid (HB.out.setCell (p := ⟨w.heap.size, j, none⟩) (show w.heap.size ≤ w.heap.size by omega) (.int .u32 ((c : Int))))
      obtain ⟨yw102, hwyw102⟩ : ∃ ww, ww = yw101.setCell ⟨w.heap.size, j, none⟩ (.int .u32 ((c : Int))) := ⟨_, rfl⟩
      rw [← hwyw102] at MF HB ⊢
      clear hwyw102
      (try simp only [sI, sS, sZ])
      refine qD (by kernel_rfl) (NoPanic.normal ?_)
      repeat ((fail_if_success (with_reducible (show wpList _ _ _ _ _ _))); go_step)
      iterate 2 (refine wpList_step (fun K hK => ?_); go_simp; (try go_bits); refine hK _ _ ?_; clear hK K)
      refine wpList_nil ?_
      go_roundw
      case measure => simp [RowKit.intOf]; omega
      case rel => (repeat apply Exists.intro); exact ⟨⟨2 * j + 1, by omega, by go_num, MF.out, HB.out⟩, rfl⟩
    · have hm1 : (k : Int).tmod 2 = 1 := by rw [Int.tmod_eq_emod_of_nonneg (by omega)]; omega
      have hm2 : (k : Int) % 2 = 1 := by omega
      have hk2 : k = 2 * j + 1 := by omega
      obtain ⟨x, hx⟩ : ∃ x, n / 256 ^ (2 * j) % 256 = x := ⟨_, rfl⟩
      have lx : x < 256 := by omega
      obtain ⟨v, hv⟩ : ∃ v, v = x + 256 * c := ⟨_, rfl⟩
      have hol := or_high x c lx lc
      obtain ⟨c8, hc8⟩ : ∃ c8, c8 = c * 256 := ⟨_, rfl⟩
      rw [← hv, ← hc8] at hol
      have hsh : IntKind.u32.wrap ((c : Int) * 256) = (c8 : Int) := by rw [IntKind.wrap_u32]; omega
      clear hc8
      have hjb : (j : Int) < (K : Int) := by omega
      have hwj : IntKind.i64.wrap (j : Int) = (j : Int) := by rw [IntKind.wrap_i64]; omega
      have hw0 : IntKind.i64.wrap 8 = 8 := by decide
      have hwc : IntKind.u32.wrap (c : Int) = (c : Int) := by rw [IntKind.wrap_u32]; omega
      have hfx : zb n k j = (x : Int) := by rw [hk2, figsf_odd, Qf, hx]
      have hfu : upd (zb n k) j (v : Int) = zb n (k + 1) := by
       have hc := Hc.out
       rw [hk2] at hc ⊢
       refine qdl n j _ ?_
       rw [Qf, Qf, hc, hx, hv]; omega
      clear hj hk2
      have He := Lib.hid he; clear he
      have Hfx := Lib.hid hfx; clear hfx
      have Hfu := Lib.hid hfu; clear hfu
      have Hx := Lib.hid hx; clear hx
      have Hv := Lib.hid hv; clear hv
      refine wp_region_noPanic ?_
      refine Qn (fun w' => Has w' (w.heap.size) (row .u32 K (zb n k)) 127) 13 14 #[ff,ff,ff,ff,ff,ff,ff,ff,ff,ff,ff,ff,ff,ff] (by kernel_rfl) rfl rfl ?_
      replace MF := Lib.hid (MF.out.drew)
      replace HB := Lib.hid (qT HB.out 1)
      obtain ⟨yw101, hwyw101⟩ : ∃ ww, ww = wr.drew := ⟨_, rfl⟩
      rw [← hwyw101] at MF ⊢
      have kq : Below w.heap.size w yw101 := by rw [hwyw101]; exact HB.out
      clear HB; have HB := Lib.hid kq; clear kq hwyw101
      refine qi 0 18 #[tt,ff,ff,ff,ff,ff,ff,ff,ff,ff,ff,ff,ff,ff] (v := ?uv13) rfl rfl rfl (by kernel_rfl) (Or.inl ⟨by rfl, ?uy13⟩) (MF.out) ?urest13
      case uy13 => (intro _ _; go_simp; try with_reducible rfl)
      (try simp only [sI, sS, sZ])
      refine qi 1 19 #[tt,tt,ff,ff,ff,ff,ff,ff,ff,ff,ff,ff,ff,ff] (v := ?uv14) rfl rfl rfl (by kernel_rfl) (Or.inl ⟨by rfl, ?uy14⟩) (MF.out) ?urest14
      case uy14 => (intro _ _; go_simp; try with_reducible rfl)
      (try simp only [sI, sS, sZ])
      refine qi 2 20 #[tt,tt,tt,ff,ff,ff,ff,ff,ff,ff,ff,ff,ff,ff] (v := ?uv15) rfl rfl rfl (by kernel_rfl) (Or.inl ⟨by rfl, ?uy15⟩) (MF.out) ?urest15
      case uy15 => (intro _ _; go_simp; try with_reducible rfl)
      (try simp only [sI, sS, sZ])
      refine qi 3 21 #[tt,tt,tt,tt,ff,ff,ff,ff,ff,ff,ff,ff,ff,ff] (v := ?uv16) rfl rfl rfl (by kernel_rfl) (Or.inl ⟨by rfl, ?uy16⟩) (MF.out) ?urest16
      case uy16 => (intro _ _; go_simp; try with_reducible rfl)
      (try simp only [sI, sS, sZ])
      refine qi 4 22 #[tt,tt,tt,tt,tt,ff,ff,ff,ff,ff,ff,ff,ff,ff] rfl rfl rfl (by kernel_rfl) (ZW (by rfl) 127 _ rfl (w.heap.size) (j) rfl (.int .u32 (x : Int)) _ (fun _ h => (by rw [Has.cell h j hjK, Hfx.out])) Tryz.underlying127 rfl) (MF.out) ?_
      (try simp only [sI, sS, sZ])
      refine qi 5 23 #[tt,tt,tt,tt,tt,tt,ff,ff,ff,ff,ff,ff,ff,ff] (v := ?uv17) rfl rfl rfl (by kernel_rfl) (Or.inl ⟨by rfl, ?uy17⟩) (MF.out) ?urest17
      case uy17 => (intro _ _; go_simp; try with_reducible rfl)
      (try simp only [sI, sS, sZ])
      refine qi 6 24 #[tt,tt,tt,tt,tt,tt,tt,ff,ff,ff,ff,ff,ff,ff] (v := ?uv18) rfl rfl rfl (by kernel_rfl) (Or.inl ⟨by rfl, ?uy18⟩) (MF.out) ?urest18
      case uy18 => (intro _ _; go_simp; try with_reducible rfl)
      (try simp only [sI, sS, sZ])
      refine qi 7 25 #[tt,tt,tt,tt,tt,tt,tt,tt,ff,ff,ff,ff,ff,ff] (v := ?uv19) rfl rfl rfl (by kernel_rfl) (Or.inl ⟨by rfl, ?uy19⟩) (MF.out) ?urest19
      case uy19 => (intro _ _; go_simp; try with_reducible rfl)
      (try simp only [sI, sS, sZ])
      refine qi 8 26 #[tt,tt,tt,tt,tt,tt,tt,tt,tt,ff,ff,ff,ff,ff] (v := ?uv20) rfl rfl rfl (by kernel_rfl) (Or.inl ⟨by rfl, ?uy20⟩) (MF.out) ?urest20
      case uy20 => (intro _ _; go_simp; try with_reducible rfl)
      (try simp only [sI, sS, sZ])
      refine qi 9 27 #[tt,tt,tt,tt,tt,tt,tt,tt,tt,tt,ff,ff,ff,ff] (v := ?uv21) rfl rfl rfl (by kernel_rfl) (Or.inl ⟨by rfl, ?uy21⟩) (MF.out) ?urest21
      case uy21 => (intro _ _; go_simp; try with_reducible rfl)
      (try simp only [sI, sS, sZ])
      refine qi 10 28 #[tt,tt,tt,tt,tt,tt,tt,tt,tt,tt,tt,ff,ff,ff] (v := ?uv22) rfl rfl rfl (by kernel_rfl) (Or.inl ⟨by rfl, ?uy22⟩) (MF.out) ?urest22
      case uy22 => (intro _ _; go_simp; try with_reducible rfl)
      (try simp only [sI, sS, sZ])
      refine qi 11 29 #[tt,tt,tt,tt,tt,tt,tt,tt,tt,tt,tt,tt,ff,ff] (v := ?uv23) rfl rfl rfl (by kernel_rfl) (Or.inl ⟨by rfl, ?uy23⟩) (MF.out) ?urest23
      case uy23 => (intro _ _; go_simp; try with_reducible rfl)
      (try simp only [sI, sS, sZ])
      refine qi 12 30 #[tt,tt,tt,tt,tt,tt,tt,tt,tt,tt,tt,tt,tt,ff] (v := ?uv24) rfl rfl rfl (by kernel_rfl) (Or.inl ⟨by rfl, ?uy24⟩) (MF.out) ?urest24
      case uy24 => (intro _ _; go_simp; try with_reducible rfl)
      (try simp only [sI, sS, sZ])
      refine qq (i := 13) (by kernel_rfl) ?_
      refine qdH 13 #[tt,tt,tt,tt,tt,tt,tt,tt,tt,tt,tt,tt,tt,tt] rfl rfl rfl (by rfl) 127 _ _ rfl (w.heap.size) (j) (.int .u32 ((v : Int))) rfl rfl (by rw [MF.out.cell j hjK]; rfl) (MF.out.frozen _) (by kernel_rfl) rfl rfl ⟨fun h => (h rfl).elim, ?_⟩
      have kq := MF.out.set (j) ((v : Int)); rw [Hfu.out] at kq; clear MF; have MF := Lib.hid kq; clear kq
      replace HB := Lib.hid (HB.out.setCell (p := ⟨w.heap.size, j, none⟩) (show w.heap.size ≤ w.heap.size by omega) (.int .u32 ((v : Int))))
      obtain ⟨yw102, hwyw102⟩ : ∃ ww, ww = yw101.setCell ⟨w.heap.size, j, none⟩ (.int .u32 ((v : Int))) := ⟨_, rfl⟩
      rw [← hwyw102] at MF HB ⊢
      clear hwyw102
      (try simp only [sI, sS, sZ])
      refine qD (by kernel_rfl) (NoPanic.normal ?_)
      repeat ((fail_if_success (with_reducible (show wpList _ _ _ _ _ _))); go_step)
      iterate 2 (refine wpList_step (fun K hK => ?_); go_simp; (try go_bits); refine hK _ _ ?_; clear hK K)
      refine wpList_nil ?_
      go_roundw
      case measure => simp [RowKit.intOf]; omega
      case rel => (repeat apply Exists.intro); exact ⟨⟨k + 1, by omega, by go_num, MF.out, HB.out⟩, rfl⟩
  · have hkl : k = len := by omega
    subst hkl
    clear hk hge
    have mF2 := mF
    rw [Hfin.out] at mF2
    have MF := Lib.hid mF; clear mF
    have HB := Lib.hid hB; clear hB
    repeat ((fail_if_success (with_reducible (show wpList _ _ _ _ _ _))); go_step)
    (refine wpList_step (fun K hK => ?_); go_simp; (try go_bits); refine hK _ _ ?_; clear hK K)
    refine wpList_nil ?_
    repeat ((fail_if_success (with_reducible (show wpList _ _ _ _ _ _))); go_step)
    iterate 2 (refine wpList_step (fun K hK => ?_); go_simp; (try go_bits); refine hK _ _ ?_; clear hK K)
    refine wpList_nil ?_
    go_wp2_with fail
    go_ret
    exact ⟨⟨_, Nat.le_refl _, rfl, mF2⟩, HB.out⟩
end
end Go.Proofs.YtbgefoamhdgnaaaGreatDoor
