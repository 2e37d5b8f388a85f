/- Chapter 04: which residue any product and sum has. For all three keys the law returns true. -/
import Derived.Test.YtjiagjonlcadiaaRb3
section
namespace Go.Proofs.Ytjiagjonlcadiaa
open Go.RowKit Go.Lib

theorem info34 : (Try.prog.info? 34).map (fun i => (i.zero, i.size, i.bytes)) = some (some (.int .u64 0), 1, 8) := by kernel_rfl
theorem mkW (w : World) : (Instr.makeSlice 94 (.int .i64 34) (.int .i64 34)).run Try.prog w = .ok (.slice (some ⟨w.heap.size, 0, none⟩) 34 34) (w.alloc (.cells (row .u64 34 fun _ => 0) 34)) := by
  obtain ⟨i0, hi, hz0, hz1, hz2⟩ := info_parts info34
  have h := run_makeSlice (P := Try.prog) w 94 34 i0 _ Try.underlying94 hi hz0 .i64 .i64 34 34 (by decide) (by decide) (by rw [hz1]; decide) (by rw [hz2]; decide) (by decide)
  rw [hz1] at h
  have e : madeCells (Value.int .u64 0).cells 34 = row .u64 34 fun _ => 0 := by
    apply Array.ext_getElem?
    intro j
    by_cases hj : j < 34
    · rw [row_get _ _ _ _ hj]; simp [madeCells, Value.cells, hj, Nat.mod_one]
    · rw [row_none _ _ _ _ hj]; simp [madeCells]; omega
  have h2 : madeCells (Value.int .u64 0).cells ((34 : Int).toNat * 1) = row .u64 34 fun _ => 0 := e
  rw [h2] at h
  exact h
theorem sumf_16 (n : Nat) (hn : n < 65536 ^ 16) : sumf 65536 (dg 65536 n) 16 = n := by
  have := sumf_dg 65536 n 16
  rw [Nat.mod_eq_of_lt hn] at this
  exact this
theorem mul16 (x y : Int) (hx0 : 0 ≤ x) (hx : x < 65536) (hy0 : 0 ≤ y) (hy : y < 65536) : 0 ≤ x * y ∧ x * y ≤ 4294836225 :=
  ⟨Int.mul_nonneg hx0 hy0, by have := Int.mul_le_mul (show x ≤ 65535 by omega) (show y ≤ 65535 by omega) hy0 (by decide); omega⟩
/-- figures carried over: what they make is the number -/
theorem carried (V : Nat) (h o : Nat → Int) (c : Int) (hc : 0 ≤ c) (ho : ∀ j, j < 34 → 0 ≤ o j ∧ o j < 65536) (hV : V < 65536 ^ 34) (hs : sumf 65536 h 34 = V) (he : sumf 65536 h 34 = c * 65536 ^ 34 + sumf 65536 o 34) : row .u32 34 o = row .u32 34 (dg 65536 V) := by
  have h0 := sumf_nonneg 65536 (by decide) o 34 (fun i hi => (ho i hi).1)
  have hp : ((65536 : Int) ^ 34) = ((65536 ^ 34 : Nat) : Int) := by rw [Int.natCast_pow]; rfl
  have hc0 : c = 0 := by
    rcases Int.lt_or_le 0 c with h1 | h1
    · have h2 : 1 * (65536 : Int) ^ 34 ≤ c * 65536 ^ 34 := Int.mul_le_mul_of_nonneg_right (by omega) (Int.le_of_lt (Int.pow_pos (by decide)))
      rw [hs] at he
      rw [hp] at h2 he
      generalize 65536 ^ 34 = P at *
      omega
    · omega
  rw [hc0, Int.zero_mul, Int.zero_add, hs] at he
  refine row_ext _ _ _ _ (sumf_uniq 65536 o V 34 ho he.symm)
theorem carry16 (h o : Nat → Int) (k : Nat) (c n : Int) (he : sumf 65536 h k = c * 65536 ^ k + sumf 65536 o k) (hn : n = h k + c) : sumf 65536 h (k + 1) = n / 65536 * 65536 ^ (k + 1) + sumf 65536 (upd o k (n % 65536)) (k + 1) := by
  show sumf 65536 h k + h k * 65536 ^ k = n / 65536 * 65536 ^ (k + 1) + (sumf 65536 (upd o k (n % 65536)) k + upd o k (n % 65536) k * 65536 ^ k)
  rw [sumf_upd_above _ _ _ _ _ (Nat.le_refl k), upd_same, he, Int.pow_succ]
  have e : n = 65536 * (n / 65536) + n % 65536 := by omega
  generalize n / 65536 = q at *
  generalize n % 65536 = r at *
  have e2 : h k = 65536 * q + r - c := by omega
  rw [e2]
  generalize (65536 : Int) ^ k = P
  grind
theorem figures32 (a : Option Addr) (n : Nat) (hn : n < 115792089237316195423570985008687907853269984665640564039457584007913129639936) (w : World) (hb : Byts w a 32 n) :
    Calls Try.prog 70 #[.slice a 32 32] w fun e w' => (∃ F, w.heap.size ≤ F ∧ e = .returned (.slice (some ⟨F, 0, none⟩) 16 16) ∧ Has w' F (row .u32 16 (dg 65536 n)) 91) ∧ Below w.heap.size w w' :=
  figures_any a 32 32 n (by decide) (by rw [p256_32]; exact hn) w hb
theorem mkK34 (w : World) : (Instr.makeSlice 86 (.int .i64 34) (.int .i64 34)).run Try.prog w = .ok (.slice (some ⟨w.heap.size, 0, none⟩) 34 34) (w.alloc (.cells (row .u32 34 fun _ => 0) 91)) := mkK w 34 (by decide)
theorem p16_34 : (65536 : Nat) ^ 34 = 57586096570152913699974892898380567793532123114264532903689671329431521032595044740083720782129802971518987656109067457577065805510327036019308994315074097345724416 := by decide +kernel

set_option maxRecDepth 100000 in
set_option linter.unusedSimpArgs false in
set_option maxHeartbeats 8000000 in
theorem times3_any (A B C : Nat) (hA : A < 115792089237316195423570985008687907853269984665640564039457584007913129639936) (hB : B < 115792089237316195423570985008687907853269984665640564039457584007913129639936) (hC : C < 115792089237316195423570985008687907853269984665640564039457584007913129639936) (w : World) :
    Calls Try.prog 26 #[.agg (k32 A), .agg (k32 B), .agg (k32 C)] w fun e w' => e = .returned (.agg (k32 ((A * B + C) % L0))) ∧ Below w.heap.size w w' := by
  have hfA := fun a w h => figures32 a A hA w h
  have hfB := fun a w h => figures32 a B hB w h
  have hfC := fun a w h => figures32 a C hC w h
  have hsA := sumf_16 A (by rw [p256_16]; exact hA)
  have hsB := sumf_16 B (by rw [p256_16]; exact hB)
  have hsC := sumf_16 C (by rw [p256_16]; exact hC)
  have hV : A * B + C < 65536 ^ 34 := by
    rw [p16_34]
    have h1 : A * B < 115792089237316195423570985008687907853269984665640564039457584007913129639936 * 115792089237316195423570985008687907853269984665640564039457584007913129639936 := Nat.mul_lt_mul'' hA hB
    omega
  have hdi := fun F w h => divide_any F 34 34 (A * B + C) (by decide) hV w h
  have hdA := fun j => dg65 A j
  have hdB := fun j => dg65 B j
  have hdC := fun j => dg65 C j
  have HfA := Lib.hid hfA; clear hfA
  have HfB := Lib.hid hfB; clear hfB
  have HfC := Lib.hid hfC; clear hfC
  have HsA := Lib.hid hsA; clear hsA
  have HsB := Lib.hid hsB; clear hsB
  have HsC := Lib.hid hsC; clear hsC
  have HV := Lib.hid hV; clear hV
  have Hdi := Lib.hid hdi; clear hdi
  have HdA := Lib.hid hdA; clear hdA
  have HdB := Lib.hid hdB; clear hdB
  have HdC := Lib.hid hdC; clear hdC
  clear hA hB hC
  go_enter Try.func26, Try.ntmps26
  repeat ((fail_if_success (with_reducible (show wpList _ _ _ _ _ _))); go_step)
  iterate 4 (refine wpList_step (fun K hK => ?_); go_simp; (try go_bits); refine hK _ _ ?_; clear hK K)
  refine wpList_nil ?_
  have M3 := Lib.hid ((((Has.new w  (k32 A) 24).alloc (.cells (k32 B) 24)).alloc (.cells (k32 C) 24)).alloc (.cells (#[.int .u8 0, .int .u8 0, .int .u8 0, .int .u8 0, .int .u8 0, .int .u8 0, .int .u8 0, .int .u8 0, .int .u8 0, .int .u8 0, .int .u8 0, .int .u8 0, .int .u8 0, .int .u8 0, .int .u8 0, .int .u8 0, .int .u8 0, .int .u8 0, .int .u8 0, .int .u8 0, .int .u8 0, .int .u8 0, .int .u8 0, .int .u8 0, .int .u8 0, .int .u8 0, .int .u8 0, .int .u8 0, .int .u8 0, .int .u8 0, .int .u8 0, .int .u8 0] : Array Value) 24))
  have M4 := Lib.hid (((Has.new1 w (.cells (k32 A) 24) (k32 B) 24).alloc (.cells (k32 C) 24)).alloc (.cells (#[.int .u8 0, .int .u8 0, .int .u8 0, .int .u8 0, .int .u8 0, .int .u8 0, .int .u8 0, .int .u8 0, .int .u8 0, .int .u8 0, .int .u8 0, .int .u8 0, .int .u8 0, .int .u8 0, .int .u8 0, .int .u8 0, .int .u8 0, .int .u8 0, .int .u8 0, .int .u8 0, .int .u8 0, .int .u8 0, .int .u8 0, .int .u8 0, .int .u8 0, .int .u8 0, .int .u8 0, .int .u8 0, .int .u8 0, .int .u8 0, .int .u8 0, .int .u8 0] : Array Value) 24))
  have M5 := Lib.hid ((Has.new2 w (.cells (k32 A) 24) (.cells (k32 B) 24) (k32 C) 24).alloc (.cells (#[.int .u8 0, .int .u8 0, .int .u8 0, .int .u8 0, .int .u8 0, .int .u8 0, .int .u8 0, .int .u8 0, .int .u8 0, .int .u8 0, .int .u8 0, .int .u8 0, .int .u8 0, .int .u8 0, .int .u8 0, .int .u8 0, .int .u8 0, .int .u8 0, .int .u8 0, .int .u8 0, .int .u8 0, .int .u8 0, .int .u8 0, .int .u8 0, .int .u8 0, .int .u8 0, .int .u8 0, .int .u8 0, .int .u8 0, .int .u8 0, .int .u8 0, .int .u8 0] : Array Value) 24))
  have M6 := Lib.hid (HasN.new3 w (.cells (k32 A) 24) (.cells (k32 B) 24) (.cells (k32 C) 24) (#[.int .u8 0, .int .u8 0, .int .u8 0, .int .u8 0, .int .u8 0, .int .u8 0, .int .u8 0, .int .u8 0, .int .u8 0, .int .u8 0, .int .u8 0, .int .u8 0, .int .u8 0, .int .u8 0, .int .u8 0, .int .u8 0, .int .u8 0, .int .u8 0, .int .u8 0, .int .u8 0, .int .u8 0, .int .u8 0, .int .u8 0, .int .u8 0, .int .u8 0, .int .u8 0, .int .u8 0, .int .u8 0, .int .u8 0, .int .u8 0, .int .u8 0, .int .u8 0] : Array Value) 24 32 (by kernel_rfl))
  have HB := Lib.hid (below_4 w (.cells (k32 A) 24) (.cells (k32 B) 24) (.cells (k32 C) 24) (.cells (#[.int .u8 0, .int .u8 0, .int .u8 0, .int .u8 0, .int .u8 0, .int .u8 0, .int .u8 0, .int .u8 0, .int .u8 0, .int .u8 0, .int .u8 0, .int .u8 0, .int .u8 0, .int .u8 0, .int .u8 0, .int .u8 0, .int .u8 0, .int .u8 0, .int .u8 0, .int .u8 0, .int .u8 0, .int .u8 0, .int .u8 0, .int .u8 0, .int .u8 0, .int .u8 0, .int .u8 0, .int .u8 0, .int .u8 0, .int .u8 0, .int .u8 0, .int .u8 0] : Array Value) 24))
  obtain ⟨yw1, hwyw1⟩ : ∃ ww, ww = ((((w.alloc (.cells (k32 A) 24)).alloc (.cells (k32 B) 24)).alloc (.cells (k32 C) 24)).alloc (.cells (#[.int .u8 0, .int .u8 0, .int .u8 0, .int .u8 0, .int .u8 0, .int .u8 0, .int .u8 0, .int .u8 0, .int .u8 0, .int .u8 0, .int .u8 0, .int .u8 0, .int .u8 0, .int .u8 0, .int .u8 0, .int .u8 0, .int .u8 0, .int .u8 0, .int .u8 0, .int .u8 0, .int .u8 0, .int .u8 0, .int .u8 0, .int .u8 0, .int .u8 0, .int .u8 0, .int .u8 0, .int .u8 0, .int .u8 0, .int .u8 0, .int .u8 0, .int .u8 0] : Array Value) 24)) := ⟨_, rfl⟩
  rw [← hwyw1] at M3 M4 M5 M6 HB ⊢
  clear hwyw1
  repeat ((fail_if_success (with_reducible (show wpList _ _ _ _ _ _))); go_step)
  have gW := M6.out.lt
  refine wpList_make (by rfl) 94 _ _ rfl _ _ rfl rfl _ _ (mkW _) 18 rfl ?_
  have hb := below_1 yw1 (.cells (row .u64 34 fun _ => 0) 34)
  have nwMW := Has.new yw1 (row .u64 34 fun _ => 0) 34
  obtain ⟨yw2, hwyw2⟩ : ∃ ww, ww = yw1.alloc (.cells (row .u64 34 fun _ => 0) 34) := ⟨_, rfl⟩
  rw [← hwyw2] at hb nwMW ⊢
  clear hwyw2
  replace M3 := Lib.hid (M3.out.call hb)
  replace M4 := Lib.hid (M4.out.call hb)
  replace M5 := Lib.hid (M5.out.call hb)
  replace M6 := Lib.hid (M6.out.call hb)
  replace HB := Lib.hid (held_next HB.out hb)
  clear hb
  have MW := Lib.hid nwMW; clear nwMW
  (try simp only [Act.put, sI, sS, sZ])
  (refine wpList_step (fun K hK => ?_); go_simp; (try go_bits); refine hK _ _ ?_; clear hK K)
  refine wpList_nil ?_
  obtain ⟨BW, hBW⟩ : ∃ B, B = yw1.heap.size := ⟨_, rfl⟩
  rw [← hBW] at MW gW ⊢
  clear hBW
  repeat ((fail_if_success (with_reducible (show wpList _ _ _ _ _ _))); go_step)
  have gB0 := MW.out.lt
  refine wp_region_noPanic ?_
  refine wp_region_goS (fun _ => True) 99 6 #[ff,ff,ff,ff,ff,ff] (by kernel_rfl) rfl rfl ?_
  replace M3 := Lib.hid (M3.out.drew)
  replace M4 := Lib.hid (M4.out.drew)
  replace M5 := Lib.hid (M5.out.drew)
  replace M6 := Lib.hid (M6.out.drew)
  replace MW := Lib.hid (MW.out.drew)
  replace HB := Lib.hid (below_drewN HB.out 1)
  obtain ⟨yw3, hwyw3⟩ : ∃ ww, ww = yw2.drew := ⟨_, rfl⟩
  rw [← hwyw3] at M3 M4 M5 M6 MW ⊢
  have kq : Below w.heap.size w yw3 := by rw [hwyw3]; exact HB.out
  clear HB; have HB := Lib.hid kq; clear kq hwyw3
  refine go_take2 0 19 #[tt,ff,ff,ff,ff,ff] (v := ?uv1) rfl rfl rfl (by kernel_rfl) (Or.inl ⟨by rfl, ?uy1⟩) (trivial) ?urest1
  case uy1 => (intro _ _; go_simp; try with_reducible rfl)
  (try simp only [sI, sS, sZ])
  refine go_take2 2 21 #[tt,ff,tt,ff,ff,ff] (v := ?uv2) rfl rfl rfl (by kernel_rfl) (Or.inl ⟨by rfl, ?uy2⟩) (trivial) ?urest2
  case uy2 => (intro _ _; go_simp; try with_reducible rfl)
  (try simp only [sI, sS, sZ])
  refine wpBut_r1 (i := 1) (by kernel_rfl) ?_
  have ltW := MW.out.lt
  refine go_call 1 20 #[tt,tt,tt,ff,ff,ff] rfl rfl rfl (by rfl) rfl rfl (by rfl) ent70 (by rfl) (HfA.out _ _ M3.out.byts) ?_
  rintro e uw1 ⟨⟨FX, hFX, rfl, mF⟩, hb⟩
  replace M3 := Lib.hid (M3.out.call hb)
  replace M4 := Lib.hid (M4.out.call hb)
  replace M5 := Lib.hid (M5.out.call hb)
  replace M6 := Lib.hid (M6.out.call hb)
  replace MW := Lib.hid (MW.out.call hb)
  replace HB := Lib.hid (held_next HB.out hb)
  have gX : BW < FX := by omega
  clear ltW; have MX := Lib.hid mF; clear mF
  refine ⟨_, rfl, fun _ => trivial, ?_⟩
  clear hb
  (try simp only [sI, sS, sZ])
  refine wpBut_r1 (i := 3) (by kernel_rfl) ?_
  have ltW := MW.out.lt
  refine go_call 3 22 #[tt,tt,tt,tt,ff,ff] rfl rfl rfl (by rfl) rfl rfl (by rfl) ent70 (by rfl) (HfB.out _ _ M4.out.byts) ?_
  rintro e uw2 ⟨⟨FY, hFY, rfl, mF⟩, hb⟩
  replace M3 := Lib.hid (M3.out.call hb)
  replace M4 := Lib.hid (M4.out.call hb)
  replace M5 := Lib.hid (M5.out.call hb)
  replace M6 := Lib.hid (M6.out.call hb)
  replace MW := Lib.hid (MW.out.call hb)
  replace MX := Lib.hid (MX.out.call hb)
  replace HB := Lib.hid (held_next HB.out hb)
  have gY : BW < FY := by omega
  clear ltW; have MY := Lib.hid mF; clear mF
  refine ⟨_, rfl, fun _ => trivial, ?_⟩
  clear hb
  (try simp only [sI, sS, sZ])
  refine go_take2 4 8 #[tt,tt,tt,tt,tt,ff] (v := ?uv3) rfl rfl rfl (by kernel_rfl) (Or.inl ⟨by rfl, ?uy3⟩) (trivial) ?urest3
  case uy3 => (intro _ _; go_simp; try with_reducible rfl)
  (try simp only [sI, sS, sZ])
  refine go_take2 5 9 #[tt,tt,tt,tt,tt,tt] (v := ?uv4) rfl rfl rfl (by kernel_rfl) (Or.inl ⟨by rfl, ?uy4⟩) (trivial) ?urest4
  case uy4 => (intro _ _; go_simp; try with_reducible rfl)
  (try simp only [sI, sS, sZ])
  refine wpBut_done (by kernel_rfl) (NoPanic.normal ?_)
  clear HfA HfB M3 M4
  repeat ((fail_if_success (with_reducible (show wpList _ _ _ _ _ _))); go_step)
  (refine wpList_step (fun K hK => ?_); go_simp; (try go_bits); refine hK _ _ ?_; clear hK K)
  have ltW := MW.out.lt
  refine wpList_call (by rfl) rfl rfl (by rfl) ent70 (by rfl) (HfC.out _ _ M5.out.byts) 24 rfl ?_
  rintro e uw3 ⟨⟨FC, hFC, rfl, mF⟩, hb⟩
  replace M5 := Lib.hid (M5.out.call hb)
  replace M6 := Lib.hid (M6.out.call hb)
  replace MW := Lib.hid (MW.out.call hb)
  replace MX := Lib.hid (MX.out.call hb)
  replace MY := Lib.hid (MY.out.call hb)
  replace HB := Lib.hid (held_next HB.out hb)
  have gC : BW < FC := by omega
  clear ltW; have MC := Lib.hid mF; clear mF
  refine ⟨_, rfl, ?_⟩
  clear hb
  (try simp only [Act.put, sI, sS, sZ])
  iterate 2 (refine wpList_step (fun K hK => ?_); go_simp; (try go_bits); refine hK _ _ ?_; clear hK K)
  refine wpList_nil ?_
  clear HfC M5
  repeat ((fail_if_success (with_reducible (show wpList _ _ _ _ _ _))); go_step)
  go_loopw [26] (fun i wr => ∃ (k : Nat) (h : Nat → Int), k ≤ 16 ∧ i = .int .i64 (k : Int) ∧ RowKit.Hid (∀ j, j < 34 → 0 ≤ h j ∧ h j ≤ 65535) ∧ RowKit.Hid (∀ j, k ≤ j → h j = 0) ∧ RowKit.Hid (sumf 65536 h 34 = sumf 65536 (dg 65536 C) k) ∧ Has wr FC (row .u32 16 (dg 65536 C)) 91 ∧ HasN wr (w.heap.size + 1 + 1 + 1) 32 24 ∧ Has wr FX (row .u32 16 (dg 65536 A)) 91 ∧ Has wr FY (row .u32 16 (dg 65536 B)) 91 ∧ Has wr BW (row .u64 34 h) 34 ∧ Below w.heap.size w wr) (fun i _ => (16 - (intOf i).toNat))
  case atStart => exact ⟨0, fun _ => 0, by omega, rfl, Lib.hid (fun j _ => ⟨Int.le_refl 0, (by decide : (0 : Int) ≤ 65535)⟩), Lib.hid (fun _ _ => rfl), Lib.hid (by rw [sumf_zero _ _ _ (fun _ _ => rfl)]; rfl), MC.out, M6.out, MX.out, MY.out, MW.out, HB.out⟩
  case round =>
    clear M6 MX MY MW HB
    clear MC
    obtain ⟨k, h, hk, rfl, Hbd, Hz, Hs, mC, m6, mX, mY, mW, hB⟩ := hrel
    have M6 := Lib.hid m6; clear m6
    have MX := Lib.hid mX; clear mX
    have MY := Lib.hid mY; clear mY
    have MW := Lib.hid mW; clear mW
    have HB := Lib.hid hB; clear hB
    have MC := Lib.hid mC; clear mC
    rcases Nat.lt_or_ge k 16 with hlt | hge
    · have kq : (k : Int) < 16 := by omega
      have kq2 : (k : Int) < 34 := by omega
      have hc1 := MC.out.cell k hlt
      have hd1 := (HdC.out k).1
      have hd2 := (HdC.out k).2
      obtain ⟨x, hx⟩ : ∃ x, x = dg 65536 C k := ⟨_, rfl⟩
      rw [← hx] at hc1 hd1 hd2
      have hc2 := MW.out.cell k (by omega)
      rw [Hz.out k (Nat.le_refl _)] at hc2
      have hfz := MW.out.frozen k
      obtain ⟨h2, hh2⟩ : ∃ g, g = upd h k x := ⟨_, rfl⟩
      have Hs2 : RowKit.Hid (sumf 65536 h2 34 = sumf 65536 (dg 65536 C) (k + 1)) := by
        refine Lib.hid ?_
        rw [hh2, sumf_upd _ _ _ _ _ (by omega), Hz.out k (Nat.le_refl _), Hs.out, Int.sub_zero]
        show _ = sumf 65536 (dg 65536 C) k + dg 65536 C k * 65536 ^ k
        rw [hx]
      have Hbd2 : RowKit.Hid (∀ j, j < 34 → 0 ≤ h2 j ∧ h2 j ≤ 65535) := by
        refine Lib.hid (fun j hj => ?_)
        rw [hh2]; unfold upd
        by_cases e : j = k
        · rw [if_pos e]; omega
        · rw [if_neg e]; exact Hbd.out j hj
      have Hz2 : RowKit.Hid (∀ j, k + 1 ≤ j → h2 j = 0) := by
        refine Lib.hid (fun j hj => ?_)
        rw [hh2]; unfold upd
        rw [if_neg (by omega)]; exact Hz.out j (by omega)
      clear hx Hbd Hz Hs
      have Hh2 := Lib.hid hh2; clear hh2
      repeat ((fail_if_success (with_reducible (show wpList _ _ _ _ _ _))); go_step)
      (refine wpList_step (fun K hK => ?_); go_simp; (try go_bits); refine hK _ _ ?_; clear hK K)
      refine wpList_nil ?_
      repeat ((fail_if_success (with_reducible (show wpList _ _ _ _ _ _))); go_step)
      iterate 5 (refine wpList_step (fun K hK => ?_); go_simp; (try go_bits); refine hK _ _ ?_; clear hK K)
      refine wpList_nil ?_
      repeat ((fail_if_success (with_reducible (show wpList _ _ _ _ _ _))); go_step)
      iterate 6 (refine wpList_step (fun K hK => ?_); go_simp; (try go_bits); refine hK _ _ ?_; clear hK K)
      
      have kq := MW.out.set (k) (x); rw [← Hh2.out] at kq; clear MW; have MW := Lib.hid kq; clear kq
      have kq := M6.out.other ⟨BW, k, none⟩ (.int .u64 (x)) (by simp <;> omega); clear M6; have M6 := Lib.hid kq; clear kq
      have kq := MX.out.other ⟨BW, k, none⟩ (.int .u64 (x)) (by simp <;> omega); clear MX; have MX := Lib.hid kq; clear kq
      have kq := MY.out.other ⟨BW, k, none⟩ (.int .u64 (x)) (by simp <;> omega); clear MY; have MY := Lib.hid kq; clear kq
      have kq := MC.out.other ⟨BW, k, none⟩ (.int .u64 (x)) (by simp <;> omega); clear MC; have MC := Lib.hid kq; clear kq
      replace HB := Lib.hid (HB.out.setCell (p := ⟨BW, k, none⟩) (show w.heap.size ≤ BW by omega) (.int .u64 (x)))
      obtain ⟨yw101, hwyw101⟩ : ∃ ww, ww = wr.setCell ⟨BW, k, none⟩ (.int .u64 (x)) := ⟨_, rfl⟩
      rw [← hwyw101] at M6 MX MY MW MC HB ⊢
      clear hwyw101
      refine wpList_nil ?_
      clear hc1 hc2 hfz hd1 hd2
      repeat ((fail_if_success (with_reducible (show wpList _ _ _ _ _ _))); go_step)
      iterate 2 (refine wpList_step (fun K hK => ?_); go_simp; (try go_bits); refine hK _ _ ?_; clear hK K)
      refine wpList_nil ?_
      go_roundw
      case measure => simp [intOf]; omega
      case rel => (repeat apply Exists.intro); exact ⟨⟨k + 1, h2, by omega, by go_num, Hbd2, Hz2, Hs2, MC.out, M6.out, MX.out, MY.out, MW.out, HB.out⟩, rfl⟩
    · have hk16 : k = 16 := by omega
      subst hk16
      clear hk hge MC Hz
      have hs0 := Hs.out
      rw [HsC.out] at hs0
      clear Hs
      have Hs0 := Lib.hid hs0; clear hs0
      repeat ((fail_if_success (with_reducible (show wpList _ _ _ _ _ _))); go_step)
      (refine wpList_step (fun K hK => ?_); go_simp; (try go_bits); refine hK _ _ ?_; clear hK K)
      refine wpList_nil ?_
      repeat ((fail_if_success (with_reducible (show wpList _ _ _ _ _ _))); go_step)
      iterate 3 (refine wpList_step (fun K hK => ?_); go_simp; (try go_bits); refine hK _ _ ?_; clear hK K)
      refine wpList_nil ?_
      repeat ((fail_if_success (with_reducible (show wpList _ _ _ _ _ _))); go_step)
      obtain ⟨w1, rfl⟩ : ∃ W, W = wr := ⟨_, rfl⟩
      go_loopw [39] (fun i wr => ∃ (k : Nat) (h : Nat → Int), k ≤ 16 ∧ i = .int .i64 (k : Int) ∧ RowKit.Hid (∀ j, j < 34 → 0 ≤ h j ∧ h j ≤ 65535 + 16 * (k : Int) * 4294836225) ∧ RowKit.Hid (sumf 65536 h 34 = C + sumf 65536 (dg 65536 A) k * B) ∧ HasN wr (w.heap.size + 1 + 1 + 1) 32 24 ∧ Has wr FX (row .u32 16 (dg 65536 A)) 91 ∧ Has wr FY (row .u32 16 (dg 65536 B)) 91 ∧ Has wr BW (row .u64 34 h) 34 ∧ Below w.heap.size w wr) (fun i _ => (16 - (intOf i).toNat))
      case atStart => exact ⟨0, h, by omega, rfl, Lib.hid (fun j hj => by have := Hbd.out j hj; omega), Lib.hid (by rw [Hs0.out]; show _ = (C : Int) + 0 * B; omega), M6.out, MX.out, MY.out, MW.out, HB.out⟩
      case round =>
        clear M6 MX MY MW HB
        clear Hbd Hs0
        obtain ⟨i, h, hi, rfl, Hbd, Hs, m6, mX, mY, mW, hB⟩ := hrel
        have M6 := Lib.hid m6; clear m6
        have MX := Lib.hid mX; clear mX
        have MY := Lib.hid mY; clear mY
        have MW := Lib.hid mW; clear mW
        have HB := Lib.hid hB; clear hB
        rcases Nat.lt_or_ge i 16 with hilt | hige
        · have iq : (i : Int) < 16 := by omega
          repeat ((fail_if_success (with_reducible (show wpList _ _ _ _ _ _))); go_step)
          (refine wpList_step (fun K hK => ?_); go_simp; (try go_bits); refine hK _ _ ?_; clear hK K)
          refine wpList_nil ?_
          repeat ((fail_if_success (with_reducible (show wpList _ _ _ _ _ _))); go_step)
          iterate 2 (refine wpList_step (fun K hK => ?_); go_simp; (try go_bits); refine hK _ _ ?_; clear hK K)
          refine wpList_nil ?_
          repeat ((fail_if_success (with_reducible (show wpList _ _ _ _ _ _))); go_step)
          iterate 3 (refine wpList_step (fun K hK => ?_); go_simp; (try go_bits); refine hK _ _ ?_; clear hK K)
          refine wpList_nil ?_
          repeat ((fail_if_success (with_reducible (show wpList _ _ _ _ _ _))); go_step)
          obtain ⟨w2, rfl⟩ : ∃ W, W = wr := ⟨_, rfl⟩
          go_loopw [44] (fun q wr => ∃ (k : Nat) (h : Nat → Int), k ≤ 16 ∧ q = .int .i64 (k : Int) ∧ RowKit.Hid (∀ j, j < 34 → 0 ≤ h j ∧ h j ≤ 65535 + (16 * (i : Int) + k) * 4294836225) ∧ RowKit.Hid (sumf 65536 h 34 = C + sumf 65536 (dg 65536 A) i * B + dg 65536 A i * 65536 ^ i * sumf 65536 (dg 65536 B) k) ∧ HasN wr (w.heap.size + 1 + 1 + 1) 32 24 ∧ Has wr FX (row .u32 16 (dg 65536 A)) 91 ∧ Has wr FY (row .u32 16 (dg 65536 B)) 91 ∧ Has wr BW (row .u64 34 h) 34 ∧ Below w.heap.size w wr) (fun q _ => (16 - (intOf q).toNat))
          case atStart => exact ⟨0, h, by omega, rfl, Lib.hid (fun j hj => by have := Hbd.out j hj; omega), Lib.hid (by rw [Hs.out]; show _ = _ + dg 65536 A i * 65536 ^ i * 0; omega), M6.out, MX.out, MY.out, MW.out, HB.out⟩
          case round =>
            clear M6 MX MY MW HB
            clear Hbd Hs
            obtain ⟨k, h, hk, rfl, Hbd, Hs, m6, mX, mY, mW, hB⟩ := hrel
            have M6 := Lib.hid m6; clear m6
            have MX := Lib.hid mX; clear mX
            have MY := Lib.hid mY; clear mY
            have MW := Lib.hid mW; clear mW
            have HB := Lib.hid hB; clear hB
            rcases Nat.lt_or_ge k 16 with hklt | hkge
            · have kq : (k : Int) < 16 := by omega
              obtain ⟨x0, x1⟩ := HdA.out i
              obtain ⟨y0, y1⟩ := HdB.out k
              obtain ⟨x, hx⟩ : ∃ x, x = dg 65536 A i := ⟨_, rfl⟩
              obtain ⟨y, hy⟩ : ∃ y, y = dg 65536 B k := ⟨_, rfl⟩
              rw [← hx] at x0 x1
              rw [← hy] at y0 y1
              obtain ⟨xy0, xy1⟩ := mul16 x y x0 x1 y0 y1
              obtain ⟨p, hp⟩ : ∃ p, p = x * y := ⟨_, rfl⟩
              rw [← hp] at xy0 xy1
              obtain ⟨s, hs⟩ : ∃ s, s = i + k := ⟨_, rfl⟩
              have hs34 : s < 34 := by omega
              have sq : (s : Int) < 34 := by omega
              obtain ⟨z0, z1⟩ := Hbd.out s hs34
              obtain ⟨z, hz⟩ : ∃ z, z = h s := ⟨_, rfl⟩
              rw [← hz] at z0 z1
              obtain ⟨t, ht⟩ : ∃ t, t = z + p := ⟨_, rfl⟩
              have hwik : IntKind.i64.wrap ((i : Int) + (k : Int)) = (s : Int) := by rw [IntKind.wrap_i64]; omega
              have hwx : IntKind.u64.wrap x = x := by rw [IntKind.wrap_u64]; omega
              have hwy : IntKind.u64.wrap y = y := by rw [IntKind.wrap_u64]; omega
              have hwp : IntKind.u64.wrap (x * y) = p := by rw [← hp, IntKind.wrap_u64]; omega
              have hwt : IntKind.u64.wrap (z + p) = t := by rw [← ht, IntKind.wrap_u64]; omega
              obtain ⟨h2, hh2⟩ : ∃ g, g = upd h s t := ⟨_, rfl⟩
              have Hs2 : RowKit.Hid (sumf 65536 h2 34 = C + sumf 65536 (dg 65536 A) i * B + dg 65536 A i * 65536 ^ i * sumf 65536 (dg 65536 B) (k + 1)) := by
                refine Lib.hid ?_
                rw [hh2, sumf_upd _ _ _ _ _ hs34, Hs.out]
                show _ = _ + dg 65536 A i * 65536 ^ i * (sumf 65536 (dg 65536 B) k + dg 65536 B k * 65536 ^ k)
                rw [← hx, ← hy, ← hz, ht, hs, Int.pow_add, hp]
                generalize (65536 : Int) ^ i = P
                generalize (65536 : Int) ^ k = R
                grind
              have Hbd2 : RowKit.Hid (∀ j, j < 34 → 0 ≤ h2 j ∧ h2 j ≤ 65535 + (16 * (i : Int) + (k + 1 : Nat)) * 4294836225) := by
                refine Lib.hid (fun j hj => ?_)
                rw [hh2]; unfold upd
                by_cases e : j = s
                · rw [if_pos e]; omega
                · rw [if_neg e]; have := Hbd.out j hj; omega
              have Hx := Lib.hid hx
              have Hy := Lib.hid hy
              have Hz := Lib.hid hz
              clear hx hy hz hp ht hs Hs Hbd z1
              have Hh2 := Lib.hid hh2; clear hh2
              repeat ((fail_if_success (with_reducible (show wpList _ _ _ _ _ _))); go_step)
              (refine wpList_step (fun K hK => ?_); go_simp; (try go_bits); refine hK _ _ ?_; clear hK K)
              refine wpList_nil ?_
              repeat ((fail_if_success (with_reducible (show wpList _ _ _ _ _ _))); go_step)
              iterate 2 (refine wpList_step (fun K hK => ?_); go_simp; (try go_bits); refine hK _ _ ?_; clear hK K)
              refine wpList_nil ?_
              repeat ((fail_if_success (with_reducible (show wpList _ _ _ _ _ _))); go_step)
              refine wp_region_noPanic ?_
              refine wp_region_goS (fun w' => Has w' (BW) (row .u64 34 h) 34 ∧ Has w' (FX) (row .u32 16 (dg 65536 A)) 91 ∧ Has w' (FY) (row .u32 16 (dg 65536 B)) 91) 19 20 #[ff,ff,ff,ff,ff,ff,ff,ff,ff,ff,ff,ff,ff,ff,ff,ff,ff,ff,ff,ff] (by kernel_rfl) rfl rfl ?_
              replace M6 := Lib.hid (M6.out.drew)
              replace MX := Lib.hid (MX.out.drew)
              replace MY := Lib.hid (MY.out.drew)
              replace MW := Lib.hid (MW.out.drew)
              replace HB := Lib.hid (below_drewN HB.out 1)
              obtain ⟨yw301, hwyw301⟩ : ∃ ww, ww = wr.drew := ⟨_, rfl⟩
              rw [← hwyw301] at M6 MX MY MW ⊢
              have kq : Below w.heap.size w yw301 := by rw [hwyw301]; exact HB.out
              clear HB; have HB := Lib.hid kq; clear kq hwyw301
              refine go_take2 0 47 #[tt,ff,ff,ff,ff,ff,ff,ff,ff,ff,ff,ff,ff,ff,ff,ff,ff,ff,ff,ff] (v := ?uv5) rfl rfl rfl (by kernel_rfl) (Or.inl ⟨by rfl, ?uy5⟩) (⟨MW.out, MX.out, MY.out⟩) ?urest5
              case uy5 => (intro _ _; go_simp; try with_reducible rfl)
              (try simp only [sI, sS, sZ])
              refine go_take2 1 48 #[tt,tt,ff,ff,ff,ff,ff,ff,ff,ff,ff,ff,ff,ff,ff,ff,ff,ff,ff,ff] (v := ?uv6) rfl rfl rfl (by kernel_rfl) (Or.inl ⟨by rfl, ?uy6⟩) (⟨MW.out, MX.out, MY.out⟩) ?urest6
              case uy6 => (intro _ _; go_simp; try with_reducible rfl)
              (try simp only [sI, sS, sZ])
              refine go_take2 2 49 #[tt,tt,tt,ff,ff,ff,ff,ff,ff,ff,ff,ff,ff,ff,ff,ff,ff,ff,ff,ff] (v := ?uv7) rfl rfl rfl (by kernel_rfl) (Or.inl ⟨by rfl, ?uy7⟩) (⟨MW.out, MX.out, MY.out⟩) ?urest7
              case uy7 => (intro _ _; go_simp; try with_reducible rfl)
              (try simp only [sI, sS, sZ])
              refine go_take2 3 50 #[tt,tt,tt,tt,ff,ff,ff,ff,ff,ff,ff,ff,ff,ff,ff,ff,ff,ff,ff,ff] (v := ?uv8) rfl rfl rfl (by kernel_rfl) (Or.inl ⟨by rfl, ?uy8⟩) (⟨MW.out, MX.out, MY.out⟩) ?urest8
              case uy8 => (intro _ _; go_simp; try with_reducible rfl)
              (try simp only [sI, sS, sZ])
              refine go_take2 4 51 #[tt,tt,tt,tt,tt,ff,ff,ff,ff,ff,ff,ff,ff,ff,ff,ff,ff,ff,ff,ff] (v := ?uv9) rfl rfl rfl (by kernel_rfl) (Or.inl ⟨by rfl, ?uy9⟩) (⟨MW.out, MX.out, MY.out⟩) ?urest9
              case uy9 => (intro _ _; go_simp; try with_reducible rfl)
              (try simp only [sI, sS, sZ])
              refine go_take2 5 52 #[tt,tt,tt,tt,tt,tt,ff,ff,ff,ff,ff,ff,ff,ff,ff,ff,ff,ff,ff,ff] rfl rfl rfl (by kernel_rfl) (yieldsIf_loadc (by rfl) 34 _ rfl (BW) (s) rfl (.int .u64 z) _ (fun _ h => (by rw [Has.cell h.1 s hs34, Hz.out])) Try.underlying34 rfl) (⟨MW.out, MX.out, MY.out⟩) ?_
              (try simp only [sI, sS, sZ])
              refine go_take2 6 53 #[tt,tt,tt,tt,tt,tt,tt,ff,ff,ff,ff,ff,ff,ff,ff,ff,ff,ff,ff,ff] (v := ?uv10) rfl rfl rfl (by kernel_rfl) (Or.inl ⟨by rfl, ?uy10⟩) (⟨MW.out, MX.out, MY.out⟩) ?urest10
              case uy10 => (intro _ _; go_simp; try with_reducible rfl)
              (try simp only [sI, sS, sZ])
              refine go_take2 7 54 #[tt,tt,tt,tt,tt,tt,tt,tt,ff,ff,ff,ff,ff,ff,ff,ff,ff,ff,ff,ff] (v := ?uv11) rfl rfl rfl (by kernel_rfl) (Or.inl ⟨by rfl, ?uy11⟩) (⟨MW.out, MX.out, MY.out⟩) ?urest11
              case uy11 => (intro _ _; go_simp; try with_reducible rfl)
              (try simp only [sI, sS, sZ])
              refine go_take2 8 55 #[tt,tt,tt,tt,tt,tt,tt,tt,tt,ff,ff,ff,ff,ff,ff,ff,ff,ff,ff,ff] (v := ?uv12) rfl rfl rfl (by kernel_rfl) (Or.inl ⟨by rfl, ?uy12⟩) (⟨MW.out, MX.out, MY.out⟩) ?urest12
              case uy12 => (intro _ _; go_simp; try with_reducible rfl)
              (try simp only [sI, sS, sZ])
              refine go_take2 9 56 #[tt,tt,tt,tt,tt,tt,tt,tt,tt,tt,ff,ff,ff,ff,ff,ff,ff,ff,ff,ff] rfl rfl rfl (by kernel_rfl) (yieldsIf_loadc (by rfl) 91 _ rfl (FX) (i) rfl (.int .u32 x) _ (fun _ h => (by rw [Has.cell h.2.1 i hilt, Hx.out])) Try.underlying91 rfl) (⟨MW.out, MX.out, MY.out⟩) ?_
              (try simp only [sI, sS, sZ])
              refine go_take2 10 57 #[tt,tt,tt,tt,tt,tt,tt,tt,tt,tt,tt,ff,ff,ff,ff,ff,ff,ff,ff,ff] (v := ?uv13) rfl rfl rfl (by kernel_rfl) (Or.inl ⟨by rfl, ?uy13⟩) (⟨MW.out, MX.out, MY.out⟩) ?urest13
              case uy13 => (intro _ _; go_simp; try with_reducible rfl)
              (try simp only [sI, sS, sZ])
              refine go_take2 11 58 #[tt,tt,tt,tt,tt,tt,tt,tt,tt,tt,tt,tt,ff,ff,ff,ff,ff,ff,ff,ff] (v := ?uv14) rfl rfl rfl (by kernel_rfl) (Or.inl ⟨by rfl, ?uy14⟩) (⟨MW.out, MX.out, MY.out⟩) ?urest14
              case uy14 => (intro _ _; go_simp; try with_reducible rfl)
              (try simp only [sI, sS, sZ])
              refine go_take2 12 59 #[tt,tt,tt,tt,tt,tt,tt,tt,tt,tt,tt,tt,tt,ff,ff,ff,ff,ff,ff,ff] (v := ?uv15) rfl rfl rfl (by kernel_rfl) (Or.inl ⟨by rfl, ?uy15⟩) (⟨MW.out, MX.out, MY.out⟩) ?urest15
              case uy15 => (intro _ _; go_simp; try with_reducible rfl)
              (try simp only [sI, sS, sZ])
              refine go_take2 13 60 #[tt,tt,tt,tt,tt,tt,tt,tt,tt,tt,tt,tt,tt,tt,ff,ff,ff,ff,ff,ff] (v := ?uv16) rfl rfl rfl (by kernel_rfl) (Or.inl ⟨by rfl, ?uy16⟩) (⟨MW.out, MX.out, MY.out⟩) ?urest16
              case uy16 => (intro _ _; go_simp; try with_reducible rfl)
              (try simp only [sI, sS, sZ])
              refine go_take2 14 61 #[tt,tt,tt,tt,tt,tt,tt,tt,tt,tt,tt,tt,tt,tt,tt,ff,ff,ff,ff,ff] rfl rfl rfl (by kernel_rfl) (yieldsIf_loadc (by rfl) 91 _ rfl (FY) (k) rfl (.int .u32 y) _ (fun _ h => (by rw [Has.cell h.2.2 k hklt, Hy.out])) Try.underlying91 rfl) (⟨MW.out, MX.out, MY.out⟩) ?_
              (try simp only [sI, sS, sZ])
              refine go_take2 15 62 #[tt,tt,tt,tt,tt,tt,tt,tt,tt,tt,tt,tt,tt,tt,tt,tt,ff,ff,ff,ff] (v := ?uv17) rfl rfl rfl (by kernel_rfl) (Or.inl ⟨by rfl, ?uy17⟩) (⟨MW.out, MX.out, MY.out⟩) ?urest17
              case uy17 => (intro _ _; go_simp; try with_reducible rfl)
              (try simp only [sI, sS, sZ])
              refine go_take2 16 63 #[tt,tt,tt,tt,tt,tt,tt,tt,tt,tt,tt,tt,tt,tt,tt,tt,tt,ff,ff,ff] (v := ?uv18) rfl rfl rfl (by kernel_rfl) (Or.inl ⟨by rfl, ?uy18⟩) (⟨MW.out, MX.out, MY.out⟩) ?urest18
              case uy18 => (intro _ _; go_simp; try with_reducible rfl)
              (try simp only [sI, sS, sZ])
              refine go_take2 17 64 #[tt,tt,tt,tt,tt,tt,tt,tt,tt,tt,tt,tt,tt,tt,tt,tt,tt,tt,ff,ff] (v := ?uv19) rfl rfl rfl (by kernel_rfl) (Or.inl ⟨by rfl, ?uy19⟩) (⟨MW.out, MX.out, MY.out⟩) ?urest19
              case uy19 => (intro _ _; go_simp; try with_reducible rfl)
              (try simp only [sI, sS, sZ])
              refine go_take2 18 65 #[tt,tt,tt,tt,tt,tt,tt,tt,tt,tt,tt,tt,tt,tt,tt,tt,tt,tt,tt,ff] (v := ?uv20) rfl rfl rfl (by kernel_rfl) (Or.inl ⟨by rfl, ?uy20⟩) (⟨MW.out, MX.out, MY.out⟩) ?urest20
              case uy20 => (intro _ _; go_simp; try with_reducible rfl)
              (try simp only [sI, sS, sZ])
              refine wpBut_r1 (i := 19) (by kernel_rfl) ?_
              refine go_storec 19 #[tt,tt,tt,tt,tt,tt,tt,tt,tt,tt,tt,tt,tt,tt,tt,tt,tt,tt,tt,tt] rfl rfl rfl (by rfl) 34 _ _ rfl (BW) (s) (.int .u64 (t)) rfl rfl (by rw [MW.out.cell s hs34]; rfl) (MW.out.frozen _) (by kernel_rfl) rfl rfl ⟨fun h => (h rfl).elim, ?_⟩
              have kq := MW.out.set (s) (t); rw [← Hh2.out] at kq; clear MW; have MW := Lib.hid kq; clear kq
              have kq := M6.out.other ⟨BW, s, none⟩ (.int .u64 (t)) (by simp <;> omega); clear M6; have M6 := Lib.hid kq; clear kq
              have kq := MX.out.other ⟨BW, s, none⟩ (.int .u64 (t)) (by simp <;> omega); clear MX; have MX := Lib.hid kq; clear kq
              have kq := MY.out.other ⟨BW, s, none⟩ (.int .u64 (t)) (by simp <;> omega); clear MY; have MY := Lib.hid kq; clear kq
              replace HB := Lib.hid (HB.out.setCell (p := ⟨BW, s, none⟩) (show w.heap.size ≤ BW by omega) (.int .u64 (t)))
              obtain ⟨yw302, hwyw302⟩ : ∃ ww, ww = yw301.setCell ⟨BW, s, none⟩ (.int .u64 (t)) := ⟨_, rfl⟩
              rw [← hwyw302] at M6 MX MY MW HB ⊢
              clear hwyw302
              (try simp only [sI, sS, sZ])
              refine wpBut_done (by kernel_rfl) (NoPanic.normal ?_)
              clear hwik hwx hwy hwp hwt x0 x1 y0 y1 xy0 xy1 z0
              repeat ((fail_if_success (with_reducible (show wpList _ _ _ _ _ _))); go_step)
              iterate 2 (refine wpList_step (fun K hK => ?_); go_simp; (try go_bits); refine hK _ _ ?_; clear hK K)
              refine wpList_nil ?_
              go_roundw
              case measure => simp [intOf]; omega
              case rel => (repeat apply Exists.intro); exact ⟨⟨k + 1, h2, by omega, by go_num, Hbd2, Hs2, M6.out, MX.out, MY.out, MW.out, HB.out⟩, rfl⟩
            · have hk16 : k = 16 := by omega
              subst hk16
              clear hk hkge
              have Hs2 : RowKit.Hid (sumf 65536 h 34 = C + sumf 65536 (dg 65536 A) (i + 1) * B) := by
                refine Lib.hid ?_
                rw [Hs.out, HsB.out]
                show _ = (C : Int) + (sumf 65536 (dg 65536 A) i + dg 65536 A i * 65536 ^ i) * B
                rw [Int.add_mul]; omega
              have Hbd2 : RowKit.Hid (∀ j, j < 34 → 0 ≤ h j ∧ h j ≤ 65535 + 16 * ((i + 1 : Nat) : Int) * 4294836225) := Lib.hid (fun j hj => by have := Hbd.out j hj; omega)
              clear Hs Hbd
              repeat ((fail_if_success (with_reducible (show wpList _ _ _ _ _ _))); go_step)
              (refine wpList_step (fun K hK => ?_); go_simp; (try go_bits); refine hK _ _ ?_; clear hK K)
              refine wpList_nil ?_
              repeat ((fail_if_success (with_reducible (show wpList _ _ _ _ _ _))); go_step)
              iterate 2 (refine wpList_step (fun K hK => ?_); go_simp; (try go_bits); refine hK _ _ ?_; clear hK K)
              refine wpList_nil ?_
              go_roundw
              case measure => simp [intOf]; omega
              case rel => (repeat apply Exists.intro); exact ⟨⟨i + 1, h, by omega, by go_num, Hbd2, Hs2, M6.out, MX.out, MY.out, MW.out, HB.out⟩, rfl⟩
        · have hi16 : i = 16 := by omega
          subst hi16
          clear hi hige
          have hsum := Hs.out
          rw [HsA.out] at hsum
          obtain ⟨V, hVe⟩ : ∃ V, V = A * B + C := ⟨_, rfl⟩
          have hsV : sumf 65536 h 34 = (V : Int) := by rw [hsum, hVe]; push_cast; omega
          clear Hs hsum
          have HsV := Lib.hid hsV; clear hsV
          have HVe := Lib.hid hVe; clear hVe
          repeat ((fail_if_success (with_reducible (show wpList _ _ _ _ _ _))); go_step)
          (refine wpList_step (fun K hK => ?_); go_simp; (try go_bits); refine hK _ _ ?_; clear hK K)
          refine wpList_nil ?_
          repeat ((fail_if_success (with_reducible (show wpList _ _ _ _ _ _))); go_step)
          clear MX MY
          iterate 2 (refine wpList_step (fun K hK => ?_); go_simp; (try go_bits); refine hK _ _ ?_; clear hK K)
          have gO := MW.out.lt
          refine wpList_make (by rfl) 86 _ _ rfl _ _ rfl rfl _ _ (mkK34 _) 70 rfl ?_
          have hb := below_1 wr (.cells (row .u32 34 fun _ => 0) 91)
          have nwMO := Has.new wr (row .u32 34 fun _ => 0) 91
          obtain ⟨yw201, hwyw201⟩ : ∃ ww, ww = wr.alloc (.cells (row .u32 34 fun _ => 0) 91) := ⟨_, rfl⟩
          rw [← hwyw201] at hb nwMO ⊢
          clear hwyw201
          replace M6 := Lib.hid (M6.out.call hb)
          replace MW := Lib.hid (MW.out.call hb)
          replace HB := Lib.hid (held_next HB.out hb)
          clear hb
          have MO := Lib.hid nwMO; clear nwMO
          (try simp only [Act.put, sI, sS, sZ])
          (refine wpList_step (fun K hK => ?_); go_simp; (try go_bits); refine hK _ _ ?_; clear hK K)
          refine wpList_nil ?_
          obtain ⟨BO, hBO⟩ : ∃ B, B = wr.heap.size := ⟨_, rfl⟩
          rw [← hBO] at MO gO ⊢
          clear hBO
          repeat ((fail_if_success (with_reducible (show wpList _ _ _ _ _ _))); go_step)
          (refine wpList_step (fun K hK => ?_); go_simp; (try go_bits); refine hK _ _ ?_; clear hK K)
          refine wpList_nil ?_
          repeat ((fail_if_success (with_reducible (show wpList _ _ _ _ _ _))); go_step)
          iterate 3 (refine wpList_step (fun K hK => ?_); go_simp; (try go_bits); refine hK _ _ ?_; clear hK K)
          refine wpList_nil ?_
          repeat ((fail_if_success (with_reducible (show wpList _ _ _ _ _ _))); go_step)
          obtain ⟨w3, rfl⟩ : ∃ W, W = wr := ⟨_, rfl⟩
          go_loopw [73, 15] (fun i c wr => ∃ (k : Nat) (cc : Int) (o : Nat → Int), k ≤ 34 ∧ i = .int .i64 (k : Int) ∧ c = .int .u64 cc ∧ 0 ≤ cc ∧ cc ≤ 1099511627776 ∧ RowKit.Hid (∀ j, j < 34 → 0 ≤ o j ∧ o j < 65536) ∧ RowKit.Hid (sumf 65536 h k = cc * 65536 ^ k + sumf 65536 o k) ∧ HasN wr (w.heap.size + 1 + 1 + 1) 32 24 ∧ Has wr BW (row .u64 34 h) 34 ∧ Has wr BO (row .u32 34 o) 91 ∧ Below w.heap.size w wr) (fun i _ _ => (34 - (intOf i).toNat))
          case atStart => exact ⟨0, 0, fun _ => 0, by omega, rfl, rfl, by omega, by omega, Lib.hid (fun j _ => ⟨Int.le_refl 0, (by decide : (0 : Int) < 65536)⟩), Lib.hid (by show (0 : Int) = 0 * 65536 ^ 0 + 0; rfl), M6.out, MW.out, MO.out, HB.out⟩
          case round =>
            clear M6 MW MO HB
            obtain ⟨k, cc, o, hk, rfl, rfl, hcc0, hcc1, Hob, Hos, m6, mW, mO, hB⟩ := hrel
            have M6 := Lib.hid m6; clear m6
            have MW := Lib.hid mW; clear mW
            have MO := Lib.hid mO; clear mO
            have HB := Lib.hid hB; clear hB
            rcases Nat.lt_or_ge k 34 with hklt | hkge
            · have kq : (k : Int) < 34 := by omega
              obtain ⟨z0, z1⟩ := Hbd.out k hklt
              have hc1 := MW.out.cell k hklt
              obtain ⟨z, hz⟩ : ∃ z, z = h k := ⟨_, rfl⟩
              rw [← hz] at z0 z1 hc1
              obtain ⟨n, hn⟩ : ∃ n, n = z + cc := ⟨_, rfl⟩
              have hst := carry16 h o k cc n Hos.out (by rw [hn, hz])
              obtain ⟨N, hN⟩ := Int.eq_ofNat_of_zero_le (show 0 ≤ n by omega)
              have hz2 : z ≤ 2199023255552 := by omega
              clear z1
              have hN2 : N < 4398046511104 := by omega
              obtain ⟨r, hr⟩ : ∃ r, r = N % 65536 := ⟨_, rfl⟩
              obtain ⟨q, hq⟩ : ∃ q, q = N / 65536 := ⟨_, rfl⟩
              have hr2 : n % 65536 = (r : Int) := by omega
              have hq2 : n / 65536 = (q : Int) := by omega
              have lr : r < 65536 := by omega
              have lq : (q : Int) ≤ 1099511627776 := by omega
              rw [hr2, hq2] at hst
              obtain ⟨o2, ho2⟩ : ∃ g, g = upd o k (r : Int) := ⟨_, rfl⟩
              rw [← ho2] at hst
              have Hob2 : RowKit.Hid (∀ j, j < 34 → 0 ≤ o2 j ∧ o2 j < 65536) := by
                refine Lib.hid (fun j hj => ?_)
                rw [ho2]; unfold upd
                by_cases e : j = k
                · rw [if_pos e]; omega
                · rw [if_neg e]; exact Hob.out j hj
              have hc2 : (wr.cell? ⟨BO, k, none⟩) = some (.int .u32 (o k)) := MO.out.cell k hklt
              have hfz := MO.out.frozen k
              have hsN : z + cc = (N : Int) := by omega
              have hand : bits .and .u64 (N : Int) 65535 = (r : Int) := by
                have h := bits_mask .u64 64 (by decide) (fun n h0 h1 => by rw [IntKind.wrap_u64]; omega) 16 (by decide) (N : Int) (by omega) (by omega)
                rw [show ((2 : Int) ^ 16 - 1) = 65535 by decide] at h
                rw [h]; omega
              have hshr : (N : Int) / 65536 = (q : Int) := by omega
              have Hst := Lib.hid hst
              clear hz hn hst hN hr hq hr2 hq2 Hob Hos
              have Ho2 := Lib.hid ho2; clear ho2
              repeat ((fail_if_success (with_reducible (show wpList _ _ _ _ _ _))); go_step)
              (refine wpList_step (fun K hK => ?_); go_simp; (try go_bits); refine hK _ _ ?_; clear hK K)
              refine wpList_nil ?_
              repeat ((fail_if_success (with_reducible (show wpList _ _ _ _ _ _))); go_step)
              iterate 5 (refine wpList_step (fun K hK => ?_); go_simp; (try go_bits); refine hK _ _ ?_; clear hK K)
              refine wpList_nil ?_
              repeat ((fail_if_success (with_reducible (show wpList _ _ _ _ _ _))); go_step)
              iterate 4 (refine wpList_step (fun K hK => ?_); go_simp; (try go_bits); refine hK _ _ ?_; clear hK K)
              refine wpList_nil ?_
              repeat ((fail_if_success (with_reducible (show wpList _ _ _ _ _ _))); go_step)
              iterate 9 (refine wpList_step (fun K hK => ?_); go_simp; (try go_bits); refine hK _ _ ?_; clear hK K)
              
              have kq := MO.out.set (k) ((r : Int)); rw [← Ho2.out] at kq; clear MO; have MO := Lib.hid kq; clear kq
              have kq := M6.out.other ⟨BO, k, none⟩ (.int .u32 ((r : Int))) (by simp <;> omega); clear M6; have M6 := Lib.hid kq; clear kq
              have kq := MW.out.other ⟨BO, k, none⟩ (.int .u32 ((r : Int))) (by simp <;> omega); clear MW; have MW := Lib.hid kq; clear kq
              replace HB := Lib.hid (HB.out.setCell (p := ⟨BO, k, none⟩) (show w.heap.size ≤ BO by omega) (.int .u32 ((r : Int))))
              obtain ⟨yw501, hwyw501⟩ : ∃ ww, ww = wr.setCell ⟨BO, k, none⟩ (.int .u32 ((r : Int))) := ⟨_, rfl⟩
              rw [← hwyw501] at M6 MW MO HB ⊢
              clear hwyw501
              (refine wpList_step (fun K hK => ?_); go_simp; (try go_bits); refine hK _ _ ?_; clear hK K)
              refine wpList_nil ?_
              clear hc1 hc2 hfz hand hshr hsN
              repeat ((fail_if_success (with_reducible (show wpList _ _ _ _ _ _))); go_step)
              iterate 2 (refine wpList_step (fun K hK => ?_); go_simp; (try go_bits); refine hK _ _ ?_; clear hK K)
              refine wpList_nil ?_
              go_roundw
              case measure => simp [intOf]; omega
              case rel => (repeat apply Exists.intro); exact ⟨⟨k + 1, (q : Int), o2, by omega, by go_num, rfl, by omega, lq, Hob2, Hst, M6.out, MW.out, MO.out, HB.out⟩, rfl⟩
            · have hk34 : k = 34 := by omega
              subst hk34
              clear hk hkge
              have hrow := carried V h o cc hcc0 Hob.out (by rw [HVe.out]; exact HV.out) HsV.out Hos.out
              rw [hrow] at MO
              have hfg := Has.figs MO.out
              clear hrow Hob Hos Hbd HsV MW MO
              rw [← HVe.out] at Hdi
              have Hfg := Lib.hid hfg; clear hfg
              repeat ((fail_if_success (with_reducible (show wpList _ _ _ _ _ _))); go_step)
              (refine wpList_step (fun K hK => ?_); go_simp; (try go_bits); refine hK _ _ ?_; clear hK K)
              refine wpList_nil ?_
              repeat ((fail_if_success (with_reducible (show wpList _ _ _ _ _ _))); go_step)
              (refine wpList_step (fun K hK => ?_); go_simp; (try go_bits); refine hK _ _ ?_; clear hK K)
              refine wpList_call (by rfl) rfl rfl (by rfl) ent69 (by rfl) (Hdi.out BO _ Hfg.out) 91 rfl ?_
              rintro e uw501 ⟨rfl, hb⟩
              replace M6 := Lib.hid (M6.out.call hb)
              replace HB := Lib.hid (held_next HB.out hb)
              refine ⟨_, rfl, ?_⟩
              clear hb
              (try simp only [Act.put, sI, sS, sZ])
              first | (obtain ⟨Zq, hZ, mZ⟩ := M6.out) | (obtain ⟨Zq, hZ, mZ⟩ := M6.out.toN (k32_size ..))
              refine wpList_store2 (by rfl) 24 _ _ rfl rfl (w.heap.size + 1 + 1 + 1) (k32 (V % L0)) rfl rfl 24 Zq mZ (by rw [k32_size]; kernel_rfl) (hZ.trans (k32_size ..).symm) (row_one _ _ _) ?_
              intro yw501 hw2
              replace M6 := Lib.hid (mZ.setRow (k32 (V % L0)))
              replace HB := Lib.hid (below_setRow HB.out (w.heap.size + 1 + 1 + 1) (k32 (V % L0)) (by omega))
              rw [← hw2] at M6 HB; clear mZ hZ hw2
              refine wpList_nil ?_
              go_wp2_with fail
              exact bodyPost_ret (v := .agg (k32 (V % L0))) (results_cell_row (t := 24) (by rfl) _ _ (w.heap.size + 1 + 1 + 1) _ _ _ rfl M6.out Try.underlying24 rfl (by rw [k32_size]; kernel_rfl)) rfl ⟨by rw [HVe.out], HB.out⟩
end Go.Proofs.Ytjiagjonlcadiaa
end
section
namespace Go.Proofs.Ytjiagjonlcadiaa
open Go.RowKit Go.Lib

theorem mkL (w : World) : (Instr.makeSlice 88 (.int .i64 67) (.int .i64 67)).run Try.prog w = .ok (.slice (some ⟨w.heap.size, 0, none⟩) 67 67) (w.alloc (.cells (row .i64 67 fun _ => 0) 3)) := by
  obtain ⟨i0, hi, hz0, hz1, hz2⟩ := info_parts info3
  have h := run_makeSlice (P := Try.prog) w 88 3 i0 _ Try.underlying88 hi hz0 .i64 .i64 67 67 (by decide) (by decide) (by rw [hz1]; decide) (by rw [hz2]; decide) (by decide)
  rw [hz1] at h
  have e : madeCells (Value.int .i64 0).cells 67 = row .i64 67 fun _ => 0 := by
    apply Array.ext_getElem?
    intro j
    by_cases hj : j < 67
    · rw [row_get _ _ _ _ hj]; simp [madeCells, Value.cells, hj, Nat.mod_one]
    · rw [row_none _ _ _ _ hj]; simp [madeCells]; omega
  have h2 : madeCells (Value.int .i64 0).cells ((67 : Int).toNat * 1) = row .i64 67 fun _ => 0 := e
  rw [h2] at h
  exact h
theorem sumf_32 (n : Nat) (hn : n < 115792089237316195423570985008687907853269984665640564039457584007913129639936) : sumf 256 (dg 256 n) 32 = n := by
  have := sumf_dg 256 n 32
  rw [Nat.mod_eq_of_lt (by rw [p256_32]; exact hn)] at this
  exact this
theorem mul8 (x y : Int) (hx0 : 0 ≤ x) (hx : x < 256) (hy0 : 0 ≤ y) (hy : y < 256) : 0 ≤ x * y ∧ x * y ≤ 65025 :=
  ⟨Int.mul_nonneg hx0 hy0, by have := Int.mul_le_mul (show x ≤ 255 by omega) (show y ≤ 255 by omega) hy0 (by decide); omega⟩
/-- a carry leaves the number -/
theorem carry8 (h : Nat → Int) (i : Nat) (hi : i < 66) : sumf 256 (upd (upd h (i + 1) (h (i + 1) + h i / 256)) i (h i % 256)) 67 = sumf 256 h 67 := by
  rw [sumf_upd _ _ _ _ _ (by omega), sumf_upd _ _ _ _ _ (by omega), upd_ne _ _ _ _ (by omega), Int.pow_succ]
  have e : h i = 256 * (h i / 256) + h i % 256 := by omega
  generalize h i / 256 = q at *
  generalize h i % 256 = r at *
  rw [e]
  generalize (256 : Int) ^ i = P
  grind
/-- carried over: what the integers make are the number's bytes -/
theorem bytes67 (V : Nat) (h : Nat → Int) (hb : ∀ j, j < 66 → 0 ≤ h j ∧ h j < 256) (h66 : 0 ≤ h 66) (hV : V < 256 ^ 66) (hs : sumf 256 h 67 = V) : ∀ j, j < 67 → h j = dg 256 V j := by
  have h0 := sumf_nonneg 256 (by decide) h 66 (fun i hi => (hb i hi).1)
  have hp : ((256 : Int) ^ 66) = ((256 ^ 66 : Nat) : Int) := by rw [Int.natCast_pow]; rfl
  have hs2 : sumf 256 h 66 + h 66 * 256 ^ 66 = V := hs
  have hz : h 66 = 0 := by
    rcases Int.lt_or_le 0 (h 66) with h1 | h1
    · have h2 : 1 * (256 : Int) ^ 66 ≤ h 66 * 256 ^ 66 := Int.mul_le_mul_of_nonneg_right (by omega) (Int.le_of_lt (Int.pow_pos (by decide)))
      rw [hp] at h2 hs2
      generalize 256 ^ 66 = P at *
      omega
    · omega
  exact sumf_uniq 256 h V 67 (fun i hi => by
    by_cases e : i = 66
    · rw [e, hz]; exact ⟨Int.le_refl 0, (by decide : (0 : Int) < 256)⟩
    · exact hb i (by omega)) hs
theorem p256_66 : (256 : Nat) ^ 66 = 878694100496718043517683302282418331810487718418343092402491322775749527474899974671687634004666183037093927858109549828751614463963730408009475621262727315456 := by decide +kernel

set_option maxRecDepth 100000 in
set_option linter.unusedSimpArgs false in
set_option maxHeartbeats 8000000 in
theorem rtimes3_any (A B C : Nat) (hA : A < 115792089237316195423570985008687907853269984665640564039457584007913129639936) (hB : B < 115792089237316195423570985008687907853269984665640564039457584007913129639936) (hC : C < 115792089237316195423570985008687907853269984665640564039457584007913129639936) (w : World) :
    Calls Try.prog 27 #[.agg (k32 A), .agg (k32 B), .agg (k32 C)] w fun e w' => e = .returned (.agg (k32 ((A * B + C) % L0))) ∧ Below w.heap.size w w' := by
  have hsA := sumf_32 A hA
  have hsB := sumf_32 B hB
  have hsC := sumf_32 C hC
  have hV : A * B + C < 256 ^ 66 := by
    rw [p256_66]
    have h1 : A * B < 115792089237316195423570985008687907853269984665640564039457584007913129639936 * 115792089237316195423570985008687907853269984665640564039457584007913129639936 := Nat.mul_lt_mul'' hA hB
    omega
  have hre := fun a cap w h => rest_any a 67 cap (A * B + C) (by decide) (Nat.lt_of_lt_of_le hV (Nat.pow_le_pow_right (by decide) (by decide))) w h
  have hdA := fun j => dg8 A j
  have hdB := fun j => dg8 B j
  have hdC := fun j => dg8 C j
  have HsA := Lib.hid hsA; clear hsA
  have HsB := Lib.hid hsB; clear hsB
  have HsC := Lib.hid hsC; clear hsC
  have HV := Lib.hid hV; clear hV
  have Hre := Lib.hid hre; clear hre
  have HdA := Lib.hid hdA; clear hdA
  have HdB := Lib.hid hdB; clear hdB
  have HdC := Lib.hid hdC; clear hdC
  clear hA hB hC
  go_enter Try.func27, Try.ntmps27
  repeat ((fail_if_success (with_reducible (show wpList _ _ _ _ _ _))); go_step)
  iterate 4 (refine wpList_step (fun K hK => ?_); go_simp; (try go_bits); refine hK _ _ ?_; clear hK K)
  refine wpList_nil ?_
  have M3 := Lib.hid ((((Has.new w  (k32 A) 24).alloc (.cells (k32 B) 24)).alloc (.cells (k32 C) 24)).alloc (.cells (#[.int .u8 0, .int .u8 0, .int .u8 0, .int .u8 0, .int .u8 0, .int .u8 0, .int .u8 0, .int .u8 0, .int .u8 0, .int .u8 0, .int .u8 0, .int .u8 0, .int .u8 0, .int .u8 0, .int .u8 0, .int .u8 0, .int .u8 0, .int .u8 0, .int .u8 0, .int .u8 0, .int .u8 0, .int .u8 0, .int .u8 0, .int .u8 0, .int .u8 0, .int .u8 0, .int .u8 0, .int .u8 0, .int .u8 0, .int .u8 0, .int .u8 0, .int .u8 0] : Array Value) 24))
  have M4 := Lib.hid (((Has.new1 w (.cells (k32 A) 24) (k32 B) 24).alloc (.cells (k32 C) 24)).alloc (.cells (#[.int .u8 0, .int .u8 0, .int .u8 0, .int .u8 0, .int .u8 0, .int .u8 0, .int .u8 0, .int .u8 0, .int .u8 0, .int .u8 0, .int .u8 0, .int .u8 0, .int .u8 0, .int .u8 0, .int .u8 0, .int .u8 0, .int .u8 0, .int .u8 0, .int .u8 0, .int .u8 0, .int .u8 0, .int .u8 0, .int .u8 0, .int .u8 0, .int .u8 0, .int .u8 0, .int .u8 0, .int .u8 0, .int .u8 0, .int .u8 0, .int .u8 0, .int .u8 0] : Array Value) 24))
  have M5 := Lib.hid ((Has.new2 w (.cells (k32 A) 24) (.cells (k32 B) 24) (k32 C) 24).alloc (.cells (#[.int .u8 0, .int .u8 0, .int .u8 0, .int .u8 0, .int .u8 0, .int .u8 0, .int .u8 0, .int .u8 0, .int .u8 0, .int .u8 0, .int .u8 0, .int .u8 0, .int .u8 0, .int .u8 0, .int .u8 0, .int .u8 0, .int .u8 0, .int .u8 0, .int .u8 0, .int .u8 0, .int .u8 0, .int .u8 0, .int .u8 0, .int .u8 0, .int .u8 0, .int .u8 0, .int .u8 0, .int .u8 0, .int .u8 0, .int .u8 0, .int .u8 0, .int .u8 0] : Array Value) 24))
  have M6 := Lib.hid (HasN.new3 w (.cells (k32 A) 24) (.cells (k32 B) 24) (.cells (k32 C) 24) (#[.int .u8 0, .int .u8 0, .int .u8 0, .int .u8 0, .int .u8 0, .int .u8 0, .int .u8 0, .int .u8 0, .int .u8 0, .int .u8 0, .int .u8 0, .int .u8 0, .int .u8 0, .int .u8 0, .int .u8 0, .int .u8 0, .int .u8 0, .int .u8 0, .int .u8 0, .int .u8 0, .int .u8 0, .int .u8 0, .int .u8 0, .int .u8 0, .int .u8 0, .int .u8 0, .int .u8 0, .int .u8 0, .int .u8 0, .int .u8 0, .int .u8 0, .int .u8 0] : Array Value) 24 32 (by kernel_rfl))
  have HB := Lib.hid (below_4 w (.cells (k32 A) 24) (.cells (k32 B) 24) (.cells (k32 C) 24) (.cells (#[.int .u8 0, .int .u8 0, .int .u8 0, .int .u8 0, .int .u8 0, .int .u8 0, .int .u8 0, .int .u8 0, .int .u8 0, .int .u8 0, .int .u8 0, .int .u8 0, .int .u8 0, .int .u8 0, .int .u8 0, .int .u8 0, .int .u8 0, .int .u8 0, .int .u8 0, .int .u8 0, .int .u8 0, .int .u8 0, .int .u8 0, .int .u8 0, .int .u8 0, .int .u8 0, .int .u8 0, .int .u8 0, .int .u8 0, .int .u8 0, .int .u8 0, .int .u8 0] : Array Value) 24))
  obtain ⟨yw1, hwyw1⟩ : ∃ ww, ww = ((((w.alloc (.cells (k32 A) 24)).alloc (.cells (k32 B) 24)).alloc (.cells (k32 C) 24)).alloc (.cells (#[.int .u8 0, .int .u8 0, .int .u8 0, .int .u8 0, .int .u8 0, .int .u8 0, .int .u8 0, .int .u8 0, .int .u8 0, .int .u8 0, .int .u8 0, .int .u8 0, .int .u8 0, .int .u8 0, .int .u8 0, .int .u8 0, .int .u8 0, .int .u8 0, .int .u8 0, .int .u8 0, .int .u8 0, .int .u8 0, .int .u8 0, .int .u8 0, .int .u8 0, .int .u8 0, .int .u8 0, .int .u8 0, .int .u8 0, .int .u8 0, .int .u8 0, .int .u8 0] : Array Value) 24)) := ⟨_, rfl⟩
  rw [← hwyw1] at M3 M4 M5 M6 HB ⊢
  clear hwyw1
  repeat ((fail_if_success (with_reducible (show wpList _ _ _ _ _ _))); go_step)
  have gL := M6.out.lt
  refine wpList_make (by rfl) 88 _ _ rfl _ _ rfl rfl _ _ (mkL _) 11 rfl ?_
  have hb := below_1 yw1 (.cells (row .i64 67 fun _ => 0) 3)
  have nwML := Has.new yw1 (row .i64 67 fun _ => 0) 3
  obtain ⟨yw2, hwyw2⟩ : ∃ ww, ww = yw1.alloc (.cells (row .i64 67 fun _ => 0) 3) := ⟨_, rfl⟩
  rw [← hwyw2] at hb nwML ⊢
  clear hwyw2
  replace M3 := Lib.hid (M3.out.call hb)
  replace M4 := Lib.hid (M4.out.call hb)
  replace M5 := Lib.hid (M5.out.call hb)
  replace M6 := Lib.hid (M6.out.call hb)
  replace HB := Lib.hid (held_next HB.out hb)
  clear hb
  have ML := Lib.hid nwML; clear nwML
  (try simp only [Act.put, sI, sS, sZ])
  (refine wpList_step (fun K hK => ?_); go_simp; (try go_bits); refine hK _ _ ?_; clear hK K)
  refine wpList_nil ?_
  obtain ⟨BL, hBL⟩ : ∃ B, B = yw1.heap.size := ⟨_, rfl⟩
  rw [← hBL] at ML gL ⊢
  clear hBL
  repeat ((fail_if_success (with_reducible (show wpList _ _ _ _ _ _))); go_step)
  (refine wpList_step (fun K hK => ?_); go_simp; (try go_bits); refine hK _ _ ?_; clear hK K)
  refine wpList_nil ?_
  repeat ((fail_if_success (with_reducible (show wpList _ _ _ _ _ _))); go_step)
  go_loopw [8] (fun i wr => ∃ (k : Nat) (h : Nat → Int), k ≤ 32 ∧ i = .int .i64 (k : Int) ∧ RowKit.Hid (∀ j, j < 67 → 0 ≤ h j ∧ h j ≤ (k : Int) * 2081055) ∧ RowKit.Hid (sumf 256 h 67 = sumf 256 (dg 256 C) k + sumf 256 (dg 256 A) k * B) ∧ Has wr w.heap.size (k32 A) 24 ∧ Has wr (w.heap.size + 1) (k32 B) 24 ∧ Has wr (w.heap.size + 1 + 1) (k32 C) 24 ∧ HasN wr (w.heap.size + 1 + 1 + 1) 32 24 ∧ Has wr BL (row .i64 67 h) 3 ∧ Below w.heap.size w wr) (fun i _ => (32 - (intOf i).toNat))
  case atStart => exact ⟨0, fun _ => 0, by omega, rfl, Lib.hid (fun j _ => ⟨Int.le_refl 0, (by decide : (0 : Int) ≤ 0 * 2081055)⟩), Lib.hid (by rw [sumf_zero _ _ _ (fun _ _ => rfl)]; show (0 : Int) = 0 + 0 * B; omega), M3.out, M4.out, M5.out, M6.out, ML.out, HB.out⟩
  case round =>
    clear M3 M4 M5 M6 ML HB
    obtain ⟨i, h, hi, rfl, Hbd, Hs, m3, m4, m5, m6, mL, hB⟩ := hrel
    have M3 := Lib.hid m3; clear m3
    have M4 := Lib.hid m4; clear m4
    have M5 := Lib.hid m5; clear m5
    have M6 := Lib.hid m6; clear m6
    have ML := Lib.hid mL; clear mL
    have HB := Lib.hid hB; clear hB
    rcases Nat.lt_or_ge i 32 with hilt | hige
    · have iq : (i : Int) < 32 := by omega
      have iq2 : (i : Int) < 67 := by omega
      have hi67 : i < 67 := by omega
      obtain ⟨c0, c1⟩ := HdC.out i
      obtain ⟨c, hc⟩ : ∃ c, c = dg 256 C i := ⟨_, rfl⟩
      rw [← hc] at c0 c1
      obtain ⟨z0, z1⟩ := Hbd.out i hi67
      obtain ⟨z, hz⟩ : ∃ z, z = h i := ⟨_, rfl⟩
      rw [← hz] at z0 z1
      obtain ⟨t, ht⟩ : ∃ t, t = z + c := ⟨_, rfl⟩
      have hwi : IntKind.i64.wrap (i : Int) = (i : Int) := by rw [IntKind.wrap_i64]; omega
      have hwc : IntKind.i64.wrap c = c := by rw [IntKind.wrap_i64]; omega
      have hwt : IntKind.i64.wrap (z + c) = t := by rw [← ht, IntKind.wrap_i64]; omega
      obtain ⟨h2, hh2⟩ : ∃ g, g = upd h i t := ⟨_, rfl⟩
      have Hs2 : RowKit.Hid (sumf 256 h2 67 = sumf 256 (dg 256 C) (i + 1) + sumf 256 (dg 256 A) i * B) := by
        refine Lib.hid ?_
        rw [hh2, sumf_upd _ _ _ _ _ hi67, Hs.out]
        show _ = sumf 256 (dg 256 C) i + dg 256 C i * 256 ^ i + sumf 256 (dg 256 A) i * B
        rw [← hc, ← hz, ht]
        generalize (256 : Int) ^ i = P
        grind
      have Hbd2 : RowKit.Hid (∀ j, j < 67 → 0 ≤ h2 j ∧ h2 j ≤ (i : Int) * 2081055 + 255) := by
        refine Lib.hid (fun j hj => ?_)
        rw [hh2]; unfold upd
        by_cases e : j = i
        · rw [if_pos e]; omega
        · rw [if_neg e]; have := Hbd.out j hj; omega
      have Hc := Lib.hid hc
      have Hz := Lib.hid hz
      clear hc hz ht Hs Hbd z1
      have Hh2 := Lib.hid hh2; clear hh2
      repeat ((fail_if_success (with_reducible (show wpList _ _ _ _ _ _))); go_step)
      iterate 2 (refine wpList_step (fun K hK => ?_); go_simp; (try go_bits); refine hK _ _ ?_; clear hK K)
      refine wpList_nil ?_
      repeat ((fail_if_success (with_reducible (show wpList _ _ _ _ _ _))); go_step)
      refine wp_region_noPanic ?_
      refine wp_region_goS (fun w' => Has w' (BL) (row .i64 67 h) 3 ∧ Has w' (w.heap.size + 1 + 1) (k32 C) 24) 12 13 #[ff,ff,ff,ff,ff,ff,ff,ff,ff,ff,ff,ff,ff] (by kernel_rfl) rfl rfl ?_
      replace M3 := Lib.hid (M3.out.drew)
      replace M4 := Lib.hid (M4.out.drew)
      replace M5 := Lib.hid (M5.out.drew)
      replace M6 := Lib.hid (M6.out.drew)
      replace ML := Lib.hid (ML.out.drew)
      replace HB := Lib.hid (below_drewN HB.out 1)
      obtain ⟨yw101, hwyw101⟩ : ∃ ww, ww = wr.drew := ⟨_, rfl⟩
      rw [← hwyw101] at M3 M4 M5 M6 ML ⊢
      have kq : Below w.heap.size w yw101 := by rw [hwyw101]; exact HB.out
      clear HB; have HB := Lib.hid kq; clear kq hwyw101
      refine go_take2 0 16 #[tt,ff,ff,ff,ff,ff,ff,ff,ff,ff,ff,ff,ff] (v := ?uv1) rfl rfl rfl (by kernel_rfl) (Or.inl ⟨by rfl, ?uy1⟩) (⟨ML.out, M5.out⟩) ?urest1
      case uy1 => (intro _ _; go_simp; try with_reducible rfl)
      (try simp only [sI, sS, sZ])
      refine go_take2 1 17 #[tt,tt,ff,ff,ff,ff,ff,ff,ff,ff,ff,ff,ff] (v := ?uv2) rfl rfl rfl (by kernel_rfl) (Or.inl ⟨by rfl, ?uy2⟩) (⟨ML.out, M5.out⟩) ?urest2
      case uy2 => (intro _ _; go_simp; try with_reducible rfl)
      (try simp only [sI, sS, sZ])
      refine go_take2 2 18 #[tt,tt,tt,ff,ff,ff,ff,ff,ff,ff,ff,ff,ff] (v := ?uv3) rfl rfl rfl (by kernel_rfl) (Or.inl ⟨by rfl, ?uy3⟩) (⟨ML.out, M5.out⟩) ?urest3
      case uy3 => (intro _ _; go_simp; try with_reducible rfl)
      (try simp only [sI, sS, sZ])
      refine go_take2 3 19 #[tt,tt,tt,tt,ff,ff,ff,ff,ff,ff,ff,ff,ff] (v := ?uv4) rfl rfl rfl (by kernel_rfl) (Or.inl ⟨by rfl, ?uy4⟩) (⟨ML.out, M5.out⟩) ?urest4
      case uy4 => (intro _ _; go_simp; try with_reducible rfl)
      (try simp only [sI, sS, sZ])
      refine go_take2 4 20 #[tt,tt,tt,tt,tt,ff,ff,ff,ff,ff,ff,ff,ff] (v := ?uv5) rfl rfl rfl (by kernel_rfl) (Or.inl ⟨by rfl, ?uy5⟩) (⟨ML.out, M5.out⟩) ?urest5
      case uy5 => (intro _ _; go_simp; try with_reducible rfl)
      (try simp only [sI, sS, sZ])
      refine go_take2 5 21 #[tt,tt,tt,tt,tt,tt,ff,ff,ff,ff,ff,ff,ff] rfl rfl rfl (by kernel_rfl) (yieldsIf_loadc (by rfl) 3 _ rfl (BL) (i) rfl (.int .i64 z) _ (fun _ h => (by rw [Has.cell h.1 i hi67, Hz.out])) Try.underlying3 rfl) (⟨ML.out, M5.out⟩) ?_
      (try simp only [sI, sS, sZ])
      refine go_take2 6 22 #[tt,tt,tt,tt,tt,tt,tt,ff,ff,ff,ff,ff,ff] (v := ?uv6) rfl rfl rfl (by kernel_rfl) (Or.inl ⟨by rfl, ?uy6⟩) (⟨ML.out, M5.out⟩) ?urest6
      case uy6 => (intro _ _; go_simp; try with_reducible rfl)
      (try simp only [sI, sS, sZ])
      refine go_take2 7 23 #[tt,tt,tt,tt,tt,tt,tt,tt,ff,ff,ff,ff,ff] (v := ?uv7) rfl rfl rfl (by kernel_rfl) (Or.inl ⟨by rfl, ?uy7⟩) (⟨ML.out, M5.out⟩) ?urest7
      case uy7 => (intro _ _; go_simp; try with_reducible rfl)
      (try simp only [sI, sS, sZ])
      refine go_take2 8 24 #[tt,tt,tt,tt,tt,tt,tt,tt,tt,ff,ff,ff,ff] rfl rfl rfl (by kernel_rfl) (yieldsIf_loadc (by rfl) 5 _ rfl (w.heap.size + 1 + 1) (i) rfl (.int .u8 c) _ (fun _ h => (by rw [Has.cell h.2 i hilt, Hc.out])) Try.underlying5 rfl) (⟨ML.out, M5.out⟩) ?_
      (try simp only [sI, sS, sZ])
      refine go_take2 9 25 #[tt,tt,tt,tt,tt,tt,tt,tt,tt,tt,ff,ff,ff] (v := ?uv8) rfl rfl rfl (by kernel_rfl) (Or.inl ⟨by rfl, ?uy8⟩) (⟨ML.out, M5.out⟩) ?urest8
      case uy8 => (intro _ _; go_simp; try with_reducible rfl)
      (try simp only [sI, sS, sZ])
      refine go_take2 10 26 #[tt,tt,tt,tt,tt,tt,tt,tt,tt,tt,tt,ff,ff] (v := ?uv9) rfl rfl rfl (by kernel_rfl) (Or.inl ⟨by rfl, ?uy9⟩) (⟨ML.out, M5.out⟩) ?urest9
      case uy9 => (intro _ _; go_simp; try with_reducible rfl)
      (try simp only [sI, sS, sZ])
      refine go_take2 11 27 #[tt,tt,tt,tt,tt,tt,tt,tt,tt,tt,tt,tt,ff] (v := ?uv10) rfl rfl rfl (by kernel_rfl) (Or.inl ⟨by rfl, ?uy10⟩) (⟨ML.out, M5.out⟩) ?urest10
      case uy10 => (intro _ _; go_simp; try with_reducible rfl)
      (try simp only [sI, sS, sZ])
      refine wpBut_r1 (i := 12) (by kernel_rfl) ?_
      refine go_storec 12 #[tt,tt,tt,tt,tt,tt,tt,tt,tt,tt,tt,tt,tt] rfl rfl rfl (by rfl) 3 _ _ rfl (BL) (i) (.int .i64 (t)) rfl rfl (by rw [ML.out.cell i hi67]; rfl) (ML.out.frozen _) (by kernel_rfl) rfl rfl ⟨fun h => (h rfl).elim, ?_⟩
      have kq := ML.out.set (i) (t); rw [← Hh2.out] at kq; clear ML; have ML := Lib.hid kq; clear kq
      have kq := M3.out.other ⟨BL, i, none⟩ (.int .i64 (t)) (by simp <;> omega); clear M3; have M3 := Lib.hid kq; clear kq
      have kq := M4.out.other ⟨BL, i, none⟩ (.int .i64 (t)) (by simp <;> omega); clear M4; have M4 := Lib.hid kq; clear kq
      have kq := M5.out.other ⟨BL, i, none⟩ (.int .i64 (t)) (by simp <;> omega); clear M5; have M5 := Lib.hid kq; clear kq
      have kq := M6.out.other ⟨BL, i, none⟩ (.int .i64 (t)) (by simp <;> omega); clear M6; have M6 := Lib.hid kq; clear kq
      replace HB := Lib.hid (HB.out.setCell (p := ⟨BL, i, none⟩) (show w.heap.size ≤ BL by omega) (.int .i64 (t)))
      obtain ⟨yw102, hwyw102⟩ : ∃ ww, ww = yw101.setCell ⟨BL, i, none⟩ (.int .i64 (t)) := ⟨_, rfl⟩
      rw [← hwyw102] at M3 M4 M5 M6 ML HB ⊢
      clear hwyw102
      (try simp only [sI, sS, sZ])
      refine wpBut_done (by kernel_rfl) (NoPanic.normal ?_)
      clear hwi hwc hwt c0 c1 z0 Hz Hc Hh2
      repeat ((fail_if_success (with_reducible (show wpList _ _ _ _ _ _))); go_step)
      (refine wpList_step (fun K hK => ?_); go_simp; (try go_bits); refine hK _ _ ?_; clear hK K)
      refine wpList_nil ?_
      repeat ((fail_if_success (with_reducible (show wpList _ _ _ _ _ _))); go_step)
      go_loopw [9] (fun q wr => ∃ (k : Nat) (h : Nat → Int), k ≤ 32 ∧ q = .int .i64 (k : Int) ∧ RowKit.Hid (∀ j, j < 67 → 0 ≤ h j ∧ h j ≤ (i : Int) * 2081055 + 255 + (k : Int) * 65025) ∧ RowKit.Hid (sumf 256 h 67 = sumf 256 (dg 256 C) (i + 1) + sumf 256 (dg 256 A) i * B + dg 256 A i * 256 ^ i * sumf 256 (dg 256 B) k) ∧ Has wr w.heap.size (k32 A) 24 ∧ Has wr (w.heap.size + 1) (k32 B) 24 ∧ Has wr (w.heap.size + 1 + 1) (k32 C) 24 ∧ HasN wr (w.heap.size + 1 + 1 + 1) 32 24 ∧ Has wr BL (row .i64 67 h) 3 ∧ Below w.heap.size w wr) (fun q _ => (32 - (intOf q).toNat))
      case atStart => exact ⟨0, h2, by omega, rfl, Lib.hid (fun j hj => by have := Hbd2.out j hj; omega), Lib.hid (by rw [Hs2.out]; show _ = _ + dg 256 A i * 256 ^ i * 0; omega), M3.out, M4.out, M5.out, M6.out, ML.out, HB.out⟩
      case round =>
        clear M3 M4 M5 M6 ML HB
        clear Hbd2 Hs2
        obtain ⟨k, h, hk, rfl, Hbd, Hs, m3, m4, m5, m6, mL, hB⟩ := hrel
        have M3 := Lib.hid m3; clear m3
        have M4 := Lib.hid m4; clear m4
        have M5 := Lib.hid m5; clear m5
        have M6 := Lib.hid m6; clear m6
        have ML := Lib.hid mL; clear mL
        have HB := Lib.hid hB; clear hB
        rcases Nat.lt_or_ge k 32 with hklt | hkge
        · have kq : (k : Int) < 32 := by omega
          obtain ⟨x0, x1⟩ := HdA.out i
          obtain ⟨y0, y1⟩ := HdB.out k
          obtain ⟨x, hx⟩ : ∃ x, x = dg 256 A i := ⟨_, rfl⟩
          obtain ⟨y, hy⟩ : ∃ y, y = dg 256 B k := ⟨_, rfl⟩
          rw [← hx] at x0 x1
          rw [← hy] at y0 y1
          obtain ⟨xy0, xy1⟩ := mul8 x y x0 x1 y0 y1
          obtain ⟨p, hp⟩ : ∃ p, p = x * y := ⟨_, rfl⟩
          rw [← hp] at xy0 xy1
          obtain ⟨s, hs⟩ : ∃ s, s = i + k := ⟨_, rfl⟩
          have hs67 : s < 67 := by omega
          have sq : (s : Int) < 67 := by omega
          obtain ⟨z0, z1⟩ := Hbd.out s hs67
          obtain ⟨z, hz⟩ : ∃ z, z = h s := ⟨_, rfl⟩
          rw [← hz] at z0 z1
          obtain ⟨t, ht⟩ : ∃ t, t = z + p := ⟨_, rfl⟩
          have hwi : IntKind.i64.wrap (i : Int) = (i : Int) := by rw [IntKind.wrap_i64]; omega
          have hwk : IntKind.i64.wrap (k : Int) = (k : Int) := by rw [IntKind.wrap_i64]; omega
          have hwik : IntKind.i64.wrap ((i : Int) + (k : Int)) = (s : Int) := by rw [IntKind.wrap_i64]; omega
          have hwx : IntKind.i64.wrap x = x := by rw [IntKind.wrap_i64]; omega
          have hwy : IntKind.i64.wrap y = y := by rw [IntKind.wrap_i64]; omega
          have hwp : IntKind.i64.wrap (x * y) = p := by rw [← hp, IntKind.wrap_i64]; omega
          have hwt : IntKind.i64.wrap (z + p) = t := by rw [← ht, IntKind.wrap_i64]; omega
          obtain ⟨h2, hh2⟩ : ∃ g, g = upd h s t := ⟨_, rfl⟩
          have Hs2 : RowKit.Hid (sumf 256 h2 67 = sumf 256 (dg 256 C) (i + 1) + sumf 256 (dg 256 A) i * B + dg 256 A i * 256 ^ i * sumf 256 (dg 256 B) (k + 1)) := by
            refine Lib.hid ?_
            rw [hh2, sumf_upd _ _ _ _ _ hs67, Hs.out]
            show _ = _ + dg 256 A i * 256 ^ i * (sumf 256 (dg 256 B) k + dg 256 B k * 256 ^ k)
            rw [← hx, ← hy, ← hz, ht, hs, Int.pow_add, hp]
            generalize (256 : Int) ^ i = P
            generalize (256 : Int) ^ k = R
            grind
          have Hbd2 : RowKit.Hid (∀ j, j < 67 → 0 ≤ h2 j ∧ h2 j ≤ (i : Int) * 2081055 + 255 + ((k + 1 : Nat) : Int) * 65025) := by
            refine Lib.hid (fun j hj => ?_)
            rw [hh2]; unfold upd
            by_cases e : j = s
            · rw [if_pos e]; omega
            · rw [if_neg e]; have := Hbd.out j hj; omega
          have Hx := Lib.hid hx
          have Hy := Lib.hid hy
          have Hz := Lib.hid hz
          clear hx hy hz hp ht hs Hs Hbd z1
          have Hh2 := Lib.hid hh2; clear hh2
          repeat ((fail_if_success (with_reducible (show wpList _ _ _ _ _ _))); go_step)
          iterate 2 (refine wpList_step (fun K hK => ?_); go_simp; (try go_bits); refine hK _ _ ?_; clear hK K)
          refine wpList_nil ?_
          repeat ((fail_if_success (with_reducible (show wpList _ _ _ _ _ _))); go_step)
          refine wp_region_noPanic ?_
          refine wp_region_goS (fun w' => Has w' (BL) (row .i64 67 h) 3 ∧ Has w' (w.heap.size) (k32 A) 24 ∧ Has w' (w.heap.size + 1) (k32 B) 24) 21 22 #[ff,ff,ff,ff,ff,ff,ff,ff,ff,ff,ff,ff,ff,ff,ff,ff,ff,ff,ff,ff,ff,ff] (by kernel_rfl) rfl rfl ?_
          replace M3 := Lib.hid (M3.out.drew)
          replace M4 := Lib.hid (M4.out.drew)
          replace M5 := Lib.hid (M5.out.drew)
          replace M6 := Lib.hid (M6.out.drew)
          replace ML := Lib.hid (ML.out.drew)
          replace HB := Lib.hid (below_drewN HB.out 1)
          obtain ⟨yw301, hwyw301⟩ : ∃ ww, ww = wr.drew := ⟨_, rfl⟩
          rw [← hwyw301] at M3 M4 M5 M6 ML ⊢
          have kq : Below w.heap.size w yw301 := by rw [hwyw301]; exact HB.out
          clear HB; have HB := Lib.hid kq; clear kq hwyw301
          refine go_take2 0 32 #[tt,ff,ff,ff,ff,ff,ff,ff,ff,ff,ff,ff,ff,ff,ff,ff,ff,ff,ff,ff,ff,ff] (v := ?uv11) rfl rfl rfl (by kernel_rfl) (Or.inl ⟨by rfl, ?uy11⟩) (⟨ML.out, M3.out, M4.out⟩) ?urest11
          case uy11 => (intro _ _; go_simp; try with_reducible rfl)
          (try simp only [sI, sS, sZ])
          refine go_take2 1 33 #[tt,tt,ff,ff,ff,ff,ff,ff,ff,ff,ff,ff,ff,ff,ff,ff,ff,ff,ff,ff,ff,ff] (v := ?uv12) rfl rfl rfl (by kernel_rfl) (Or.inl ⟨by rfl, ?uy12⟩) (⟨ML.out, M3.out, M4.out⟩) ?urest12
          case uy12 => (intro _ _; go_simp; try with_reducible rfl)
          (try simp only [sI, sS, sZ])
          refine go_take2 2 34 #[tt,tt,tt,ff,ff,ff,ff,ff,ff,ff,ff,ff,ff,ff,ff,ff,ff,ff,ff,ff,ff,ff] (v := ?uv13) rfl rfl rfl (by kernel_rfl) (Or.inl ⟨by rfl, ?uy13⟩) (⟨ML.out, M3.out, M4.out⟩) ?urest13
          case uy13 => (intro _ _; go_simp; try with_reducible rfl)
          (try simp only [sI, sS, sZ])
          refine go_take2 3 35 #[tt,tt,tt,tt,ff,ff,ff,ff,ff,ff,ff,ff,ff,ff,ff,ff,ff,ff,ff,ff,ff,ff] (v := ?uv14) rfl rfl rfl (by kernel_rfl) (Or.inl ⟨by rfl, ?uy14⟩) (⟨ML.out, M3.out, M4.out⟩) ?urest14
          case uy14 => (intro _ _; go_simp; try with_reducible rfl)
          (try simp only [sI, sS, sZ])
          refine go_take2 4 36 #[tt,tt,tt,tt,tt,ff,ff,ff,ff,ff,ff,ff,ff,ff,ff,ff,ff,ff,ff,ff,ff,ff] (v := ?uv15) rfl rfl rfl (by kernel_rfl) (Or.inl ⟨by rfl, ?uy15⟩) (⟨ML.out, M3.out, M4.out⟩) ?urest15
          case uy15 => (intro _ _; go_simp; try with_reducible rfl)
          (try simp only [sI, sS, sZ])
          refine go_take2 5 37 #[tt,tt,tt,tt,tt,tt,ff,ff,ff,ff,ff,ff,ff,ff,ff,ff,ff,ff,ff,ff,ff,ff] (v := ?uv16) rfl rfl rfl (by kernel_rfl) (Or.inl ⟨by rfl, ?uy16⟩) (⟨ML.out, M3.out, M4.out⟩) ?urest16
          case uy16 => (intro _ _; go_simp; try with_reducible rfl)
          (try simp only [sI, sS, sZ])
          refine go_take2 6 38 #[tt,tt,tt,tt,tt,tt,tt,ff,ff,ff,ff,ff,ff,ff,ff,ff,ff,ff,ff,ff,ff,ff] (v := ?uv17) rfl rfl rfl (by kernel_rfl) (Or.inl ⟨by rfl, ?uy17⟩) (⟨ML.out, M3.out, M4.out⟩) ?urest17
          case uy17 => (intro _ _; go_simp; try with_reducible rfl)
          (try simp only [sI, sS, sZ])
          refine go_take2 7 39 #[tt,tt,tt,tt,tt,tt,tt,tt,ff,ff,ff,ff,ff,ff,ff,ff,ff,ff,ff,ff,ff,ff] (v := ?uv18) rfl rfl rfl (by kernel_rfl) (Or.inl ⟨by rfl, ?uy18⟩) (⟨ML.out, M3.out, M4.out⟩) ?urest18
          case uy18 => (intro _ _; go_simp; try with_reducible rfl)
          (try simp only [sI, sS, sZ])
          refine go_take2 8 40 #[tt,tt,tt,tt,tt,tt,tt,tt,tt,ff,ff,ff,ff,ff,ff,ff,ff,ff,ff,ff,ff,ff] (v := ?uv19) rfl rfl rfl (by kernel_rfl) (Or.inl ⟨by rfl, ?uy19⟩) (⟨ML.out, M3.out, M4.out⟩) ?urest19
          case uy19 => (intro _ _; go_simp; try with_reducible rfl)
          (try simp only [sI, sS, sZ])
          refine go_take2 9 41 #[tt,tt,tt,tt,tt,tt,tt,tt,tt,tt,ff,ff,ff,ff,ff,ff,ff,ff,ff,ff,ff,ff] rfl rfl rfl (by kernel_rfl) (yieldsIf_loadc (by rfl) 3 _ rfl (BL) (s) rfl (.int .i64 z) _ (fun _ h => (by rw [Has.cell h.1 s hs67, Hz.out])) Try.underlying3 rfl) (⟨ML.out, M3.out, M4.out⟩) ?_
          (try simp only [sI, sS, sZ])
          refine go_take2 10 42 #[tt,tt,tt,tt,tt,tt,tt,tt,tt,tt,tt,ff,ff,ff,ff,ff,ff,ff,ff,ff,ff,ff] (v := ?uv20) rfl rfl rfl (by kernel_rfl) (Or.inl ⟨by rfl, ?uy20⟩) (⟨ML.out, M3.out, M4.out⟩) ?urest20
          case uy20 => (intro _ _; go_simp; try with_reducible rfl)
          (try simp only [sI, sS, sZ])
          refine go_take2 11 43 #[tt,tt,tt,tt,tt,tt,tt,tt,tt,tt,tt,tt,ff,ff,ff,ff,ff,ff,ff,ff,ff,ff] (v := ?uv21) rfl rfl rfl (by kernel_rfl) (Or.inl ⟨by rfl, ?uy21⟩) (⟨ML.out, M3.out, M4.out⟩) ?urest21
          case uy21 => (intro _ _; go_simp; try with_reducible rfl)
          (try simp only [sI, sS, sZ])
          refine go_take2 12 44 #[tt,tt,tt,tt,tt,tt,tt,tt,tt,tt,tt,tt,tt,ff,ff,ff,ff,ff,ff,ff,ff,ff] rfl rfl rfl (by kernel_rfl) (yieldsIf_loadc (by rfl) 5 _ rfl (w.heap.size) (i) rfl (.int .u8 x) _ (fun _ h => (by rw [Has.cell h.2.1 i hilt, Hx.out])) Try.underlying5 rfl) (⟨ML.out, M3.out, M4.out⟩) ?_
          (try simp only [sI, sS, sZ])
          refine go_take2 13 45 #[tt,tt,tt,tt,tt,tt,tt,tt,tt,tt,tt,tt,tt,tt,ff,ff,ff,ff,ff,ff,ff,ff] (v := ?uv22) rfl rfl rfl (by kernel_rfl) (Or.inl ⟨by rfl, ?uy22⟩) (⟨ML.out, M3.out, M4.out⟩) ?urest22
          case uy22 => (intro _ _; go_simp; try with_reducible rfl)
          (try simp only [sI, sS, sZ])
          refine go_take2 14 46 #[tt,tt,tt,tt,tt,tt,tt,tt,tt,tt,tt,tt,tt,tt,tt,ff,ff,ff,ff,ff,ff,ff] (v := ?uv23) rfl rfl rfl (by kernel_rfl) (Or.inl ⟨by rfl, ?uy23⟩) (⟨ML.out, M3.out, M4.out⟩) ?urest23
          case uy23 => (intro _ _; go_simp; try with_reducible rfl)
          (try simp only [sI, sS, sZ])
          refine go_take2 15 47 #[tt,tt,tt,tt,tt,tt,tt,tt,tt,tt,tt,tt,tt,tt,tt,tt,ff,ff,ff,ff,ff,ff] (v := ?uv24) rfl rfl rfl (by kernel_rfl) (Or.inl ⟨by rfl, ?uy24⟩) (⟨ML.out, M3.out, M4.out⟩) ?urest24
          case uy24 => (intro _ _; go_simp; try with_reducible rfl)
          (try simp only [sI, sS, sZ])
          refine go_take2 16 48 #[tt,tt,tt,tt,tt,tt,tt,tt,tt,tt,tt,tt,tt,tt,tt,tt,tt,ff,ff,ff,ff,ff] rfl rfl rfl (by kernel_rfl) (yieldsIf_loadc (by rfl) 5 _ rfl (w.heap.size + 1) (k) rfl (.int .u8 y) _ (fun _ h => (by rw [Has.cell h.2.2 k hklt, Hy.out])) Try.underlying5 rfl) (⟨ML.out, M3.out, M4.out⟩) ?_
          (try simp only [sI, sS, sZ])
          refine go_take2 17 49 #[tt,tt,tt,tt,tt,tt,tt,tt,tt,tt,tt,tt,tt,tt,tt,tt,tt,tt,ff,ff,ff,ff] (v := ?uv25) rfl rfl rfl (by kernel_rfl) (Or.inl ⟨by rfl, ?uy25⟩) (⟨ML.out, M3.out, M4.out⟩) ?urest25
          case uy25 => (intro _ _; go_simp; try with_reducible rfl)
          (try simp only [sI, sS, sZ])
          refine go_take2 18 50 #[tt,tt,tt,tt,tt,tt,tt,tt,tt,tt,tt,tt,tt,tt,tt,tt,tt,tt,tt,ff,ff,ff] (v := ?uv26) rfl rfl rfl (by kernel_rfl) (Or.inl ⟨by rfl, ?uy26⟩) (⟨ML.out, M3.out, M4.out⟩) ?urest26
          case uy26 => (intro _ _; go_simp; try with_reducible rfl)
          (try simp only [sI, sS, sZ])
          refine go_take2 19 51 #[tt,tt,tt,tt,tt,tt,tt,tt,tt,tt,tt,tt,tt,tt,tt,tt,tt,tt,tt,tt,ff,ff] (v := ?uv27) rfl rfl rfl (by kernel_rfl) (Or.inl ⟨by rfl, ?uy27⟩) (⟨ML.out, M3.out, M4.out⟩) ?urest27
          case uy27 => (intro _ _; go_simp; try with_reducible rfl)
          (try simp only [sI, sS, sZ])
          refine go_take2 20 52 #[tt,tt,tt,tt,tt,tt,tt,tt,tt,tt,tt,tt,tt,tt,tt,tt,tt,tt,tt,tt,tt,ff] (v := ?uv28) rfl rfl rfl (by kernel_rfl) (Or.inl ⟨by rfl, ?uy28⟩) (⟨ML.out, M3.out, M4.out⟩) ?urest28
          case uy28 => (intro _ _; go_simp; try with_reducible rfl)
          (try simp only [sI, sS, sZ])
          refine wpBut_r1 (i := 21) (by kernel_rfl) ?_
          refine go_storec 21 #[tt,tt,tt,tt,tt,tt,tt,tt,tt,tt,tt,tt,tt,tt,tt,tt,tt,tt,tt,tt,tt,tt] rfl rfl rfl (by rfl) 3 _ _ rfl (BL) (s) (.int .i64 (t)) rfl rfl (by rw [ML.out.cell s hs67]; rfl) (ML.out.frozen _) (by kernel_rfl) rfl rfl ⟨fun h => (h rfl).elim, ?_⟩
          have kq := ML.out.set (s) (t); rw [← Hh2.out] at kq; clear ML; have ML := Lib.hid kq; clear kq
          have kq := M3.out.other ⟨BL, s, none⟩ (.int .i64 (t)) (by simp <;> omega); clear M3; have M3 := Lib.hid kq; clear kq
          have kq := M4.out.other ⟨BL, s, none⟩ (.int .i64 (t)) (by simp <;> omega); clear M4; have M4 := Lib.hid kq; clear kq
          have kq := M5.out.other ⟨BL, s, none⟩ (.int .i64 (t)) (by simp <;> omega); clear M5; have M5 := Lib.hid kq; clear kq
          have kq := M6.out.other ⟨BL, s, none⟩ (.int .i64 (t)) (by simp <;> omega); clear M6; have M6 := Lib.hid kq; clear kq
          replace HB := Lib.hid (HB.out.setCell (p := ⟨BL, s, none⟩) (show w.heap.size ≤ BL by omega) (.int .i64 (t)))
          obtain ⟨yw302, hwyw302⟩ : ∃ ww, ww = yw301.setCell ⟨BL, s, none⟩ (.int .i64 (t)) := ⟨_, rfl⟩
          rw [← hwyw302] at M3 M4 M5 M6 ML HB ⊢
          clear hwyw302
          (try simp only [sI, sS, sZ])
          refine wpBut_done (by kernel_rfl) (NoPanic.normal ?_)
          clear hwi hwk hwik hwx hwy hwp hwt x0 x1 y0 y1 xy0 xy1 z0
          repeat ((fail_if_success (with_reducible (show wpList _ _ _ _ _ _))); go_step)
          iterate 3 (refine wpList_step (fun K hK => ?_); go_simp; (try go_bits); refine hK _ _ ?_; clear hK K)
          refine wpList_nil ?_
          go_roundw
          case measure => simp [intOf]; omega
          case rel => (repeat apply Exists.intro); exact ⟨⟨k + 1, h2, by omega, by go_num, Hbd2, Hs2, M3.out, M4.out, M5.out, M6.out, ML.out, HB.out⟩, rfl⟩
        · have hk32 : k = 32 := by omega
          subst hk32
          clear hk hkge
          have Hs2 : RowKit.Hid (sumf 256 h 67 = sumf 256 (dg 256 C) (i + 1) + sumf 256 (dg 256 A) (i + 1) * B) := by
            refine Lib.hid ?_
            rw [Hs.out, HsB.out]
            show _ = _ + (sumf 256 (dg 256 A) i + dg 256 A i * 256 ^ i) * B
            rw [Int.add_mul]; omega
          have Hbd2 : RowKit.Hid (∀ j, j < 67 → 0 ≤ h j ∧ h j ≤ ((i + 1 : Nat) : Int) * 2081055) := Lib.hid (fun j hj => by have := Hbd.out j hj; omega)
          clear Hs Hbd
          repeat ((fail_if_success (with_reducible (show wpList _ _ _ _ _ _))); go_step)
          iterate 2 (refine wpList_step (fun K hK => ?_); go_simp; (try go_bits); refine hK _ _ ?_; clear hK K)
          refine wpList_nil ?_
          repeat ((fail_if_success (with_reducible (show wpList _ _ _ _ _ _))); go_step)
          iterate 3 (refine wpList_step (fun K hK => ?_); go_simp; (try go_bits); refine hK _ _ ?_; clear hK K)
          refine wpList_nil ?_
          go_roundw
          case measure => simp [intOf]; omega
          case rel => (repeat apply Exists.intro); exact ⟨⟨i + 1, h, by omega, by go_num, Hbd2, Hs2, M3.out, M4.out, M5.out, M6.out, ML.out, HB.out⟩, rfl⟩
    · have hi32 : i = 32 := by omega
      subst hi32
      clear hi hige
      have hsum := Hs.out
      rw [HsA.out, HsC.out] at hsum
      obtain ⟨V, hVe⟩ : ∃ V, V = A * B + C := ⟨_, rfl⟩
      have Hs2 : RowKit.Hid (sumf 256 h 67 = (V : Int)) := Lib.hid (by rw [hsum, hVe]; push_cast; omega)
      have Hbd2 : RowKit.Hid (∀ j, j < 67 → 0 ≤ h j ∧ h j ≤ 70000000) := Lib.hid (fun j hj => by have := Hbd.out j hj; omega)
      clear Hs hsum Hbd M3 M4 M5
      rw [← hVe] at HV Hre
      have HVe := Lib.hid hVe; clear hVe
      repeat ((fail_if_success (with_reducible (show wpList _ _ _ _ _ _))); go_step)
      iterate 2 (refine wpList_step (fun K hK => ?_); go_simp; (try go_bits); refine hK _ _ ?_; clear hK K)
      refine wpList_nil ?_
      repeat ((fail_if_success (with_reducible (show wpList _ _ _ _ _ _))); go_step)
      (refine wpList_step (fun K hK => ?_); go_simp; (try go_bits); refine hK _ _ ?_; clear hK K)
      refine wpList_nil ?_
      repeat ((fail_if_success (with_reducible (show wpList _ _ _ _ _ _))); go_step)
      obtain ⟨w2, rfl⟩ : ∃ W, W = wr := ⟨_, rfl⟩
      go_loopw [10] (fun q wr => ∃ (k : Nat) (h : Nat → Int), k ≤ 66 ∧ q = .int .i64 (k : Int) ∧ RowKit.Hid (∀ j, j < k → 0 ≤ h j ∧ h j < 256) ∧ RowKit.Hid (∀ j, k ≤ j → j < 67 → 0 ≤ h j ∧ h j ≤ if j = k then 80000000 else 70000000) ∧ RowKit.Hid (sumf 256 h 67 = (V : Int)) ∧ HasN wr (w.heap.size + 1 + 1 + 1) 32 24 ∧ Has wr BL (row .i64 67 h) 3 ∧ Below w.heap.size w wr) (fun q _ => (66 - (intOf q).toNat))
      case atStart => exact ⟨0, h, by omega, rfl, Lib.hid (fun j hj => by omega), Lib.hid (fun j _ hj => by have := Hbd2.out j hj; split <;> omega), Hs2, M6.out, ML.out, HB.out⟩
      case round =>
        clear M6 ML HB Hbd2 Hs2
        obtain ⟨k, h, hk, rfl, Hlo, Hhi, Hs, m6, mL, hB⟩ := hrel
        have M6 := Lib.hid m6; clear m6
        have ML := Lib.hid mL; clear mL
        have HB := Lib.hid hB; clear hB
        rcases Nat.lt_or_ge k 66 with hklt | hkge
        · have kq : (k : Int) < 66 := by omega
          have kq2 : (k : Int) < 67 := by omega
          have kq3 : (k : Int) + 1 < 67 := by omega
          have hk67 : k < 67 := by omega
          have hk167 : k + 1 < 67 := by omega
          obtain ⟨x0, x1⟩ := Hhi.out k (Nat.le_refl _) hk67
          rw [if_pos rfl] at x1
          obtain ⟨y0, y1⟩ := Hhi.out (k + 1) (by omega) hk167
          rw [if_neg (by omega)] at y1
          have hcs := carry8 h k hklt
          rw [Hs.out] at hcs
          obtain ⟨x, hx⟩ : ∃ x, x = h k := ⟨_, rfl⟩
          obtain ⟨y, hy⟩ : ∃ y, y = h (k + 1) := ⟨_, rfl⟩
          rw [← hx] at x0 x1 hcs
          rw [← hy] at y0 y1 hcs
          obtain ⟨q, hq⟩ : ∃ q, q = x / 256 := ⟨_, rfl⟩
          obtain ⟨r, hr⟩ : ∃ r, r = x % 256 := ⟨_, rfl⟩
          obtain ⟨t, ht⟩ : ∃ t, t = y + q := ⟨_, rfl⟩
          rw [← hq, ← hr, ← ht] at hcs
          have q0 : 0 ≤ q := by omega
          have q1 : q ≤ 312500 := by omega
          obtain ⟨h1, hh1⟩ : ∃ g, g = upd h (k + 1) t := ⟨_, rfl⟩
          obtain ⟨h2, hh2⟩ : ∃ g, g = upd h1 k r := ⟨_, rfl⟩
          rw [← hh1, ← hh2] at hcs
          have hwk : IntKind.i64.wrap (k : Int) = (k : Int) := by rw [IntKind.wrap_i64]; omega
          obtain ⟨s, hs⟩ : ∃ s, s = k + 1 := ⟨_, rfl⟩
          have hs67 : s < 67 := by omega
          have sq : (s : Int) < 67 := by omega
          have hwk1 : IntKind.i64.wrap ((k : Int) + 1) = (s : Int) := by rw [IntKind.wrap_i64]; omega
          have hqd : x.tdiv 256 = q := by rw [Int.tdiv_eq_ediv_of_nonneg x0, hq]
          have hqd2 : IntKind.i64.wrap q = q := by rw [IntKind.wrap_i64]; omega
          have hwt : IntKind.i64.wrap (y + q) = t := by rw [← ht, IntKind.wrap_i64]; omega
          have hxh1 : h1 k = x := by rw [hh1, upd_ne _ _ _ _ (by omega), hx]
          have Hlo2 : RowKit.Hid (∀ j, j < k + 1 → 0 ≤ h2 j ∧ h2 j < 256) := by
            refine Lib.hid (fun j hj => ?_)
            rw [hh2]
            by_cases e : j = k
            · subst e; rw [upd_same]; omega
            · rw [upd_ne _ _ _ _ e, hh1, upd_ne _ _ _ _ (by omega)]; exact Hlo.out j (by omega)
          have Hhi2 : RowKit.Hid (∀ j, k + 1 ≤ j → j < 67 → 0 ≤ h2 j ∧ h2 j ≤ if j = k + 1 then 80000000 else 70000000) := by
            refine Lib.hid (fun j hj1 hj2 => ?_)
            rw [hh2, upd_ne _ _ _ _ (by omega), hh1]
            by_cases e : j = k + 1
            · subst e; rw [upd_same, if_pos rfl]; omega
            · rw [upd_ne _ _ _ _ e, if_neg e]
              have := Hhi.out j (by omega) hj2
              rwa [if_neg (by omega)] at this
          have Hcs := Lib.hid hcs
          have Hx := Lib.hid hx
          have Hy := Lib.hid (show h s = y by rw [hs, hy])
          have Hh1 := Lib.hid (show h1 = upd h s t by rw [hs, hh1])
          have Hr := Lib.hid hr
          have Hs1 := Lib.hid hs
          clear hx hy hq hr ht hh1 hcs Hlo Hhi Hs hs x1 y1
          have Hh2 := Lib.hid hh2; clear hh2
          have Hxh1 := Lib.hid hxh1; clear hxh1
          repeat ((fail_if_success (with_reducible (show wpList _ _ _ _ _ _))); go_step)
          iterate 2 (refine wpList_step (fun K hK => ?_); go_simp; (try go_bits); refine hK _ _ ?_; clear hK K)
          refine wpList_nil ?_
          repeat ((fail_if_success (with_reducible (show wpList _ _ _ _ _ _))); go_step)
          refine wp_region_noPanic ?_
          refine wp_region_goS (fun w' => Has w' (BL) (row .i64 67 h) 3) 15 16 #[ff,ff,ff,ff,ff,ff,ff,ff,ff,ff,ff,ff,ff,ff,ff,ff] (by kernel_rfl) rfl rfl ?_
          replace M6 := Lib.hid (M6.out.drew)
          replace ML := Lib.hid (ML.out.drew)
          replace HB := Lib.hid (below_drewN HB.out 1)
          obtain ⟨yw501, hwyw501⟩ : ∃ ww, ww = wr.drew := ⟨_, rfl⟩
          rw [← hwyw501] at M6 ML ⊢
          have kq : Below w.heap.size w yw501 := by rw [hwyw501]; exact HB.out
          clear HB; have HB := Lib.hid kq; clear kq hwyw501
          refine go_take2 0 57 #[tt,ff,ff,ff,ff,ff,ff,ff,ff,ff,ff,ff,ff,ff,ff,ff] (v := ?uv29) rfl rfl rfl (by kernel_rfl) (Or.inl ⟨by rfl, ?uy29⟩) (ML.out) ?urest29
          case uy29 => (intro _ _; go_simp; try with_reducible rfl)
          (try simp only [sI, sS, sZ])
          refine go_take2 1 58 #[tt,tt,ff,ff,ff,ff,ff,ff,ff,ff,ff,ff,ff,ff,ff,ff] (v := ?uv30) rfl rfl rfl (by kernel_rfl) (Or.inl ⟨by rfl, ?uy30⟩) (ML.out) ?urest30
          case uy30 => (intro _ _; go_simp; try with_reducible rfl)
          (try simp only [sI, sS, sZ])
          refine go_take2 2 59 #[tt,tt,tt,ff,ff,ff,ff,ff,ff,ff,ff,ff,ff,ff,ff,ff] (v := ?uv31) rfl rfl rfl (by kernel_rfl) (Or.inl ⟨by rfl, ?uy31⟩) (ML.out) ?urest31
          case uy31 => (intro _ _; go_simp; try with_reducible rfl)
          (try simp only [sI, sS, sZ])
          refine go_take2 3 60 #[tt,tt,tt,tt,ff,ff,ff,ff,ff,ff,ff,ff,ff,ff,ff,ff] (v := ?uv32) rfl rfl rfl (by kernel_rfl) (Or.inl ⟨by rfl, ?uy32⟩) (ML.out) ?urest32
          case uy32 => (intro _ _; go_simp; try with_reducible rfl)
          (try simp only [sI, sS, sZ])
          refine go_take2 4 61 #[tt,tt,tt,tt,tt,ff,ff,ff,ff,ff,ff,ff,ff,ff,ff,ff] (v := ?uv33) rfl rfl rfl (by kernel_rfl) (Or.inl ⟨by rfl, ?uy33⟩) (ML.out) ?urest33
          case uy33 => (intro _ _; go_simp; try with_reducible rfl)
          (try simp only [sI, sS, sZ])
          refine go_take2 5 62 #[tt,tt,tt,tt,tt,tt,ff,ff,ff,ff,ff,ff,ff,ff,ff,ff] (v := ?uv34) rfl rfl rfl (by kernel_rfl) (Or.inl ⟨by rfl, ?uy34⟩) (ML.out) ?urest34
          case uy34 => (intro _ _; go_simp; try with_reducible rfl)
          (try simp only [sI, sS, sZ])
          refine go_take2 6 63 #[tt,tt,tt,tt,tt,tt,tt,ff,ff,ff,ff,ff,ff,ff,ff,ff] (v := ?uv35) rfl rfl rfl (by kernel_rfl) (Or.inl ⟨by rfl, ?uy35⟩) (ML.out) ?urest35
          case uy35 => (intro _ _; go_simp; try with_reducible rfl)
          (try simp only [sI, sS, sZ])
          refine go_take2 7 64 #[tt,tt,tt,tt,tt,tt,tt,tt,ff,ff,ff,ff,ff,ff,ff,ff] rfl rfl rfl (by kernel_rfl) (yieldsIf_loadc (by rfl) 3 _ rfl (BL) (s) rfl (.int .i64 y) _ (fun _ h => (by rw [Has.cell h s hs67, Hy.out])) Try.underlying3 rfl) (ML.out) ?_
          (try simp only [sI, sS, sZ])
          refine go_take2 8 65 #[tt,tt,tt,tt,tt,tt,tt,tt,tt,ff,ff,ff,ff,ff,ff,ff] (v := ?uv36) rfl rfl rfl (by kernel_rfl) (Or.inl ⟨by rfl, ?uy36⟩) (ML.out) ?urest36
          case uy36 => (intro _ _; go_simp; try with_reducible rfl)
          (try simp only [sI, sS, sZ])
          refine go_take2 9 66 #[tt,tt,tt,tt,tt,tt,tt,tt,tt,tt,ff,ff,ff,ff,ff,ff] (v := ?uv37) rfl rfl rfl (by kernel_rfl) (Or.inl ⟨by rfl, ?uy37⟩) (ML.out) ?urest37
          case uy37 => (intro _ _; go_simp; try with_reducible rfl)
          (try simp only [sI, sS, sZ])
          refine go_take2 10 67 #[tt,tt,tt,tt,tt,tt,tt,tt,tt,tt,tt,ff,ff,ff,ff,ff] (v := ?uv38) rfl rfl rfl (by kernel_rfl) (Or.inl ⟨by rfl, ?uy38⟩) (ML.out) ?urest38
          case uy38 => (intro _ _; go_simp; try with_reducible rfl)
          (try simp only [sI, sS, sZ])
          refine go_take2 11 68 #[tt,tt,tt,tt,tt,tt,tt,tt,tt,tt,tt,tt,ff,ff,ff,ff] rfl rfl rfl (by kernel_rfl) (yieldsIf_loadc (by rfl) 3 _ rfl (BL) (k) rfl (.int .i64 x) _ (fun _ h => (by rw [Has.cell h k hk67, Hx.out])) Try.underlying3 rfl) (ML.out) ?_
          (try simp only [sI, sS, sZ])
          refine go_take2 12 69 #[tt,tt,tt,tt,tt,tt,tt,tt,tt,tt,tt,tt,tt,ff,ff,ff] (v := ?uv39) rfl rfl rfl (by kernel_rfl) (Or.inl ⟨by rfl, ?uy39⟩) (ML.out) ?urest39
          case uy39 => (intro _ _; go_simp; try with_reducible rfl)
          (try simp only [sI, sS, sZ])
          refine go_take2 13 70 #[tt,tt,tt,tt,tt,tt,tt,tt,tt,tt,tt,tt,tt,tt,ff,ff] (v := ?uv40) rfl rfl rfl (by kernel_rfl) (Or.inl ⟨by rfl, ?uy40⟩) (ML.out) ?urest40
          case uy40 => (intro _ _; go_simp; try with_reducible rfl)
          (try simp only [sI, sS, sZ])
          refine go_take2 14 71 #[tt,tt,tt,tt,tt,tt,tt,tt,tt,tt,tt,tt,tt,tt,tt,ff] (v := ?uv41) rfl rfl rfl (by kernel_rfl) (Or.inl ⟨by rfl, ?uy41⟩) (ML.out) ?urest41
          case uy41 => (intro _ _; go_simp; try with_reducible rfl)
          (try simp only [sI, sS, sZ])
          refine wpBut_r1 (i := 15) (by kernel_rfl) ?_
          refine go_storec 15 #[tt,tt,tt,tt,tt,tt,tt,tt,tt,tt,tt,tt,tt,tt,tt,tt] rfl rfl rfl (by rfl) 3 _ _ rfl (BL) (s) (.int .i64 (t)) rfl rfl (by rw [ML.out.cell s hs67]; rfl) (ML.out.frozen _) (by kernel_rfl) rfl rfl ⟨fun h => (h rfl).elim, ?_⟩
          have kq := ML.out.set (s) (t); rw [← Hh1.out] at kq; clear ML; have ML := Lib.hid kq; clear kq
          have kq := M6.out.other ⟨BL, s, none⟩ (.int .i64 (t)) (by simp <;> omega); clear M6; have M6 := Lib.hid kq; clear kq
          replace HB := Lib.hid (HB.out.setCell (p := ⟨BL, s, none⟩) (show w.heap.size ≤ BL by omega) (.int .i64 (t)))
          obtain ⟨yw502, hwyw502⟩ : ∃ ww, ww = yw501.setCell ⟨BL, s, none⟩ (.int .i64 (t)) := ⟨_, rfl⟩
          rw [← hwyw502] at M6 ML HB ⊢
          clear hwyw502
          (try simp only [sI, sS, sZ])
          refine wpBut_done (by kernel_rfl) (NoPanic.normal ?_)
          clear hwk hwk1 hqd hqd2 hwt y0 q0 q1
          have hc1 : (yw502).cell? ⟨BL, k, none⟩ = some (.int .i64 x) := by rw [ML.out.cell k hk67, Hxh1.out]
          have hfz := ML.out.frozen k
          have hmd : x % 256 = r := Hr.out.symm
          have hmd2 : x.tmod 256 = r := by rw [Int.tmod_eq_emod_of_nonneg x0, Hr.out]
          repeat ((fail_if_success (with_reducible (show wpList _ _ _ _ _ _))); go_step)
          iterate 9 (refine wpList_step (fun K hK => ?_); go_simp; (try go_bits); refine hK _ _ ?_; clear hK K)
          
          have kq := ML.out.set (k) (r); rw [← Hh2.out] at kq; clear ML; have ML := Lib.hid kq; clear kq
          have kq := M6.out.other ⟨BL, k, none⟩ (.int .i64 (r)) (by simp <;> omega); clear M6; have M6 := Lib.hid kq; clear kq
          replace HB := Lib.hid (HB.out.setCell (p := ⟨BL, k, none⟩) (show w.heap.size ≤ BL by omega) (.int .i64 (r)))
          obtain ⟨yw503, hwyw503⟩ : ∃ ww, ww = yw502.setCell ⟨BL, k, none⟩ (.int .i64 (r)) := ⟨_, rfl⟩
          rw [← hwyw503] at M6 ML HB ⊢
          clear hwyw503
          refine wpList_nil ?_
          clear hc1 hfz hmd hmd2 x0
          repeat ((fail_if_success (with_reducible (show wpList _ _ _ _ _ _))); go_step)
          iterate 3 (refine wpList_step (fun K hK => ?_); go_simp; (try go_bits); refine hK _ _ ?_; clear hK K)
          refine wpList_nil ?_
          go_roundw
          case measure => simp [intOf]; omega
          case rel => (repeat apply Exists.intro); exact ⟨⟨k + 1, h2, by omega, by go_num, Hlo2, Hhi2, Hcs, M6.out, ML.out, HB.out⟩, rfl⟩
        · have hk66 : k = 66 := by omega
          subst hk66
          clear hk hkge
          have hby := bytes67 V h Hlo.out (by have := Hhi.out 66 (Nat.le_refl _) (by decide); exact this.1) HV.out Hs.out
          have hin : Ints wr BL 67 (dg 256 V) := ⟨ML.out.lt, fun j hj => by rw [ML.out.cell j hj, hby j hj]⟩
          clear hby Hlo Hhi Hs ML
          have Hin := Lib.hid hin; clear hin
          repeat ((fail_if_success (with_reducible (show wpList _ _ _ _ _ _))); go_step)
          iterate 2 (refine wpList_step (fun K hK => ?_); go_simp; (try go_bits); refine hK _ _ ?_; clear hK K)
          refine wpList_nil ?_
          repeat ((fail_if_success (with_reducible (show wpList _ _ _ _ _ _))); go_step)
          (refine wpList_step (fun K hK => ?_); go_simp; (try go_bits); refine hK _ _ ?_; clear hK K)
          refine wpList_call (by rfl) rfl rfl (by rfl) ent71 (by rfl) (Hre.out (some ⟨BL, 0, none⟩) 67 _ (.inr ⟨BL, rfl, Hin.out⟩)) 81 rfl ?_
          rintro e uw501 ⟨rfl, hb⟩
          replace M6 := Lib.hid (M6.out.call hb)
          replace HB := Lib.hid (held_next HB.out hb)
          refine ⟨_, rfl, ?_⟩
          clear hb
          (try simp only [Act.put, sI, sS, sZ])
          first | (obtain ⟨Zq, hZ, mZ⟩ := M6.out) | (obtain ⟨Zq, hZ, mZ⟩ := M6.out.toN (k32_size ..))
          refine wpList_store2 (by rfl) 24 _ _ rfl rfl (w.heap.size + 1 + 1 + 1) (k32 (V % L0)) rfl rfl 24 Zq mZ (by rw [k32_size]; kernel_rfl) (hZ.trans (k32_size ..).symm) (row_one _ _ _) ?_
          intro yw501 hw2
          replace M6 := Lib.hid (mZ.setRow (k32 (V % L0)))
          replace HB := Lib.hid (below_setRow HB.out (w.heap.size + 1 + 1 + 1) (k32 (V % L0)) (by omega))
          rw [← hw2] at M6 HB; clear mZ hZ hw2
          refine wpList_nil ?_
          go_wp2_with fail
          exact bodyPost_ret (v := .agg (k32 (V % L0))) (results_cell_row (t := 24) (by rfl) _ _ (w.heap.size + 1 + 1 + 1) _ _ _ rfl M6.out Try.underlying24 rfl (by rw [k32_size]; kernel_rfl)) rfl ⟨by rw [HVe.out], HB.out⟩
end Go.Proofs.Ytjiagjonlcadiaa
end
section
namespace Go.Proofs.Ytjiagjonlcadiaa
open Go.RowKit Go.Lib

theorem k17 : (3 * 4 + 5) % L0 = 17 := by decide +kernel
theorem ent26 : _root_.Go.Enters Try.prog 26 := ⟨_, Try.func26, by kernel_rfl, by kernel_rfl⟩
theorem ent27 : _root_.Go.Enters Try.prog 27 := ⟨_, Try.func27, by kernel_rfl, by kernel_rfl⟩
theorem bd24_3 : Try.prog.built 24 [(0, .int .u8 3)] = some (k32 3) := by kernel_rfl
theorem bd24_4 : Try.prog.built 24 [(0, .int .u8 4)] = some (k32 4) := by kernel_rfl
theorem bd24_17 : Try.prog.built 24 [(0, .int .u8 17)] = some (k32 17) := by kernel_rfl
theorem least_same (n : Nat) : decide (n % L0 = n) = decide (n < L0) := by
  by_cases h : n < L0
  · rw [decide_eq_true h, decide_eq_true (Nat.mod_eq_of_lt h)]
  · rw [decide_eq_false h, decide_eq_false (fun e => h (by have := Nat.mod_lt n (show 0 < L0 by decide); rw [e] at this; exact this))]
set_option maxRecDepth 100000 in
set_option linter.unusedSimpArgs false in
set_option maxHeartbeats 4000000 in
theorem law_times (A B C : Nat) (hA : A < 115792089237316195423570985008687907853269984665640564039457584007913129639936) (hB : B < 115792089237316195423570985008687907853269984665640564039457584007913129639936) (hC : C < 115792089237316195423570985008687907853269984665640564039457584007913129639936) (w : World) :
    Calls Try.prog 4 #[.agg (k32 A), .agg (k32 B), .agg (k32 C)] w fun e w' => e = .returned (.bool true) ∧ Below w.heap.size w w' := by
  have ht := fun w => times3_any 3 4 5 (by decide) (by decide) (by decide) w
  rw [k17] at ht
  have hq := fun w => kq_same 17 (by decide) w
  have h3 := fun w => times3_any A B C hA hB hC w
  have hr3 := fun w => rtimes3_any A B C hA hB hC w
  have hle := fun w => kleast_any A hA w
  have hre := fun a w h => refres_any a 32 32 A (by decide) (by rw [p256_32]; exact hA) w h
  have he1 := fun w => kq_same ((A * B + C) % L0) (L0_256 _) w
  have he2 := fun w => kq_eq (A % L0) A (L0_256 _) hA w
  rw [least_same] at he2
  obtain ⟨R, hR⟩ : ∃ R, R = (A * B + C) % L0 := ⟨_, rfl⟩
  obtain ⟨S, hS⟩ : ∃ S, S = A % L0 := ⟨_, rfl⟩
  obtain ⟨bb, hbb⟩ : ∃ b, b = decide (A < L0) := ⟨_, rfl⟩
  simp only [← hR] at h3 hr3 he1
  simp only [← hS] at hre he2
  simp only [← hbb] at hle he2
  clear hR hS hbb hA hB hC
  have d3 := bd24_3
  have d4 := bd24_4
  have d5 := bd24_5
  have d17 := bd24_17
  have Ht := Lib.hid ht; clear ht
  have Hq := Lib.hid hq; clear hq
  have H3 := Lib.hid h3; clear h3
  have Hr3 := Lib.hid hr3; clear hr3
  have Hle := Lib.hid hle; clear hle
  have Hre := Lib.hid hre; clear hre
  have He1 := Lib.hid he1; clear he1
  have He2 := Lib.hid he2; clear he2
  go_enter Try.func4, Try.ntmps4
  repeat ((fail_if_success (with_reducible (show wpList _ _ _ _ _ _))); go_step)
  iterate 4 (refine wpList_step (fun K hK => ?_); go_simp; (try go_bits); refine hK _ _ ?_; clear hK K)
  refine wpList_nil ?_
  have M3 := Lib.hid (((Has.new w  (k32 A) 24).alloc (.cells (k32 B) 24)).alloc (.cells (k32 C) 24))
  have M4 := Lib.hid ((Has.new1 w (.cells (k32 A) 24) (k32 B) 24).alloc (.cells (k32 C) 24))
  have M5 := Lib.hid (Has.new2 w (.cells (k32 A) 24) (.cells (k32 B) 24) (k32 C) 24)
  have HB := Lib.hid (below_3 w (.cells (k32 A) 24) (.cells (k32 B) 24) (.cells (k32 C) 24))
  obtain ⟨yw1, hwyw1⟩ : ∃ ww, ww = (((w.alloc (.cells (k32 A) 24)).alloc (.cells (k32 B) 24)).alloc (.cells (k32 C) 24)) := ⟨_, rfl⟩
  rw [← hwyw1] at M3 M4 M5 HB ⊢
  clear hwyw1
  repeat ((fail_if_success (with_reducible (show wpList _ _ _ _ _ _))); go_step)
  have hq := Hq.out
  have he1 := He1.out
  have he2 := He2.out
  refine wp_region_noPanic ?_
  refine wp_region_go 99 27 #[ff,ff,ff,ff,ff,ff,ff,ff,ff,ff,ff,ff,ff,ff,ff,ff,ff,ff,ff,ff,ff,ff,ff,ff,ff,ff,ff] (by kernel_rfl) rfl rfl ?_
  intro W2 hW2
  rw [← hW2] at M3 M4 M5 HB
  clear hW2
  refine go_take2 0 7 #[tt,ff,ff,ff,ff,ff,ff,ff,ff,ff,ff,ff,ff,ff,ff,ff,ff,ff,ff,ff,ff,ff,ff,ff,ff,ff,ff] rfl rfl rfl (by kernel_rfl) (yieldsIf_build (by rfl) 24 _ rfl _ (by rfl) (k32 3) (bd24_3)) ((below_dr W2)) ?_
  (try simp only [sI, sS, sZ])
  refine go_take2 1 8 #[tt,tt,ff,ff,ff,ff,ff,ff,ff,ff,ff,ff,ff,ff,ff,ff,ff,ff,ff,ff,ff,ff,ff,ff,ff,ff,ff] rfl rfl rfl (by kernel_rfl) (yieldsIf_build (by rfl) 24 _ rfl _ (by rfl) (k32 4) (bd24_4)) ((below_dr W2)) ?_
  (try simp only [sI, sS, sZ])
  refine go_take2 2 9 #[tt,tt,tt,ff,ff,ff,ff,ff,ff,ff,ff,ff,ff,ff,ff,ff,ff,ff,ff,ff,ff,ff,ff,ff,ff,ff,ff] rfl rfl rfl (by kernel_rfl) (yieldsIf_build (by rfl) 24 _ rfl _ (by rfl) (k32 5) (bd24_5)) ((below_dr W2)) ?_
  (try simp only [sI, sS, sZ])
  refine go_take2 4 11 #[tt,tt,tt,ff,tt,ff,ff,ff,ff,ff,ff,ff,ff,ff,ff,ff,ff,ff,ff,ff,ff,ff,ff,ff,ff,ff,ff] rfl rfl rfl (by kernel_rfl) (yieldsIf_build (by rfl) 24 _ rfl _ (by rfl) (k32 17) (bd24_17)) ((below_dr W2)) ?_
  (try simp only [sI, sS, sZ])
  refine wpBut_r1 (i := 3) (by kernel_rfl) ?_
  refine go_call 3 10 #[tt,tt,tt,tt,tt,ff,ff,ff,ff,ff,ff,ff,ff,ff,ff,ff,ff,ff,ff,ff,ff,ff,ff,ff,ff,ff,ff] rfl rfl rfl (by rfl) rfl rfl (by rfl) ent26 (by rfl) (Ht.out _) ?_
  rintro e wW21 ⟨rfl, hb⟩
  have hkW21 := held_next (below_dr W2) hb
  refine ⟨_, rfl, fun _ => hkW21, ?_⟩
  clear hb
  (try simp only [sI, sS, sZ])
  refine go_take2 5 12 #[tt,tt,tt,tt,tt,tt,ff,ff,ff,ff,ff,ff,ff,ff,ff,ff,ff,ff,ff,ff,ff,ff,ff,ff,ff,ff,ff] (v := ?uv1) rfl rfl rfl (by kernel_rfl) (Or.inl ⟨by rfl, ?uy1⟩) (hkW21) ?urest1
  case uy1 => (intro _ _; go_simp; try with_reducible rfl)
  (try simp only [sI, sS, sZ])
  refine go_take2 6 13 #[tt,tt,tt,tt,tt,tt,tt,ff,ff,ff,ff,ff,ff,ff,ff,ff,ff,ff,ff,ff,ff,ff,ff,ff,ff,ff,ff] (v := ?uv2) rfl rfl rfl (by kernel_rfl) (Or.inl ⟨by rfl, ?uy2⟩) (hkW21) ?urest2
  case uy2 => (intro _ _; go_simp; try with_reducible rfl)
  (try simp only [sI, sS, sZ])
  refine go_take2 7 14 #[tt,tt,tt,tt,tt,tt,tt,tt,ff,ff,ff,ff,ff,ff,ff,ff,ff,ff,ff,ff,ff,ff,ff,ff,ff,ff,ff] rfl rfl rfl (by kernel_rfl) (yieldsIf_load_row (by rfl) 24 _ rfl (w.heap.size) rfl 24 (k32 A) (fun _ h => M3.out.below h M3.out.lt) Try.underlying24 rfl (by rw [k32_size]; kernel_rfl)) (hkW21) ?_
  (try simp only [sI, sS, sZ])
  refine go_take2 8 15 #[tt,tt,tt,tt,tt,tt,tt,tt,tt,ff,ff,ff,ff,ff,ff,ff,ff,ff,ff,ff,ff,ff,ff,ff,ff,ff,ff] rfl rfl rfl (by kernel_rfl) (yieldsIf_load_row (by rfl) 24 _ rfl (w.heap.size + 1) rfl 24 (k32 B) (fun _ h => M4.out.below h M4.out.lt) Try.underlying24 rfl (by rw [k32_size]; kernel_rfl)) (hkW21) ?_
  (try simp only [sI, sS, sZ])
  refine go_take2 9 16 #[tt,tt,tt,tt,tt,tt,tt,tt,tt,tt,ff,ff,ff,ff,ff,ff,ff,ff,ff,ff,ff,ff,ff,ff,ff,ff,ff] rfl rfl rfl (by kernel_rfl) (yieldsIf_load_row (by rfl) 24 _ rfl (w.heap.size + 1 + 1) rfl 24 (k32 C) (fun _ h => M5.out.below h M5.out.lt) Try.underlying24 rfl (by rw [k32_size]; kernel_rfl)) (hkW21) ?_
  (try simp only [sI, sS, sZ])
  refine go_take2 11 18 #[tt,tt,tt,tt,tt,tt,tt,tt,tt,tt,ff,tt,ff,ff,ff,ff,ff,ff,ff,ff,ff,ff,ff,ff,ff,ff,ff] rfl rfl rfl (by kernel_rfl) (yieldsIf_load_row (by rfl) 24 _ rfl (w.heap.size) rfl 24 (k32 A) (fun _ h => M3.out.below h M3.out.lt) Try.underlying24 rfl (by rw [k32_size]; kernel_rfl)) (hkW21) ?_
  (try simp only [sI, sS, sZ])
  refine go_take2 12 19 #[tt,tt,tt,tt,tt,tt,tt,tt,tt,tt,ff,tt,tt,ff,ff,ff,ff,ff,ff,ff,ff,ff,ff,ff,ff,ff,ff] rfl rfl rfl (by kernel_rfl) (yieldsIf_load_row (by rfl) 24 _ rfl (w.heap.size + 1) rfl 24 (k32 B) (fun _ h => M4.out.below h M4.out.lt) Try.underlying24 rfl (by rw [k32_size]; kernel_rfl)) (hkW21) ?_
  (try simp only [sI, sS, sZ])
  refine go_take2 13 20 #[tt,tt,tt,tt,tt,tt,tt,tt,tt,tt,ff,tt,tt,tt,ff,ff,ff,ff,ff,ff,ff,ff,ff,ff,ff,ff,ff] rfl rfl rfl (by kernel_rfl) (yieldsIf_load_row (by rfl) 24 _ rfl (w.heap.size + 1 + 1) rfl 24 (k32 C) (fun _ h => M5.out.below h M5.out.lt) Try.underlying24 rfl (by rw [k32_size]; kernel_rfl)) (hkW21) ?_
  (try simp only [sI, sS, sZ])
  refine wpBut_r1 (i := 10) (by kernel_rfl) ?_
  refine go_call 10 17 #[tt,tt,tt,tt,tt,tt,tt,tt,tt,tt,tt,tt,tt,tt,ff,ff,ff,ff,ff,ff,ff,ff,ff,ff,ff,ff,ff] rfl rfl rfl (by rfl) rfl rfl (by rfl) ent26 (by rfl) (H3.out _) ?_
  rintro e wW22 ⟨rfl, hb⟩
  have hkW22 := held_next hkW21 hb
  refine ⟨_, rfl, fun _ => hkW22, ?_⟩
  clear hb
  (try simp only [sI, sS, sZ])
  refine wpBut_r1 (i := 14) (by kernel_rfl) ?_
  refine go_call 14 21 #[tt,tt,tt,tt,tt,tt,tt,tt,tt,tt,tt,tt,tt,tt,tt,ff,ff,ff,ff,ff,ff,ff,ff,ff,ff,ff,ff] rfl rfl rfl (by rfl) rfl rfl (by rfl) ent27 (by rfl) (Hr3.out _) ?_
  rintro e wW23 ⟨rfl, hb⟩
  have hkW23 := held_next hkW22 hb
  refine ⟨_, rfl, fun _ => hkW23, ?_⟩
  clear hb
  (try simp only [sI, sS, sZ])
  refine go_take2 15 22 #[tt,tt,tt,tt,tt,tt,tt,tt,tt,tt,tt,tt,tt,tt,tt,tt,ff,ff,ff,ff,ff,ff,ff,ff,ff,ff,ff] (v := ?uv3) rfl rfl rfl (by kernel_rfl) (Or.inl ⟨by rfl, ?uy3⟩) (hkW23) ?urest3
  case uy3 => (intro _ _; go_simp; try with_reducible rfl)
  (try simp only [sI, sS, sZ])
  refine go_take2 16 23 #[tt,tt,tt,tt,tt,tt,tt,tt,tt,tt,tt,tt,tt,tt,tt,tt,tt,ff,ff,ff,ff,ff,ff,ff,ff,ff,ff] (v := ?uv4) rfl rfl rfl (by kernel_rfl) (Or.inl ⟨by rfl, ?uy4⟩) (hkW23) ?urest4
  case uy4 => (intro _ _; go_simp; try with_reducible rfl)
  (try simp only [sI, sS, sZ])
  refine go_take2 17 24 #[tt,tt,tt,tt,tt,tt,tt,tt,tt,tt,tt,tt,tt,tt,tt,tt,tt,tt,ff,ff,ff,ff,ff,ff,ff,ff,ff] (v := ?uv5) rfl rfl rfl (by kernel_rfl) (Or.inl ⟨by rfl, ?uy5⟩) (hkW23) ?urest5
  case uy5 => (intro _ _; go_simp; try with_reducible rfl)
  (try simp only [sI, sS, sZ])
  refine go_take2 18 25 #[tt,tt,tt,tt,tt,tt,tt,tt,tt,tt,tt,tt,tt,tt,tt,tt,tt,tt,tt,ff,ff,ff,ff,ff,ff,ff,ff] rfl rfl rfl (by kernel_rfl) (yieldsIf_load_row (by rfl) 24 _ rfl (w.heap.size) rfl 24 (k32 A) (fun _ h => M3.out.below h M3.out.lt) Try.underlying24 rfl (by rw [k32_size]; kernel_rfl)) (hkW23) ?_
  (try simp only [sI, sS, sZ])
  refine go_take2 20 27 #[tt,tt,tt,tt,tt,tt,tt,tt,tt,tt,tt,tt,tt,tt,tt,tt,tt,tt,tt,ff,tt,ff,ff,ff,ff,ff,ff] (v := ?uv6) rfl rfl rfl (by kernel_rfl) (Or.inl ⟨by rfl, ?uy6⟩) (hkW23) ?urest6
  case uy6 => (intro _ _; go_simp; try with_reducible rfl)
  (try simp only [sI, sS, sZ])
  refine go_take2 22 29 #[tt,tt,tt,tt,tt,tt,tt,tt,tt,tt,tt,tt,tt,tt,tt,tt,tt,tt,tt,ff,tt,ff,tt,ff,ff,ff,ff] rfl rfl rfl (by kernel_rfl) (yieldsIf_load_row (by rfl) 24 _ rfl (w.heap.size) rfl 24 (k32 A) (fun _ h => M3.out.below h M3.out.lt) Try.underlying24 rfl (by rw [k32_size]; kernel_rfl)) (hkW23) ?_
  (try simp only [sI, sS, sZ])
  refine wpBut_r1 (i := 19) (by kernel_rfl) ?_
  refine go_call 19 26 #[tt,tt,tt,tt,tt,tt,tt,tt,tt,tt,tt,tt,tt,tt,tt,tt,tt,tt,tt,tt,tt,ff,tt,ff,ff,ff,ff] rfl rfl rfl (by rfl) rfl rfl (by rfl) ent25 (by rfl) (Hle.out _) ?_
  rintro e wW24 ⟨rfl, hb⟩
  have hkW24 := held_next hkW23 hb
  refine ⟨_, rfl, fun _ => hkW24, ?_⟩
  clear hb
  (try simp only [sI, sS, sZ])
  refine wpBut_r1 (i := 21) (by kernel_rfl) ?_
  refine go_call 21 28 #[tt,tt,tt,tt,tt,tt,tt,tt,tt,tt,tt,tt,tt,tt,tt,tt,tt,tt,tt,tt,tt,tt,tt,ff,ff,ff,ff] rfl rfl rfl (by rfl) rfl rfl (by rfl) ent24 (by rfl) (Hre.out _ _ (M3.out.below hkW24 M3.out.lt).byts) ?_
  rintro e wW25 ⟨rfl, hb⟩
  have hkW25 := held_next hkW24 hb
  refine ⟨_, rfl, fun _ => hkW25, ?_⟩
  clear hb
  (try simp only [sI, sS, sZ])
  refine go_take2 23 30 #[tt,tt,tt,tt,tt,tt,tt,tt,tt,tt,tt,tt,tt,tt,tt,tt,tt,tt,tt,tt,tt,tt,tt,tt,ff,ff,ff] (v := ?uv7) rfl rfl rfl (by kernel_rfl) (Or.inl ⟨by rfl, ?uy7⟩) (hkW25) ?urest7
  case uy7 => (intro _ _; go_simp; try with_reducible rfl)
  (try simp only [sI, sS, sZ])
  refine go_take2 24 31 #[tt,tt,tt,tt,tt,tt,tt,tt,tt,tt,tt,tt,tt,tt,tt,tt,tt,tt,tt,tt,tt,tt,tt,tt,tt,ff,ff] (v := ?uv8) rfl rfl rfl (by kernel_rfl) (Or.inl ⟨by rfl, ?uy8⟩) (hkW25) ?urest8
  case uy8 => (intro _ _; go_simp; try with_reducible rfl)
  (try simp only [sI, sS, sZ])
  refine go_take2 25 32 #[tt,tt,tt,tt,tt,tt,tt,tt,tt,tt,tt,tt,tt,tt,tt,tt,tt,tt,tt,tt,tt,tt,tt,tt,tt,tt,ff] (v := ?uv9) rfl rfl rfl (by kernel_rfl) (Or.inl ⟨by rfl, ?uy9⟩) (hkW25) ?urest9
  case uy9 => (intro _ _; go_simp; try with_reducible rfl)
  (try simp only [sI, sS, sZ])
  refine go_take2 26 6 #[tt,tt,tt,tt,tt,tt,tt,tt,tt,tt,tt,tt,tt,tt,tt,tt,tt,tt,tt,tt,tt,tt,tt,tt,tt,tt,tt] (v := ?uv10) rfl rfl rfl (by kernel_rfl) (Or.inl ⟨by rfl, ?uy10⟩) (hkW25) ?urest10
  case uy10 => (intro _ _; go_simp; try with_reducible rfl)
  (try simp only [sI, sS, sZ])
  refine wpBut_done (by kernel_rfl) (NoPanic.normal ?_)
  replace M3 := Lib.hid (M3.out.call hkW25)
  replace M4 := Lib.hid (M4.out.call hkW25)
  replace M5 := Lib.hid (M5.out.call hkW25)
  replace HB := Lib.hid (held_next HB.out hkW25)
  go_wp2_with fail
  go_ret
  exact ⟨rfl, HB.out⟩
end Go.Proofs.Ytjiagjonlcadiaa
end
section
namespace Go.Proofs.Ytjiagjonlcadiaa
open Go.ChangeShapes Go.WideShapes Go.ChangeAt Go.RowKit

set_option maxRecDepth 100000 in
set_option linter.unusedVariables false in
theorem curveTimes_lifted (os : Os) (started : os.Started) (H : Type) (enc : TypeId × Value → H) :
    ReturnsInHanded {} Try.checked os 4 .any (Rows.curveTimesSpec.pre6 enc Try.prog Try.f4 Rows.curveTimesRow.domain false) (Rows.curveTimesSpec.post enc Try.prog Try.f4 false true false false) := by
  refine returnsInHanded_of_change (C := Try.checked) own started (by kernel_rfl) Try.func4
    (ChangeSpec.witness6 (enc := enc) (C := Try.checked) false ⟨#[], #[.agg #[.int .u8 0, .int .u8 0, .int .u8 0, .int .u8 0, .int .u8 0, .int .u8 0, .int .u8 0, .int .u8 0, .int .u8 0, .int .u8 0, .int .u8 0, .int .u8 0, .int .u8 0, .int .u8 0, .int .u8 0, .int .u8 0, .int .u8 0, .int .u8 0, .int .u8 0, .int .u8 0, .int .u8 0, .int .u8 0, .int .u8 0, .int .u8 0, .int .u8 0, .int .u8 0, .int .u8 0, .int .u8 0, .int .u8 0, .int .u8 0, .int .u8 0, .int .u8 0], .agg #[.int .u8 0, .int .u8 0, .int .u8 0, .int .u8 0, .int .u8 0, .int .u8 0, .int .u8 0, .int .u8 0, .int .u8 0, .int .u8 0, .int .u8 0, .int .u8 0, .int .u8 0, .int .u8 0, .int .u8 0, .int .u8 0, .int .u8 0, .int .u8 0, .int .u8 0, .int .u8 0, .int .u8 0, .int .u8 0, .int .u8 0, .int .u8 0, .int .u8 0, .int .u8 0, .int .u8 0, .int .u8 0, .int .u8 0, .int .u8 0, .int .u8 0, .int .u8 0], .agg #[.int .u8 0, .int .u8 0, .int .u8 0, .int .u8 0, .int .u8 0, .int .u8 0, .int .u8 0, .int .u8 0, .int .u8 0, .int .u8 0, .int .u8 0, .int .u8 0, .int .u8 0, .int .u8 0, .int .u8 0, .int .u8 0, .int .u8 0, .int .u8 0, .int .u8 0, .int .u8 0, .int .u8 0, .int .u8 0, .int .u8 0, .int .u8 0, .int .u8 0, .int .u8 0, .int .u8 0, .int .u8 0, .int .u8 0, .int .u8 0, .int .u8 0, .int .u8 0]], []⟩ 8 (by kernel_rfl) (by kernel_rfl) (by kernel_rfl) (by kernel_rfl)) ?_
  intro W base args ds gs before hval0 hW hcnd _
  have hval : ∀ (j : Nat) t v, Try.f4.params[j]? = some t → args[j]? = some v → Value.okWide Try.prog W .any base t v := hval0
  have hW' := hW
  obtain ⟨p, q, hA0, hV, rfl, hfz, hnd⟩ := hW
  have hA : DataW.TrodAll enc Try.prog W 0 (fun _ => true) true Try.f4.params.toList args.toList ds p := hA0
  rw [Try.params4] at hA hval
  obtain ⟨v0, vs0, d0, ds0, p0, q0, hargs, rfl, rfl, h0, r0⟩ := trodAll_cons hA
  obtain ⟨v1, vs1, d1, ds1, p1, q1, rfl, rfl, rfl, h1, r1⟩ := trodAll_cons r0
  obtain ⟨v2, vs2, d2, ds2, p2, q2, rfl, rfl, rfl, h2, r2⟩ := trodAll_cons r1
  obtain ⟨rfl, rfl, rfl⟩ := trodAll_nil r2
  obtain rfl : args = #[v0, v1, v2] := by cases args; simp_all
  obtain ⟨rfl, rfl⟩ := trodVars_none hV
  have k0 := h0
  have lt0 : ∀ x ∈ p0, x.block < W.heap.size := by obtain ⟨m, hm⟩ := k0; exact DataW.trod_lt m _ _ _ hm
  obtain ⟨n0, hn0, rfl⟩ := open_key (hval 0 24 v0 rfl rfl) h0
  have k1 := h1
  have lt1 : ∀ x ∈ p1, x.block < W.heap.size := by obtain ⟨m, hm⟩ := k1; exact DataW.trod_lt m _ _ _ hm
  obtain ⟨n1, hn1, rfl⟩ := open_key (hval 1 24 v1 rfl rfl) h1
  have k2 := h2
  have lt2 : ∀ x ∈ p2, x.block < W.heap.size := by obtain ⟨m, hm⟩ := k2; exact DataW.trod_lt m _ _ _ hm
  obtain ⟨n2, hn2, rfl⟩ := open_key (hval 2 24 v2 rfl rfl) h2
  clear hA0 hval0
  refine (law_times n0 n1 n2 hn0 hn1 hn2 W).mono fun e W' ⟨he, bel⟩ => ?_
  subst he
  exact ⟨_, rfl, _, _, _, [], _, [], hW', trodAll_mk1 (shut_bool Try.underlying4 _), (trodAll_cons_mk (Below.trod laidOut (by kernel_rfl) (of_decide_eq_true (by kernel_rfl)) k0 bel lt0) (trodAll_cons_mk (Below.trod laidOut (by kernel_rfl) (of_decide_eq_true (by kernel_rfl)) k1 bel lt1) (trodAll_cons_mk (Below.trod laidOut (by kernel_rfl) (of_decide_eq_true (by kernel_rfl)) k2 bel lt2) trodAll_mk0))), rfl, bel.frame _, fun h => by cases h⟩

theorem curveTimes_proved : Rows.CurveTimesSaid :=
  OpenClaim.holds_of_wide 4 Try.f4 rfl rfl rfl rfl rfl rfl rfl ⟨rfl, rfl, rfl, rfl, rfl⟩ rfl rfl rfl rfl rfl (by kernel_rfl) Try.func4 (by kernel_rfl)
    (of_decide_eq_true (by kernel_rfl)) (by unfold Func.isWrapper; first | (rw [if_pos (by decide +kernel)]; kernel_rfl) | (rw [if_neg (by decide +kernel)]; exact ⟨rfl, rfl⟩))
    (fun os started H enc _ => curveTimes_lifted os started H enc)
#print axioms curveTimes_proved
end Go.Proofs.Ytjiagjonlcadiaa
end
