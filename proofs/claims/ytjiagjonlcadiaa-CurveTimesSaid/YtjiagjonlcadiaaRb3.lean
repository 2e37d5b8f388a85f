/- Residues modulo the order, in the program and in the document's answer: what each function comes to. -/
import Derived.Test.YtjiagjonlcadiaaRows
import Derived.WalkKit
import Derived.ProofKit
import Derived.OpenShut
import Derived.ShutString
import Derived.ChangeOld
import Derived.Below
import Derived.Test.YtjiagjonlcadiaaRb2
section
namespace Go.Proofs.Ytjiagjonlcadiaa
open Go.RowKit Go.Lib

/-- a slice of these integers, nil where there are none -/
def IntsA (w : World) (a : Option Addr) (len : Nat) (g : Nat → Int) : Prop := len = 0 ∨ ∃ b, a = some ⟨b, 0, none⟩ ∧ Ints w b len g
theorem down_step (N m : Nat) : N / 256 ^ (m + 1) * 256 + N / 256 ^ m % 256 = N / 256 ^ m := by
  rw [Nat.pow_succ, ← Nat.div_div_eq_div_mul]; omega

set_option maxRecDepth 100000 in
set_option linter.unusedSimpArgs false in
set_option maxHeartbeats 8000000 in
theorem rest_any (a : Option Addr) (len cap N : Nat) (hlen : len ≤ 1000) (hN : N < 256 ^ len) (w : World) (hI : IntsA w a len (dg 256 N)) :
    Calls Try.prog 71 #[.slice a len cap] w fun e w' => e = .returned (.agg (k32 (N % L0))) ∧ Below w.heap.size w w' := by
  have HI := Lib.hid hI; clear hI
  have HN := Lib.hid hN; clear hN
  go_enter Try.func71, Try.ntmps71
  repeat ((fail_if_success (with_reducible (show wpList _ _ _ _ _ _))); go_step)
  (refine wpList_step (fun K hK => ?_); go_simp; (try go_bits); refine hK _ _ ?_; clear hK K)
  refine wpList_nil ?_
  have M2 := Lib.hid (HasN.new w  (#[.int .u8 0, .int .u8 0, .int .u8 0, .int .u8 0, .int .u8 0, .int .u8 0, .int .u8 0, .int .u8 0, .int .u8 0, .int .u8 0, .int .u8 0, .int .u8 0, .int .u8 0, .int .u8 0, .int .u8 0, .int .u8 0, .int .u8 0, .int .u8 0, .int .u8 0, .int .u8 0, .int .u8 0, .int .u8 0, .int .u8 0, .int .u8 0, .int .u8 0, .int .u8 0, .int .u8 0, .int .u8 0, .int .u8 0, .int .u8 0, .int .u8 0, .int .u8 0] : Array Value) 24 32 (by kernel_rfl))
  have HB := Lib.hid (below_1 w (.cells (#[.int .u8 0, .int .u8 0, .int .u8 0, .int .u8 0, .int .u8 0, .int .u8 0, .int .u8 0, .int .u8 0, .int .u8 0, .int .u8 0, .int .u8 0, .int .u8 0, .int .u8 0, .int .u8 0, .int .u8 0, .int .u8 0, .int .u8 0, .int .u8 0, .int .u8 0, .int .u8 0, .int .u8 0, .int .u8 0, .int .u8 0, .int .u8 0, .int .u8 0, .int .u8 0, .int .u8 0, .int .u8 0, .int .u8 0, .int .u8 0, .int .u8 0, .int .u8 0] : Array Value) 24))
  obtain ⟨yw1, hwyw1⟩ : ∃ ww, ww = (w.alloc (.cells (#[.int .u8 0, .int .u8 0, .int .u8 0, .int .u8 0, .int .u8 0, .int .u8 0, .int .u8 0, .int .u8 0, .int .u8 0, .int .u8 0, .int .u8 0, .int .u8 0, .int .u8 0, .int .u8 0, .int .u8 0, .int .u8 0, .int .u8 0, .int .u8 0, .int .u8 0, .int .u8 0, .int .u8 0, .int .u8 0, .int .u8 0, .int .u8 0, .int .u8 0, .int .u8 0, .int .u8 0, .int .u8 0, .int .u8 0, .int .u8 0, .int .u8 0, .int .u8 0] : Array Value) 24)) := ⟨_, rfl⟩
  rw [← hwyw1] at M2 HB ⊢
  clear hwyw1
  repeat ((fail_if_success (with_reducible (show wpList _ _ _ _ _ _))); go_step)
  refine wpList_call (by rfl) rfl rfl (by rfl) ent59 (by rfl) (rorder_any _) 15 rfl ?_
  rintro e uw1 ⟨rfl, hb⟩
  replace M2 := Lib.hid (M2.out.call hb)
  replace HB := Lib.hid (held_next HB.out hb)
  refine ⟨_, rfl, ?_⟩
  clear hb
  (try simp only [Act.put, sI, sS, sZ])
  refine wpList_alloc (by rfl) 24 rfl _ al24 3 rfl ?_
  intro yw2 hw2
  have hlt3 := M2.out.lt
  have hsz := HB.out.size
  replace M2 := Lib.hid (M2.out.alloc (.cells z24 24))
  have M3 := Lib.hid (HasN.new uw1 z24 24 32 (by kernel_rfl))
  replace HB := Lib.hid (HB.out.alloc hsz (.cells z24 24))
  rw [← hw2] at M2 M3 HB; clear hw2
  (try simp only [Act.put, sI, sS, sZ])
  first | (obtain ⟨Zq, hZ, mZ⟩ := M3.out) | (obtain ⟨Zq, hZ, mZ⟩ := M3.out.toN (k32_size ..))
  refine wpList_store2 (by rfl) 24 _ _ rfl rfl (uw1.heap.size) (k32 L0) rfl rfl 24 Zq mZ (by rw [k32_size]; kernel_rfl) (hZ.trans (k32_size ..).symm) (row_one _ _ _) ?_
  intro yw4 hw2
  replace M2 := Lib.hid (M2.out.setRow_other (uw1.heap.size) (k32 L0) (by omega))
  replace M3 := Lib.hid (mZ.setRow (k32 L0))
  replace HB := Lib.hid (below_setRow HB.out (uw1.heap.size) (k32 L0) (by omega))
  rw [← hw2] at M2 M3 HB; clear mZ hZ hw2
  refine wpList_nil ?_
  obtain ⟨B3, hB3⟩ : ∃ B, B = uw1.heap.size := ⟨_, rfl⟩
  have gB3 : w.heap.size < B3 := by omega
  rw [← hB3] at M3 ⊢
  clear hB3
  repeat ((fail_if_success (with_reducible (show wpList _ _ _ _ _ _))); go_step)
  refine wpList_alloc (by rfl) 131 rfl _ al131 4 rfl ?_
  intro yw5 hw2
  have hlt6 := M2.out.lt
  have hlt7 := M3.out.lt
  have hsz := HB.out.size
  replace M2 := Lib.hid (M2.out.alloc (.cells z131 131))
  replace M3 := Lib.hid (M3.out.alloc (.cells z131 131))
  have M4 := Lib.hid (Has.new yw4 z131 131)
  replace HB := Lib.hid (HB.out.alloc hsz (.cells z131 131))
  rw [← hw2] at M2 M3 M4 HB; clear hw2
  (try simp only [Act.put, sI, sS, sZ])
  refine wpList_nil ?_
  obtain ⟨B4, hB4⟩ : ∃ B, B = yw4.heap.size := ⟨_, rfl⟩
  have gB4 : B3 < B4 := by omega
  rw [← hB4] at M4 ⊢
  clear hB4
  rw [z131i] at M4
  repeat ((fail_if_success (with_reducible (show wpList _ _ _ _ _ _))); go_step)
  iterate 4 (refine wpList_step (fun K hK => ?_); go_simp; (try go_bits); refine hK _ _ ?_; clear hK K)
  refine wpList_nil ?_
  repeat ((fail_if_success (with_reducible (show wpList _ _ _ _ _ _))); go_step)
  go_loopw [5] (fun i wr => ∃ m : Nat, m ≤ len ∧ i = .int .i64 ((m : Int) - 1) ∧ HasN wr w.heap.size 32 24 ∧ Has wr B3 (k32 L0) 24 ∧ Has wr B4 (i34 (N / 256 ^ m % L0)) 131 ∧ Below w.heap.size w wr) (fun i _ => (intOf i + 1).toNat)
  case atStart => exact ⟨len, Nat.le_refl _, rfl, M2.out, M3.out, by rw [Nat.div_eq_of_lt HN.out, Nat.zero_mod]; exact M4.out, HB.out⟩
  case round =>
    clear M2 M3 M4 HB
    obtain ⟨m, hm, rfl, m2, m3, m4, hB⟩ := hrel
    have M2 := Lib.hid m2; clear m2
    have M3 := Lib.hid m3; clear m3
    have M4 := Lib.hid m4; clear m4
    have HB := Lib.hid hB; clear hB
    rcases Nat.eq_zero_or_pos m with hm0 | hm0
    · subst hm0
      rw [Nat.pow_zero, Nat.div_one] at M4
      obtain ⟨r, hr⟩ : ∃ r, r = N % L0 := ⟨_, rfl⟩
      rw [← hr] at M4
      have Hr := Lib.hid hr; clear hr
      obtain ⟨wE, rfl⟩ : ∃ W, W = wr := ⟨_, rfl⟩
      repeat ((fail_if_success (with_reducible (show wpList _ _ _ _ _ _))); go_step)
      iterate 2 (refine wpList_step (fun K hK => ?_); go_simp; (try go_bits); refine hK _ _ ?_; clear hK K)
      refine wpList_nil ?_
      repeat ((fail_if_success (with_reducible (show wpList _ _ _ _ _ _))); go_step)
      have gB5 := M4.out.lt
      refine wpList_alloc (by rfl) 24 rfl _ al24 13 rfl ?_
      intro yw701 hw2
      have hlt702 := M2.out.lt
      have hlt703 := M3.out.lt
      have hlt704 := M4.out.lt
      have hsz := HB.out.size
      replace M2 := Lib.hid (M2.out.alloc (.cells z24 24))
      replace M3 := Lib.hid (M3.out.alloc (.cells z24 24))
      replace M4 := Lib.hid (M4.out.alloc (.cells z24 24))
      have M5 := Lib.hid (Has.new wE z24 24)
      replace HB := Lib.hid (HB.out.alloc hsz (.cells z24 24))
      rw [← hw2] at M2 M3 M4 M5 HB; clear hw2
      (try simp only [Act.put, sI, sS, sZ])
      refine wpList_nil ?_
      rw [show z24 = k32 0 by kernel_rfl, ← mixb_0 r] at M5
      repeat ((fail_if_success (with_reducible (show wpList _ _ _ _ _ _))); go_step)
      (refine wpList_step (fun K hK => ?_); go_simp; (try go_bits); refine hK _ _ ?_; clear hK K)
      refine wpList_nil ?_
      repeat ((fail_if_success (with_reducible (show wpList _ _ _ _ _ _))); go_step)
      go_loopw [14] (fun i wr => ∃ k : Nat, k ≤ 32 ∧ i = .int .i64 (k : Int) ∧ HasN wr w.heap.size 32 24 ∧ Has wr B4 (i34 r) 131 ∧ Has wr wE.heap.size (row .u8 32 (mixb r k)) 24 ∧ Below w.heap.size w wr) (fun i _ => (32 - intOf i).toNat)
      case atStart => exact ⟨0, by omega, rfl, M2.out, M4.out, M5.out, HB.out⟩
      case round =>
        clear M2 M3 M4 M5 HB
        obtain ⟨k, hk, rfl, m2, m4, m5, hB⟩ := hrel
        have M2 := Lib.hid m2; clear m2
        have M4 := Lib.hid m4; clear m4
        have M5 := Lib.hid m5; clear m5
        have HB := Lib.hid hB; clear hB
        rcases Nat.lt_or_ge k 32 with hlt | hge
        · have kq : (k : Int) < 32 := by omega
          have kq2 : (k : Int) < 34 := by omega
          obtain ⟨x, hx⟩ : ∃ x, r / 256 ^ k % 256 = x := ⟨_, rfl⟩
          have lx : x < 256 := by omega
          have hc1 : wr.cell? ⟨B4, k, none⟩ = some (.int .i64 (x : Int)) := by
            have h := M4.out
            unfold i34 at h
            rw [h.cell k (by omega), dg_nat, hx]
          have hc2 : wr.cell? ⟨wE.heap.size, k, none⟩ = some (.int .u8 0) := by rw [M5.out.cell k hlt]; unfold mixb; rw [if_neg (by omega)]
          have hfz := M5.out.frozen k
          have hwx : IntKind.u8.wrap (x : Int) = (x : Int) := by rw [IntKind.wrap_u8]; omega
          have hwx3 : (x : Int) % 256 = (x : Int) := by omega
          have hup : (x : Int) = dg 256 r k := by rw [dg_nat, hx]
          clear hx
          have Hup := Lib.hid hup; clear hup
          repeat ((fail_if_success (with_reducible (show wpList _ _ _ _ _ _))); go_step)
          iterate 2 (refine wpList_step (fun K hK => ?_); go_simp; (try go_bits); refine hK _ _ ?_; clear hK K)
          refine wpList_nil ?_
          repeat ((fail_if_success (with_reducible (show wpList _ _ _ _ _ _))); go_step)
          iterate 7 (refine wpList_step (fun K hK => ?_); go_simp; (try go_bits); refine hK _ _ ?_; clear hK K)
          
          have kq := M5.out.set (k) ((x : Int)); rw [mixb_upd r k _ Hup.out] at kq; clear M5; have M5 := Lib.hid kq; clear kq
          have kq := M2.out.other ⟨wE.heap.size, k, none⟩ (.int .u8 ((x : Int))) (by simp <;> omega); clear M2; have M2 := Lib.hid kq; clear kq
          have kq := M4.out.other ⟨wE.heap.size, k, none⟩ (.int .u8 ((x : Int))) (by simp <;> omega); clear M4; have M4 := Lib.hid kq; clear kq
          replace HB := Lib.hid (HB.out.setCell (p := ⟨wE.heap.size, k, none⟩) (show w.heap.size ≤ wE.heap.size by omega) (.int .u8 ((x : Int))))
          obtain ⟨yw801, hwyw801⟩ : ∃ ww, ww = wr.setCell ⟨wE.heap.size, k, none⟩ (.int .u8 ((x : Int))) := ⟨_, rfl⟩
          rw [← hwyw801] at M2 M4 M5 HB ⊢
          clear hwyw801
          refine wpList_nil ?_
          clear hc1 hc2 hfz hwx hwx3
          repeat ((fail_if_success (with_reducible (show wpList _ _ _ _ _ _))); go_step)
          iterate 3 (refine wpList_step (fun K hK => ?_); go_simp; (try go_bits); refine hK _ _ ?_; clear hK K)
          refine wpList_nil ?_
          go_roundw
          case measure => simp [intOf]; omega
          case rel => (repeat apply Exists.intro); exact ⟨⟨k + 1, by omega, by go_num, M2.out, M4.out, M5.out, HB.out⟩, rfl⟩
        · have hk32 : k = 32 := by omega
          subst hk32
          clear hk hge
          rw [mixb_32] at M5
          repeat ((fail_if_success (with_reducible (show wpList _ _ _ _ _ _))); go_step)
          iterate 2 (refine wpList_step (fun K hK => ?_); go_simp; (try go_bits); refine hK _ _ ?_; clear hK K)
          refine wpList_nil ?_
          repeat ((fail_if_success (with_reducible (show wpList _ _ _ _ _ _))); go_step)
          refine wpList_load (by rfl) 24 _ rfl (wE.heap.size) rfl 24 (k32 r) M5.out Try.underlying24 rfl (by rw [k32_size]; kernel_rfl) 93 rfl ?_
          (try simp only [Act.put, sI, sS, sZ])
          first | (obtain ⟨Zq, hZ, mZ⟩ := M2.out) | (obtain ⟨Zq, hZ, mZ⟩ := M2.out.toN (k32_size ..))
          refine wpList_store2 (by rfl) 24 _ _ rfl rfl (w.heap.size) (k32 r) rfl rfl 24 Zq mZ (by rw [k32_size]; kernel_rfl) (hZ.trans (k32_size ..).symm) (row_one _ _ _) ?_
          intro yw801 hw2
          replace M4 := Lib.hid (M4.out.setRow_other (w.heap.size) (k32 r) (by omega))
          replace M5 := Lib.hid (M5.out.setRow_other (w.heap.size) (k32 r) (by omega))
          replace M2 := Lib.hid (mZ.setRow (k32 r))
          replace HB := Lib.hid (below_setRow HB.out (w.heap.size) (k32 r) (by omega))
          rw [← hw2] at M4 M5 M2 HB; clear mZ hZ hw2
          refine wpList_nil ?_
          go_wp2_with fail
          exact bodyPost_ret (v := .agg (k32 r)) (results_cell_row (t := 24) (by rfl) _ _ (w.heap.size) _ _ _ rfl M2.out Try.underlying24 rfl (by rw [k32_size]; kernel_rfl)) rfl ⟨by rw [Hr.out], HB.out⟩
    · obtain ⟨i, rfl⟩ : ∃ i, m = i + 1 := ⟨m - 1, by omega⟩
      rw [show ((i + 1 : Nat) : Int) - 1 = (i : Int) by omega]
      rcases HI.out with h0 | ⟨b, rfl, hIb⟩
      · omega
      have hds := down_step N i
      obtain ⟨c, hc⟩ : ∃ c, N / 256 ^ i % 256 = c := ⟨_, rfl⟩
      have lc : c < 256 := by omega
      have hcell := hIb.2 i (by omega)
      have hbl := hIb.1
      rw [dg_nat, hc] at hcell
      rw [hc] at hds
      have hli : i < len := by omega
      have hTv : N / 256 ^ (i + 1) % L0 < L0 := Nat.mod_lt _ (by decide)
      obtain ⟨T', hT'⟩ : ∃ T, T = N / 256 ^ i := ⟨_, rfl⟩
      have hcong : (256 * (N / 256 ^ (i + 1) % L0) + c) % L0 = T' % L0 := by
        rw [hT', ← hds, Nat.add_mod, Nat.mul_mod, Nat.mod_mod, ← Nat.mul_mod, ← Nat.add_mod, Nat.mul_comm]
      obtain ⟨V, hV⟩ : ∃ V, V = N / 256 ^ (i + 1) % L0 := ⟨_, rfl⟩
      rw [← hV] at M4 hTv hcong
      have ci : (0 : Int) ≤ (i : Int) := by omega
      have ci2 : (i : Int) < (len : Int) := by omega
      clear hc hds hV hm0 hm hIb
      have Hcong := Lib.hid hcong; clear hcong
      have HTv := Lib.hid hTv; clear hTv
      have HT' := Lib.hid hT'; clear hT'
      repeat ((fail_if_success (with_reducible (show wpList _ _ _ _ _ _))); go_step)
      iterate 2 (refine wpList_step (fun K hK => ?_); go_simp; (try go_bits); refine hK _ _ ?_; clear hK K)
      refine wpList_nil ?_
      repeat ((fail_if_success (with_reducible (show wpList _ _ _ _ _ _))); go_step)
      (refine wpList_step (fun K hK => ?_); go_simp; (try go_bits); refine hK _ _ ?_; clear hK K)
      refine wpList_nil ?_
      repeat ((fail_if_success (with_reducible (show wpList _ _ _ _ _ _))); go_step)
      rw [← upf_33 V] at M4
      obtain ⟨wA, rfl⟩ : ∃ W, W = wr := ⟨_, rfl⟩
      go_loopw [6] (fun k wr => ∃ s : Nat, s ≤ 33 ∧ k = .int .i64 (s : Int) ∧ HasN wr w.heap.size 32 24 ∧ Has wr B3 (k32 L0) 24 ∧ Has wr B4 (row .i64 34 (upf V s)) 131 ∧ Below w.heap.size w wr) (fun k _ => (intOf k).toNat)
      case atStart => exact ⟨33, Nat.le_refl _, rfl, M2.out, M3.out, M4.out, HB.out⟩
      case round =>
        clear M2 M3 M4 HB
        obtain ⟨s, hs, rfl, m2, m3, m4, hB⟩ := hrel
        have M2 := Lib.hid m2; clear m2
        have M3 := Lib.hid m3; clear m3
        have M4 := Lib.hid m4; clear m4
        have HB := Lib.hid hB; clear hB
        rcases Nat.eq_zero_or_pos s with hs0 | hs0
        · subst hs0
          have hcl := (HB.out.cell (p := ⟨b, i, none⟩) hbl).trans hcell
          have hc0 := M4.out.cell 0 (by omega)
          have hfz := M4.out.frozen 0
          repeat ((fail_if_success (with_reducible (show wpList _ _ _ _ _ _))); go_step)
          iterate 2 (refine wpList_step (fun K hK => ?_); go_simp; (try go_bits); refine hK _ _ ?_; clear hK K)
          refine wpList_nil ?_
          repeat ((fail_if_success (with_reducible (show wpList _ _ _ _ _ _))); go_step)
          iterate 6 (refine wpList_step (fun K hK => ?_); go_simp; (try go_bits); refine hK _ _ ?_; clear hK K)
          
          have kq := M4.out.set (0) ((c : Int)); rw [upf_0 V c lc] at kq; clear M4; have M4 := Lib.hid kq; clear kq
          have kq := M2.out.other ⟨B4, 0, none⟩ (.int .i64 ((c : Int))) (by simp <;> omega); clear M2; have M2 := Lib.hid kq; clear kq
          have kq := M3.out.other ⟨B4, 0, none⟩ (.int .i64 ((c : Int))) (by simp <;> omega); clear M3; have M3 := Lib.hid kq; clear kq
          replace HB := Lib.hid (HB.out.setCell (p := ⟨B4, 0, none⟩) (show w.heap.size ≤ B4 by omega) (.int .i64 ((c : Int))))
          obtain ⟨yw201, hwyw201⟩ : ∃ ww, ww = wr.setCell ⟨B4, 0, none⟩ (.int .i64 ((c : Int))) := ⟨_, rfl⟩
          rw [← hwyw201] at M2 M3 M4 HB ⊢
          clear hwyw201
          refine wpList_nil ?_
          clear hcl hc0 hfz
          obtain ⟨X0, hX0⟩ : ∃ X, X = 256 * V + c := ⟨_, rfl⟩
          have hX1 : X0 % L0 = T' % L0 := by rw [hX0]; exact Hcong.out
          have hX2 : X0 < 256 * L0 := by have := HTv.out; omega
          rw [← hX0] at M4
          clear hX0
          have HX1 := Lib.hid hX1; clear hX1
          have HX2 := Lib.hid hX2; clear hX2
          repeat ((fail_if_success (with_reducible (show wpList _ _ _ _ _ _))); go_step)
          go_loopg [7] (X0 / L0) (fun g q wr => ∃ X, X / L0 ≤ g ∧ RowKit.Hid (X % L0 = T' % L0) ∧ X < 256 * L0 ∧ HasN wr w.heap.size 32 24 ∧ Has wr B3 (k32 L0) 24 ∧ Has wr B4 (i34 X) 131 ∧ Below w.heap.size w wr)
          case atStart => exact ⟨X0, Nat.le_refl _, HX1, HX2.out, M2.out, M3.out, M4.out, HB.out⟩
          case round =>
            clear M2 M3 M4 HB HX1 HX2
            obtain ⟨X, hXg, HX1, hX2, m2, m3, m4, hB⟩ := hrel
            have M2 := Lib.hid m2; clear m2
            have M3 := Lib.hid m3; clear m3
            have M4 := Lib.hid m4; clear m4
            have HB := Lib.hid hB; clear hB
            have HXg := Lib.hid hXg; clear hXg
            have HX2 := Lib.hid hX2; clear hX2
            obtain ⟨wB, rfl⟩ : ∃ W, W = wr := ⟨_, rfl⟩
            repeat ((fail_if_success (with_reducible (show wpList _ _ _ _ _ _))); go_step)
            (refine wpList_step (fun K hK => ?_); go_simp; (try go_bits); refine hK _ _ ?_; clear hK K)
            refine wpList_nil ?_
            repeat ((fail_if_success (with_reducible (show wpList _ _ _ _ _ _))); go_step)
            (refine wpList_step (fun K hK => ?_); go_simp; (try go_bits); refine hK _ _ ?_; clear hK K)
            refine wpList_nil ?_
            go_upto_block 6 with fail
            have hXb : X < 256 ^ 34 := by rw [p256_34]; have := HX2.out; rw [L0_val] at this; omega
            have hLb : L0 < 256 ^ 34 := by rw [p256_34, L0_val]; omega
            obtain ⟨lb, hlb⟩ : ∃ b, b = decide (X < L0) := ⟨_, rfl⟩
            have HXb := Lib.hid hXb; clear hXb
            have HLb := Lib.hid hLb; clear hLb
            have Hlb := Lib.hid hlb; clear hlb
            go_cut [7] (fun q wx => q = .bool lb ∧ wx = wB)
            case first =>
              repeat ((fail_if_success (with_reducible (show wpList _ _ _ _ _ _))); go_step)
              go_loopw [7, 8] (fun q k wr => ∃ s : Nat, s ≤ 34 ∧ q = .bool false ∧ k = .int .i64 ((s : Int) - 1) ∧ RowKit.Hid (∀ j, s ≤ j → j < 34 → dg 256 X j = dg 256 L0 j) ∧ wr = wB) (fun _ k _ => (intOf k + 1).toNat)
              case atStart => exact ⟨34, Nat.le_refl _, rfl, rfl, Lib.hid (fun j h1 h2 => by omega), rfl⟩
              case round =>
                obtain ⟨s, hs, rfl, rfl, Hsm, rfl⟩ := hrel
                rcases Nat.eq_zero_or_pos s with hs0 | hs0
                · subst hs0
                  have hfin : lb = false := by
                    have e := top_eq X L0 (fun j hj => Hsm.out j (Nat.zero_le _) hj) HXb.out HLb.out
                    rw [Hlb.out, e]; exact decide_eq_false (Nat.lt_irrefl _)
                  have Hfin := Lib.hid hfin; clear hfin
                  repeat ((fail_if_success (with_reducible (show wpList _ _ _ _ _ _))); go_step)
                  iterate 2 (refine wpList_step (fun K hK => ?_); go_simp; (try go_bits); refine hK _ _ ?_; clear hK K)
                  refine wpList_nil ?_
                  repeat ((fail_if_success (with_reducible (show wpList _ _ _ _ _ _))); go_step)
                  go_meet
                  exact ⟨congrArg Value.bool Hfin.out.symm, rfl⟩
                · obtain ⟨j, rfl⟩ : ∃ j, s = j + 1 := ⟨s - 1, by omega⟩
                  rw [show ((j + 1 : Nat) : Int) - 1 = (j : Int) by omega]
                  have jb : (j : Int) < 34 := by omega
                  obtain ⟨x, hx⟩ : ∃ x, X / 256 ^ j % 256 = x := ⟨_, rfl⟩
                  obtain ⟨y, hy⟩ : ∃ y, L0 / 256 ^ j % 256 = y := ⟨_, rfl⟩
                  have hdx : dg 256 X j = (x : Int) := by rw [dg_nat, hx]
                  have hdy : dg 256 L0 j = (y : Int) := by rw [dg_nat, hy]
                  have lx : x < 256 := by omega
                  have ly : y < 256 := by omega
                  have hcx : wr.cell? ⟨B4, j, none⟩ = some (.int .i64 (x : Int)) := by
                    have h := M4.out
                    unfold i34 at h
                    rw [h.cell j (by omega), hdx]
                  clear hx hy hs0
                  by_cases h32 : j < 32
                  · have jq : (j : Int) < 32 := by omega
                    have hcy : wr.cell? ⟨B3, j, none⟩ = some (.int .u8 (y : Int)) := by rw [M3.out.cell j h32, hdy]
                    have Hdx := Lib.hid hdx; clear hdx
                    have Hdy := Lib.hid hdy; clear hdy
                    repeat ((fail_if_success (with_reducible (show wpList _ _ _ _ _ _))); go_step)
                    iterate 2 (refine wpList_step (fun K hK => ?_); go_simp; (try go_bits); refine hK _ _ ?_; clear hK K)
                    refine wpList_nil ?_
                    repeat ((fail_if_success (with_reducible (show wpList _ _ _ _ _ _))); go_step)
                    (refine wpList_step (fun K hK => ?_); go_simp; (try go_bits); refine hK _ _ ?_; clear hK K)
                    refine wpList_nil ?_
                    repeat ((fail_if_success (with_reducible (show wpList _ _ _ _ _ _))); go_step)
                    iterate 2 (refine wpList_step (fun K hK => ?_); go_simp; (try go_bits); refine hK _ _ ?_; clear hK K)
                    refine wpList_nil ?_
                    repeat ((fail_if_success (with_reducible (show wpList _ _ _ _ _ _))); go_step)
                    iterate 5 (refine wpList_step (fun K hK => ?_); go_simp; (try go_bits); refine hK _ _ ?_; clear hK K)
                    refine wpList_nil ?_
                    repeat ((fail_if_success (with_reducible (show wpList _ _ _ _ _ _))); go_step)
                    by_cases hxy : (x : Int) = (y : Int)
                    · have hne : ((x : Int) != (y : Int)) = false := by rw [bne_eq_false_iff_eq]; exact hxy
                      have Hxy := Lib.hid hxy; clear hxy
                      iterate 5 (refine wpList_step (fun K hK => ?_); go_simp; (try go_bits); refine hK _ _ ?_; clear hK K)
                      refine wpList_nil ?_
                      clear hne
                      repeat ((fail_if_success (with_reducible (show wpList _ _ _ _ _ _))); go_step)
                      iterate 3 (refine wpList_step (fun K hK => ?_); go_simp; (try go_bits); refine hK _ _ ?_; clear hK K)
                      refine wpList_nil ?_
                      go_roundw
                      case measure => simp [intOf]
                      case rel =>
                        (repeat apply Exists.intro)
                        refine ⟨⟨j, by omega, rfl, rfl, Lib.hid (fun q h1 h2 => ?_), rfl⟩, rfl⟩
                        by_cases e : q = j
                        · subst e; rw [Hdx.out, Hdy.out]; exact Hxy.out
                        · exact Hsm.out q (by omega) h2
                    · have hne : ((x : Int) != (y : Int)) = true := by rw [bne_iff_ne]; exact hxy
                      have hfin : decide ((x : Int) < (y : Int)) = lb := by
                        have := top_lt X L0 j (fun q h1 h2 => Hsm.out q (by omega) h2) (by omega) HXb.out HLb.out (by rw [Hdx.out, Hdy.out]; exact hxy)
                        rw [Hdx.out, Hdy.out] at this
                        rw [Hlb.out]; exact this
                      clear hxy
                      have Hfin := Lib.hid hfin; clear hfin
                      iterate 5 (refine wpList_step (fun K hK => ?_); go_simp; (try go_bits); refine hK _ _ ?_; clear hK K)
                      refine wpList_nil ?_
                      clear hne
                      repeat ((fail_if_success (with_reducible (show wpList _ _ _ _ _ _))); go_step)
                      iterate 6 (refine wpList_step (fun K hK => ?_); go_simp; (try go_bits); refine hK _ _ ?_; clear hK K)
                      refine wpList_nil ?_
                      repeat ((fail_if_success (with_reducible (show wpList _ _ _ _ _ _))); go_step)
                      go_meet
                      first | exact ⟨congrArg Value.bool Hfin.out, rfl⟩ | exact ⟨congrArg Value.bool ((decide_eq_decide.2 Int.ofNat_lt.symm).trans Hfin.out), rfl⟩
                  · have jq : ¬ (j : Int) < 32 := by omega
                    have hy0 : y = 0 := by have := L0_top j (by omega); rw [hdy] at this; omega
                    subst hy0
                    have Hdx := Lib.hid hdx; clear hdx
                    have Hdy := Lib.hid hdy; clear hdy
                    repeat ((fail_if_success (with_reducible (show wpList _ _ _ _ _ _))); go_step)
                    iterate 2 (refine wpList_step (fun K hK => ?_); go_simp; (try go_bits); refine hK _ _ ?_; clear hK K)
                    refine wpList_nil ?_
                    repeat ((fail_if_success (with_reducible (show wpList _ _ _ _ _ _))); go_step)
                    (refine wpList_step (fun K hK => ?_); go_simp; (try go_bits); refine hK _ _ ?_; clear hK K)
                    refine wpList_nil ?_
                    repeat ((fail_if_success (with_reducible (show wpList _ _ _ _ _ _))); go_step)
                    iterate 2 (refine wpList_step (fun K hK => ?_); go_simp; (try go_bits); refine hK _ _ ?_; clear hK K)
                    refine wpList_nil ?_
                    repeat ((fail_if_success (with_reducible (show wpList _ _ _ _ _ _))); go_step)
                    by_cases hxy : (x : Int) = (0 : Int)
                    · have hne : ((x : Int) != (0 : Int)) = false := by rw [bne_eq_false_iff_eq]; exact hxy
                      have Hxy := Lib.hid hxy; clear hxy
                      iterate 5 (refine wpList_step (fun K hK => ?_); go_simp; (try go_bits); refine hK _ _ ?_; clear hK K)
                      refine wpList_nil ?_
                      clear hne
                      repeat ((fail_if_success (with_reducible (show wpList _ _ _ _ _ _))); go_step)
                      iterate 3 (refine wpList_step (fun K hK => ?_); go_simp; (try go_bits); refine hK _ _ ?_; clear hK K)
                      refine wpList_nil ?_
                      go_roundw
                      case measure => simp [intOf]
                      case rel =>
                        (repeat apply Exists.intro)
                        refine ⟨⟨j, by omega, rfl, rfl, Lib.hid (fun q h1 h2 => ?_), rfl⟩, rfl⟩
                        by_cases e : q = j
                        · subst e; rw [Hdx.out, Hdy.out]; exact Hxy.out
                        · exact Hsm.out q (by omega) h2
                    · have hne : ((x : Int) != (0 : Int)) = true := by rw [bne_iff_ne]; exact hxy
                      have hfin : decide ((x : Int) < (0 : Int)) = lb := by
                        have := top_lt X L0 j (fun q h1 h2 => Hsm.out q (by omega) h2) (by omega) HXb.out HLb.out (by rw [Hdx.out, Hdy.out]; exact hxy)
                        rw [Hdx.out, Hdy.out] at this
                        rw [Hlb.out]; exact this
                      clear hxy
                      have Hfin := Lib.hid hfin; clear hfin
                      iterate 5 (refine wpList_step (fun K hK => ?_); go_simp; (try go_bits); refine hK _ _ ?_; clear hK K)
                      refine wpList_nil ?_
                      clear hne
                      repeat ((fail_if_success (with_reducible (show wpList _ _ _ _ _ _))); go_step)
                      iterate 6 (refine wpList_step (fun K hK => ?_); go_simp; (try go_bits); refine hK _ _ ?_; clear hK K)
                      refine wpList_nil ?_
                      repeat ((fail_if_success (with_reducible (show wpList _ _ _ _ _ _))); go_step)
                      go_meet
                      first | exact ⟨congrArg Value.bool Hfin.out, rfl⟩ | exact ⟨congrArg Value.bool ((decide_eq_decide.2 Int.ofNat_lt.symm).trans Hfin.out), rfl⟩
            case rest =>
              obtain ⟨rfl, rfl⟩ := hcut
              cases lb
              · have hle : L0 ≤ X := Nat.not_lt.1 (of_decide_eq_false Hlb.out.symm)
                obtain ⟨Y, hY⟩ : ∃ Y, X = Y + L0 := ⟨X - L0, by omega⟩
                have hY1 : Y % L0 = T' % L0 := by have := HX1.out; rwa [hY, Nat.add_mod_right] at this
                have hY2 : Y < 256 * L0 := by have := HX2.out; omega
                have hY3 : Y / L0 < gk := by have := HXg.out; rw [hY, Nat.add_div_right _ (by decide)] at this; omega
                have H0 := Lib.hid (show X / 256 ^ 0 = Y / 256 ^ 0 + L0 / 256 ^ 0 + 0 by rw [Nat.pow_zero, Nat.div_one, Nat.div_one, Nat.div_one]; omega)
                clear hle hY
                have HY1 := Lib.hid hY1; clear hY1
                have HY2 := Lib.hid hY2; clear hY2
                have HY3 := Lib.hid hY3; clear hY3
                repeat ((fail_if_success (with_reducible (show wpList _ _ _ _ _ _))); go_step)
                (refine wpList_step (fun K hK => ?_); go_simp; (try go_bits); refine hK _ _ ?_; clear hK K)
                refine wpList_nil ?_
                repeat ((fail_if_success (with_reducible (show wpList _ _ _ _ _ _))); go_step)
                (refine wpList_step (fun K hK => ?_); go_simp; (try go_bits); refine hK _ _ ?_; clear hK K)
                refine wpList_nil ?_
                repeat ((fail_if_success (with_reducible (show wpList _ _ _ _ _ _))); go_step)
                (refine wpList_step (fun K hK => ?_); go_simp; (try go_bits); refine hK _ _ ?_; clear hK K)
                refine wpList_nil ?_
                repeat ((fail_if_success (with_reducible (show wpList _ _ _ _ _ _))); go_step)
                rw [← mixi_0 Y X] at M4
                go_loopw [11, 10] (fun i q wr => ∃ k cc : Nat, k ≤ 34 ∧ cc < 2 ∧ i = .int .i64 (k : Int) ∧ q = .int .i64 (cc : Int) ∧ RowKit.Hid (X / 256 ^ k = Y / 256 ^ k + L0 / 256 ^ k + cc) ∧ HasN wr w.heap.size 32 24 ∧ Has wr B3 (k32 L0) 24 ∧ Has wr B4 (row .i64 34 (mixi Y X k)) 131 ∧ Below w.heap.size w wr) (fun i _ _ => (34 - intOf i).toNat)
                case atStart => exact ⟨0, 0, by omega, by decide, rfl, rfl, H0, M2.out, M3.out, M4.out, HB.out⟩
                case round =>
                  clear M2 M3 M4 HB H0
                  obtain ⟨k, cc, hk, hcc, rfl, rfl, H0, m2, m3, m4, hB⟩ := hrel
                  have M2 := Lib.hid m2; clear m2
                  have M3 := Lib.hid m3; clear m3
                  have M4 := Lib.hid m4; clear m4
                  have HB := Lib.hid hB; clear hB
                  rcases Nat.lt_or_ge k 34 with hlt | hge
                  · have kq : (k : Int) < 34 := by omega
                    obtain ⟨x, hx⟩ : ∃ x, X / 256 ^ k % 256 = x := ⟨_, rfl⟩
                    obtain ⟨y, hy⟩ : ∃ y, L0 / 256 ^ k % 256 = y := ⟨_, rfl⟩
                    have lx : x < 256 := by omega
                    have ly : y < 256 := by omega
                    have hc1 : wr.cell? ⟨B4, k, none⟩ = some (.int .i64 (x : Int)) := by rw [M4.out.cell k hlt, mixi_at, dg_nat, hx]
                    have hfz := M4.out.frozen k
                    have Hx := Lib.hid hx; clear hx
                    have Hy := Lib.hid hy; clear hy
                    by_cases h32 : k < 32
                    · by_cases hneg : x < y + cc
                      · have kq2 : (k : Int) < 32 := by omega
                        have hcy : wr.cell? ⟨B3, k, none⟩ = some (.int .u8 (y : Int)) := by rw [M3.out.cell k h32, dg_nat, Hy.out]
                        obtain ⟨s1, s2⟩ := (sub8 Y X L0 k cc x _ H0.out hcc Hx.out Hy.out).1 hneg
                        obtain ⟨z, hz⟩ : ∃ z, z = x + 256 - y - cc := ⟨_, rfl⟩
                        rw [← hz] at s1
                        have hn1 : (x : Int) - (cc : Int) - (y : Int) < 0 := by omega
                        have hz2 : (x : Int) - (cc : Int) - (y : Int) + 256 = (z : Int) := by omega
                        have hup : (z : Int) = dg 256 Y k := by rw [dg_nat, s1]
                        clear hneg hz
                        have S1 := Lib.hid s1; clear s1
                        have S2 := Lib.hid s2; clear s2
                        have Hup := Lib.hid hup; clear hup
                        repeat ((fail_if_success (with_reducible (show wpList _ _ _ _ _ _))); go_step)
                        iterate 2 (refine wpList_step (fun K hK => ?_); go_simp; (try go_bits); refine hK _ _ ?_; clear hK K)
                        refine wpList_nil ?_
                        repeat ((fail_if_success (with_reducible (show wpList _ _ _ _ _ _))); go_step)
                        iterate 6 (refine wpList_step (fun K hK => ?_); go_simp; (try go_bits); refine hK _ _ ?_; clear hK K)
                        refine wpList_nil ?_
                        repeat ((fail_if_success (with_reducible (show wpList _ _ _ _ _ _))); go_step)
                        iterate 2 (refine wpList_step (fun K hK => ?_); go_simp; (try go_bits); refine hK _ _ ?_; clear hK K)
                        refine wpList_nil ?_
                        repeat ((fail_if_success (with_reducible (show wpList _ _ _ _ _ _))); go_step)
                        iterate 7 (refine wpList_step (fun K hK => ?_); go_simp; (try go_bits); refine hK _ _ ?_; clear hK K)
                        refine wpList_nil ?_
                        repeat ((fail_if_success (with_reducible (show wpList _ _ _ _ _ _))); go_step)
                        (refine wpList_step (fun K hK => ?_); go_simp; (try go_bits); refine hK _ _ ?_; clear hK K)
                        refine wpList_nil ?_
                        repeat ((fail_if_success (with_reducible (show wpList _ _ _ _ _ _))); go_step)
                        iterate 2 (refine wpList_step (fun K hK => ?_); go_simp; (try go_bits); refine hK _ _ ?_; clear hK K)
                        refine wpList_nil ?_
                        repeat ((fail_if_success (with_reducible (show wpList _ _ _ _ _ _))); go_step)
                        iterate 3 (refine wpList_step (fun K hK => ?_); go_simp; (try go_bits); refine hK _ _ ?_; clear hK K)
                        refine wpList_nil ?_
                        repeat ((fail_if_success (with_reducible (show wpList _ _ _ _ _ _))); go_step)
                        (refine wpList_step (fun K hK => ?_); go_simp; (try go_bits); refine hK _ _ ?_; clear hK K)
                        refine wpList_nil ?_
                        repeat ((fail_if_success (with_reducible (show wpList _ _ _ _ _ _))); go_step)
                        iterate 4 (refine wpList_step (fun K hK => ?_); go_simp; (try go_bits); refine hK _ _ ?_; clear hK K)
                        
                        have kq := M4.out.set (k) ((z : Int)); rw [mixi_upd Y X k _ Hup.out] at kq; clear M4; have M4 := Lib.hid kq; clear kq
                        have kq := M2.out.other ⟨B4, k, none⟩ (.int .i64 ((z : Int))) (by simp <;> omega); clear M2; have M2 := Lib.hid kq; clear kq
                        have kq := M3.out.other ⟨B4, k, none⟩ (.int .i64 ((z : Int))) (by simp <;> omega); clear M3; have M3 := Lib.hid kq; clear kq
                        replace HB := Lib.hid (HB.out.setCell (p := ⟨B4, k, none⟩) (show w.heap.size ≤ B4 by omega) (.int .i64 ((z : Int))))
                        obtain ⟨yw601, hwyw601⟩ : ∃ ww, ww = wr.setCell ⟨B4, k, none⟩ (.int .i64 ((z : Int))) := ⟨_, rfl⟩
                        rw [← hwyw601] at M2 M3 M4 HB ⊢
                        clear hwyw601
                        refine wpList_nil ?_
                        clear hc1 hfz hn1 hz2
                        repeat ((fail_if_success (with_reducible (show wpList _ _ _ _ _ _))); go_step)
                        iterate 3 (refine wpList_step (fun K hK => ?_); go_simp; (try go_bits); refine hK _ _ ?_; clear hK K)
                        refine wpList_nil ?_
                        go_roundw
                        case measure => simp [intOf]; omega
                        case rel => (repeat apply Exists.intro); exact ⟨⟨k + 1, 1, by omega, by decide, by go_num, rfl, S2, M2.out, M3.out, M4.out, HB.out⟩, rfl⟩
                      · have kq2 : (k : Int) < 32 := by omega
                        have hcy : wr.cell? ⟨B3, k, none⟩ = some (.int .u8 (y : Int)) := by rw [M3.out.cell k h32, dg_nat, Hy.out]
                        obtain ⟨s1, s2⟩ := (sub8 Y X L0 k cc x _ H0.out hcc Hx.out Hy.out).2 (by omega)
                        obtain ⟨z, hz⟩ : ∃ z, z = x - y - cc := ⟨_, rfl⟩
                        rw [← hz] at s1
                        have hn1 : ¬ (x : Int) - (cc : Int) - (y : Int) < 0 := by omega
                        have hz2 : (x : Int) - (cc : Int) - (y : Int) = (z : Int) := by omega
                        have hz3 : (0 : Int) ≤ (z : Int) := by omega
                        have hup : (z : Int) = dg 256 Y k := by rw [dg_nat, s1]
                        clear hneg hz
                        have S1 := Lib.hid s1; clear s1
                        have S2 := Lib.hid s2; clear s2
                        have Hup := Lib.hid hup; clear hup
                        repeat ((fail_if_success (with_reducible (show wpList _ _ _ _ _ _))); go_step)
                        iterate 2 (refine wpList_step (fun K hK => ?_); go_simp; (try go_bits); refine hK _ _ ?_; clear hK K)
                        refine wpList_nil ?_
                        repeat ((fail_if_success (with_reducible (show wpList _ _ _ _ _ _))); go_step)
                        iterate 6 (refine wpList_step (fun K hK => ?_); go_simp; (try go_bits); refine hK _ _ ?_; clear hK K)
                        refine wpList_nil ?_
                        repeat ((fail_if_success (with_reducible (show wpList _ _ _ _ _ _))); go_step)
                        iterate 2 (refine wpList_step (fun K hK => ?_); go_simp; (try go_bits); refine hK _ _ ?_; clear hK K)
                        refine wpList_nil ?_
                        repeat ((fail_if_success (with_reducible (show wpList _ _ _ _ _ _))); go_step)
                        iterate 7 (refine wpList_step (fun K hK => ?_); go_simp; (try go_bits); refine hK _ _ ?_; clear hK K)
                        refine wpList_nil ?_
                        repeat ((fail_if_success (with_reducible (show wpList _ _ _ _ _ _))); go_step)
                        (refine wpList_step (fun K hK => ?_); go_simp; (try go_bits); refine hK _ _ ?_; clear hK K)
                        refine wpList_nil ?_
                        repeat ((fail_if_success (with_reducible (show wpList _ _ _ _ _ _))); go_step)
                        iterate 2 (refine wpList_step (fun K hK => ?_); go_simp; (try go_bits); refine hK _ _ ?_; clear hK K)
                        refine wpList_nil ?_
                        repeat ((fail_if_success (with_reducible (show wpList _ _ _ _ _ _))); go_step)
                        iterate 4 (refine wpList_step (fun K hK => ?_); go_simp; (try go_bits); refine hK _ _ ?_; clear hK K)
                        
                        have kq := M4.out.set (k) ((z : Int)); rw [mixi_upd Y X k _ Hup.out] at kq; clear M4; have M4 := Lib.hid kq; clear kq
                        have kq := M2.out.other ⟨B4, k, none⟩ (.int .i64 ((z : Int))) (by simp <;> omega); clear M2; have M2 := Lib.hid kq; clear kq
                        have kq := M3.out.other ⟨B4, k, none⟩ (.int .i64 ((z : Int))) (by simp <;> omega); clear M3; have M3 := Lib.hid kq; clear kq
                        replace HB := Lib.hid (HB.out.setCell (p := ⟨B4, k, none⟩) (show w.heap.size ≤ B4 by omega) (.int .i64 ((z : Int))))
                        obtain ⟨yw601, hwyw601⟩ : ∃ ww, ww = wr.setCell ⟨B4, k, none⟩ (.int .i64 ((z : Int))) := ⟨_, rfl⟩
                        rw [← hwyw601] at M2 M3 M4 HB ⊢
                        clear hwyw601
                        refine wpList_nil ?_
                        clear hc1 hfz hn1 hz2 hz3
                        repeat ((fail_if_success (with_reducible (show wpList _ _ _ _ _ _))); go_step)
                        iterate 3 (refine wpList_step (fun K hK => ?_); go_simp; (try go_bits); refine hK _ _ ?_; clear hK K)
                        refine wpList_nil ?_
                        go_roundw
                        case measure => simp [intOf]; omega
                        case rel => (repeat apply Exists.intro); exact ⟨⟨k + 1, 0, by omega, by decide, by go_num, rfl, S2, M2.out, M3.out, M4.out, HB.out⟩, rfl⟩
                    · by_cases hneg : x < y + cc
                      · have kq2 : ¬ (k : Int) < 32 := by omega
                        have hy0 : y = 0 := by have := L0_top k (by omega); rw [dg_nat, Hy.out] at this; omega
                        subst hy0
                        obtain ⟨s1, s2⟩ := (sub8 Y X L0 k cc x _ H0.out hcc Hx.out Hy.out).1 hneg
                        obtain ⟨z, hz⟩ : ∃ z, z = x + 256 - 0 - cc := ⟨_, rfl⟩
                        rw [← hz] at s1
                        have hn1 : (x : Int) - (cc : Int) < 0 := by omega
                        have hz2 : (x : Int) - (cc : Int) + 256 = (z : Int) := by omega
                        have hup : (z : Int) = dg 256 Y k := by rw [dg_nat, s1]
                        clear hneg hz
                        have S1 := Lib.hid s1; clear s1
                        have S2 := Lib.hid s2; clear s2
                        have Hup := Lib.hid hup; clear hup
                        repeat ((fail_if_success (with_reducible (show wpList _ _ _ _ _ _))); go_step)
                        iterate 2 (refine wpList_step (fun K hK => ?_); go_simp; (try go_bits); refine hK _ _ ?_; clear hK K)
                        refine wpList_nil ?_
                        repeat ((fail_if_success (with_reducible (show wpList _ _ _ _ _ _))); go_step)
                        iterate 6 (refine wpList_step (fun K hK => ?_); go_simp; (try go_bits); refine hK _ _ ?_; clear hK K)
                        refine wpList_nil ?_
                        repeat ((fail_if_success (with_reducible (show wpList _ _ _ _ _ _))); go_step)
                        iterate 2 (refine wpList_step (fun K hK => ?_); go_simp; (try go_bits); refine hK _ _ ?_; clear hK K)
                        refine wpList_nil ?_
                        repeat ((fail_if_success (with_reducible (show wpList _ _ _ _ _ _))); go_step)
                        (refine wpList_step (fun K hK => ?_); go_simp; (try go_bits); refine hK _ _ ?_; clear hK K)
                        refine wpList_nil ?_
                        repeat ((fail_if_success (with_reducible (show wpList _ _ _ _ _ _))); go_step)
                        iterate 2 (refine wpList_step (fun K hK => ?_); go_simp; (try go_bits); refine hK _ _ ?_; clear hK K)
                        refine wpList_nil ?_
                        repeat ((fail_if_success (with_reducible (show wpList _ _ _ _ _ _))); go_step)
                        iterate 3 (refine wpList_step (fun K hK => ?_); go_simp; (try go_bits); refine hK _ _ ?_; clear hK K)
                        refine wpList_nil ?_
                        repeat ((fail_if_success (with_reducible (show wpList _ _ _ _ _ _))); go_step)
                        (refine wpList_step (fun K hK => ?_); go_simp; (try go_bits); refine hK _ _ ?_; clear hK K)
                        refine wpList_nil ?_
                        repeat ((fail_if_success (with_reducible (show wpList _ _ _ _ _ _))); go_step)
                        iterate 4 (refine wpList_step (fun K hK => ?_); go_simp; (try go_bits); refine hK _ _ ?_; clear hK K)
                        
                        have kq := M4.out.set (k) ((z : Int)); rw [mixi_upd Y X k _ Hup.out] at kq; clear M4; have M4 := Lib.hid kq; clear kq
                        have kq := M2.out.other ⟨B4, k, none⟩ (.int .i64 ((z : Int))) (by simp <;> omega); clear M2; have M2 := Lib.hid kq; clear kq
                        have kq := M3.out.other ⟨B4, k, none⟩ (.int .i64 ((z : Int))) (by simp <;> omega); clear M3; have M3 := Lib.hid kq; clear kq
                        replace HB := Lib.hid (HB.out.setCell (p := ⟨B4, k, none⟩) (show w.heap.size ≤ B4 by omega) (.int .i64 ((z : Int))))
                        obtain ⟨yw601, hwyw601⟩ : ∃ ww, ww = wr.setCell ⟨B4, k, none⟩ (.int .i64 ((z : Int))) := ⟨_, rfl⟩
                        rw [← hwyw601] at M2 M3 M4 HB ⊢
                        clear hwyw601
                        refine wpList_nil ?_
                        clear hc1 hfz hn1 hz2
                        repeat ((fail_if_success (with_reducible (show wpList _ _ _ _ _ _))); go_step)
                        iterate 3 (refine wpList_step (fun K hK => ?_); go_simp; (try go_bits); refine hK _ _ ?_; clear hK K)
                        refine wpList_nil ?_
                        go_roundw
                        case measure => simp [intOf]; omega
                        case rel => (repeat apply Exists.intro); exact ⟨⟨k + 1, 1, by omega, by decide, by go_num, rfl, S2, M2.out, M3.out, M4.out, HB.out⟩, rfl⟩
                      · have kq2 : ¬ (k : Int) < 32 := by omega
                        have hy0 : y = 0 := by have := L0_top k (by omega); rw [dg_nat, Hy.out] at this; omega
                        subst hy0
                        obtain ⟨s1, s2⟩ := (sub8 Y X L0 k cc x _ H0.out hcc Hx.out Hy.out).2 (by omega)
                        obtain ⟨z, hz⟩ : ∃ z, z = x - 0 - cc := ⟨_, rfl⟩
                        rw [← hz] at s1
                        have hn1 : ¬ (x : Int) - (cc : Int) < 0 := by omega
                        have hz2 : (x : Int) - (cc : Int) = (z : Int) := by omega
                        have hz3 : (0 : Int) ≤ (z : Int) := by omega
                        have hup : (z : Int) = dg 256 Y k := by rw [dg_nat, s1]
                        clear hneg hz
                        have S1 := Lib.hid s1; clear s1
                        have S2 := Lib.hid s2; clear s2
                        have Hup := Lib.hid hup; clear hup
                        repeat ((fail_if_success (with_reducible (show wpList _ _ _ _ _ _))); go_step)
                        iterate 2 (refine wpList_step (fun K hK => ?_); go_simp; (try go_bits); refine hK _ _ ?_; clear hK K)
                        refine wpList_nil ?_
                        repeat ((fail_if_success (with_reducible (show wpList _ _ _ _ _ _))); go_step)
                        iterate 6 (refine wpList_step (fun K hK => ?_); go_simp; (try go_bits); refine hK _ _ ?_; clear hK K)
                        refine wpList_nil ?_
                        repeat ((fail_if_success (with_reducible (show wpList _ _ _ _ _ _))); go_step)
                        iterate 2 (refine wpList_step (fun K hK => ?_); go_simp; (try go_bits); refine hK _ _ ?_; clear hK K)
                        refine wpList_nil ?_
                        repeat ((fail_if_success (with_reducible (show wpList _ _ _ _ _ _))); go_step)
                        (refine wpList_step (fun K hK => ?_); go_simp; (try go_bits); refine hK _ _ ?_; clear hK K)
                        refine wpList_nil ?_
                        repeat ((fail_if_success (with_reducible (show wpList _ _ _ _ _ _))); go_step)
                        iterate 2 (refine wpList_step (fun K hK => ?_); go_simp; (try go_bits); refine hK _ _ ?_; clear hK K)
                        refine wpList_nil ?_
                        repeat ((fail_if_success (with_reducible (show wpList _ _ _ _ _ _))); go_step)
                        iterate 4 (refine wpList_step (fun K hK => ?_); go_simp; (try go_bits); refine hK _ _ ?_; clear hK K)
                        
                        have kq := M4.out.set (k) ((z : Int)); rw [mixi_upd Y X k _ Hup.out] at kq; clear M4; have M4 := Lib.hid kq; clear kq
                        have kq := M2.out.other ⟨B4, k, none⟩ (.int .i64 ((z : Int))) (by simp <;> omega); clear M2; have M2 := Lib.hid kq; clear kq
                        have kq := M3.out.other ⟨B4, k, none⟩ (.int .i64 ((z : Int))) (by simp <;> omega); clear M3; have M3 := Lib.hid kq; clear kq
                        replace HB := Lib.hid (HB.out.setCell (p := ⟨B4, k, none⟩) (show w.heap.size ≤ B4 by omega) (.int .i64 ((z : Int))))
                        obtain ⟨yw601, hwyw601⟩ : ∃ ww, ww = wr.setCell ⟨B4, k, none⟩ (.int .i64 ((z : Int))) := ⟨_, rfl⟩
                        rw [← hwyw601] at M2 M3 M4 HB ⊢
                        clear hwyw601
                        refine wpList_nil ?_
                        clear hc1 hfz hn1 hz2 hz3
                        repeat ((fail_if_success (with_reducible (show wpList _ _ _ _ _ _))); go_step)
                        iterate 3 (refine wpList_step (fun K hK => ?_); go_simp; (try go_bits); refine hK _ _ ?_; clear hK K)
                        refine wpList_nil ?_
                        go_roundw
                        case measure => simp [intOf]; omega
                        case rel => (repeat apply Exists.intro); exact ⟨⟨k + 1, 0, by omega, by decide, by go_num, rfl, S2, M2.out, M3.out, M4.out, HB.out⟩, rfl⟩
                  · have hk34 : k = 34 := by omega
                    subst hk34
                    clear hk hge
                    rw [mixi_34] at M4
                    repeat ((fail_if_success (with_reducible (show wpList _ _ _ _ _ _))); go_step)
                    iterate 2 (refine wpList_step (fun K hK => ?_); go_simp; (try go_bits); refine hK _ _ ?_; clear hK K)
                    refine wpList_nil ?_
                    repeat ((fail_if_success (with_reducible (show wpList _ _ _ _ _ _))); go_step)
                    go_roundg (Y / L0)
                    case measure => exact HY3.out
                    case rel => exact ⟨Y, Nat.le_refl _, HY1, HY2.out, M2.out, M3.out, M4.out, HB.out⟩
              · have hlt := of_decide_eq_true Hlb.out.symm
                have hfin : X = N / 256 ^ i % L0 := by
                  have := HX1.out
                  rw [Nat.mod_eq_of_lt hlt] at this
                  rw [this, HT'.out]
                clear hlt
                rw [hfin] at M4
                clear hfin
                repeat ((fail_if_success (with_reducible (show wpList _ _ _ _ _ _))); go_step)
                (refine wpList_step (fun K hK => ?_); go_simp; (try go_bits); refine hK _ _ ?_; clear hK K)
                refine wpList_nil ?_
                repeat ((fail_if_success (with_reducible (show wpList _ _ _ _ _ _))); go_step)
                iterate 3 (refine wpList_step (fun K hK => ?_); go_simp; (try go_bits); refine hK _ _ ?_; clear hK K)
                refine wpList_nil ?_
                go_roundw
                case measure => simp [intOf]
                case rel => (repeat apply Exists.intro); exact ⟨⟨i, by omega, rfl, M2.out, M3.out, M4.out, HB.out⟩, rfl⟩
        · obtain ⟨k, rfl⟩ : ∃ k, s = k + 1 := ⟨s - 1, by omega⟩
          have sq : (0 : Int) < ((k + 1 : Nat) : Int) := by omega
          have hx1 := M4.out.cell k (by omega)
          have hx2 := M4.out.cell (k + 1) (by omega)
          rw [upf_at] at hx1
          obtain ⟨x, hx⟩ : ∃ x, x = dg 256 V k := ⟨_, rfl⟩
          rw [← hx] at hx1
          have hfz := M4.out.frozen (k + 1)
          have kb : (k : Int) < 34 := by omega
          have kb1 : (k : Int) + 1 < 34 := by omega
          have kb2 : (0 : Int) ≤ (k : Int) + 1 := by omega
          have Hup := Lib.hid (upf_upd V k x hx)
          clear hx
          repeat ((fail_if_success (with_reducible (show wpList _ _ _ _ _ _))); go_step)
          iterate 2 (refine wpList_step (fun K hK => ?_); go_simp; (try go_bits); refine hK _ _ ?_; clear hK K)
          refine wpList_nil ?_
          repeat ((fail_if_success (with_reducible (show wpList _ _ _ _ _ _))); go_step)
          iterate 7 (refine wpList_step (fun K hK => ?_); go_simp; (try go_bits); refine hK _ _ ?_; clear hK K)
          
          have kq := M4.out.set (k + 1) (x); rw [Hup.out] at kq; clear M4; have M4 := Lib.hid kq; clear kq
          have kq := M2.out.other ⟨B4, k + 1, none⟩ (.int .i64 (x)) (by simp <;> omega); clear M2; have M2 := Lib.hid kq; clear kq
          have kq := M3.out.other ⟨B4, k + 1, none⟩ (.int .i64 (x)) (by simp <;> omega); clear M3; have M3 := Lib.hid kq; clear kq
          replace HB := Lib.hid (HB.out.setCell (p := ⟨B4, k + 1, none⟩) (show w.heap.size ≤ B4 by omega) (.int .i64 (x)))
          obtain ⟨yw201, hwyw201⟩ : ∃ ww, ww = wr.setCell ⟨B4, k + 1, none⟩ (.int .i64 (x)) := ⟨_, rfl⟩
          rw [← hwyw201] at M2 M3 M4 HB ⊢
          clear hwyw201
          refine wpList_nil ?_
          clear hx1 hx2 hfz kb1 kb2 sq hs hs0
          repeat ((fail_if_success (with_reducible (show wpList _ _ _ _ _ _))); go_step)
          iterate 3 (refine wpList_step (fun K hK => ?_); go_simp; (try go_bits); refine hK _ _ ?_; clear hK K)
          refine wpList_nil ?_
          go_roundw
          case measure => simp [intOf]
          case rel => (repeat apply Exists.intro); exact ⟨⟨k, by omega, by go_num, M2.out, M3.out, M4.out, HB.out⟩, rfl⟩
end Go.Proofs.Ytjiagjonlcadiaa
end
section
namespace Go.Proofs.Ytjiagjonlcadiaa
open Go.RowKit Go.Lib

theorem ent71 : _root_.Go.Enters Try.prog 71 := ⟨_, Try.func71, by kernel_rfl, by kernel_rfl⟩
theorem ent24 : _root_.Go.Enters Try.prog 24 := ⟨_, Try.func24, by kernel_rfl, by kernel_rfl⟩
theorem info3 : (Try.prog.info? 3).map (fun i => (i.zero, i.size, i.bytes)) = some (some (.int .i64 0), 1, 8) := by kernel_rfl
/-- the first k integers, as values -/
def ivals (vals : Nat → Int) (k : Nat) : List Value := (List.range k).map fun j => Value.int .i64 (vals j)
theorem ivals_succ (vals : Nat → Int) (k : Nat) : ivals vals (k + 1) = ivals vals k ++ [.int .i64 (vals k)] := by simp [ivals, List.range_succ]
theorem own_ints {W : World} {base len : Nat} {v : Value} {g : Nat → Int} (h : W.ownsRow base 3 1 v len (ivals g len)) : ∃ a cap, v = .slice a len cap ∧ IntsA W a len g := by
  obtain ⟨hl, hr⟩ := h
  rcases hr with ⟨rfl, rfl⟩ | ⟨b, cap, cur, rfl, _, hg, hn, _, hcs, htk⟩
  · exact ⟨none, 0, rfl, .inl rfl⟩
  · refine ⟨_, cap, rfl, .inr ⟨b, rfl, (Array.getElem?_eq_some_iff.1 hg).1, fun i hi => ?_⟩⟩
    have hm : Has W b cur 3 := hg
    rw [hm.cellAt]
    have h2 : (cur.toList.take (len * 1))[i]? = some (.int .i64 (g i)) := by rw [htk]; simp [ivals, hi]
    rw [List.getElem?_take_of_lt (by omega)] at h2
    simpa using h2

set_option maxRecDepth 100000 in
set_option linter.unusedSimpArgs false in
set_option maxHeartbeats 4000000 in
theorem refres_any (a : Option Addr) (len cap n : Nat) (hlen : len ≤ 1000) (hn : n < 256 ^ len) (w : World) (hb : Byts w a len n) :
    Calls Try.prog 24 #[.slice a len cap] w fun e w' => e = .returned (.agg (k32 (n % L0))) ∧ Below w.heap.size w w' := by
  obtain ⟨i0, hi, hz0, hz1, hz2⟩ := info_parts info3
  have hre := fun a cap w h => rest_any a len cap n hlen hn w h
  have MBY := Lib.hid hb
  clear hb hn
  have Hre := Lib.hid hre; clear hre
  go_enter Try.func24, Try.ntmps24
  repeat ((fail_if_success (with_reducible (show wpList _ _ _ _ _ _))); go_step)
  (refine wpList_step (fun K hK => ?_); go_simp; (try go_bits); refine hK _ _ ?_; clear hK K)
  refine wpList_nil ?_
  have M2 := Lib.hid (HasN.new w  (#[.int .u8 0, .int .u8 0, .int .u8 0, .int .u8 0, .int .u8 0, .int .u8 0, .int .u8 0, .int .u8 0, .int .u8 0, .int .u8 0, .int .u8 0, .int .u8 0, .int .u8 0, .int .u8 0, .int .u8 0, .int .u8 0, .int .u8 0, .int .u8 0, .int .u8 0, .int .u8 0, .int .u8 0, .int .u8 0, .int .u8 0, .int .u8 0, .int .u8 0, .int .u8 0, .int .u8 0, .int .u8 0, .int .u8 0, .int .u8 0, .int .u8 0, .int .u8 0] : Array Value) 24 32 (by kernel_rfl))
  have HB := Lib.hid (below_1 w (.cells (#[.int .u8 0, .int .u8 0, .int .u8 0, .int .u8 0, .int .u8 0, .int .u8 0, .int .u8 0, .int .u8 0, .int .u8 0, .int .u8 0, .int .u8 0, .int .u8 0, .int .u8 0, .int .u8 0, .int .u8 0, .int .u8 0, .int .u8 0, .int .u8 0, .int .u8 0, .int .u8 0, .int .u8 0, .int .u8 0, .int .u8 0, .int .u8 0, .int .u8 0, .int .u8 0, .int .u8 0, .int .u8 0, .int .u8 0, .int .u8 0, .int .u8 0, .int .u8 0] : Array Value) 24))
  obtain ⟨yw1, hwyw1⟩ : ∃ ww, ww = (w.alloc (.cells (#[.int .u8 0, .int .u8 0, .int .u8 0, .int .u8 0, .int .u8 0, .int .u8 0, .int .u8 0, .int .u8 0, .int .u8 0, .int .u8 0, .int .u8 0, .int .u8 0, .int .u8 0, .int .u8 0, .int .u8 0, .int .u8 0, .int .u8 0, .int .u8 0, .int .u8 0, .int .u8 0, .int .u8 0, .int .u8 0, .int .u8 0, .int .u8 0, .int .u8 0, .int .u8 0, .int .u8 0, .int .u8 0, .int .u8 0, .int .u8 0, .int .u8 0, .int .u8 0] : Array Value) 24)) := ⟨_, rfl⟩
  rw [← hwyw1] at M2 HB ⊢
  clear hwyw1
  repeat ((fail_if_success (with_reducible (show wpList _ _ _ _ _ _))); go_step)
  (refine wpList_step (fun K hK => ?_); go_simp; (try go_bits); refine hK _ _ ?_; clear hK K)
  refine wpList_nil ?_
  repeat ((fail_if_success (with_reducible (show wpList _ _ _ _ _ _))); go_step)
  (refine wpList_step (fun K hK => ?_); go_simp; (try go_bits); refine hK _ _ ?_; clear hK K)
  refine wpList_nil ?_
  repeat ((fail_if_success (with_reducible (show wpList _ _ _ _ _ _))); go_step)
  go_loopw [3, 4] (fun v i wr => ∃ k : Nat, k ≤ len ∧ i = .int .i64 (k : Int) ∧ wr.ownsRow (w.heap.size + 1) 3 1 v k (ivals (dg 256 n) k) ∧ HasN wr w.heap.size 32 24 ∧ Below w.heap.size w wr) (fun _ i _ => (len - (intOf i).toNat))
  case atStart => exact ⟨0, Nat.zero_le _, rfl, World.ownsRow_nil _ _ _ _, M2.out, HB.out⟩
  case round =>
    clear M2 HB
    obtain ⟨k, hk, rfl, hown, m2, hB⟩ := hrel
    obtain ⟨v, rfl⟩ : ∃ v, v = u3 := ⟨_, rfl⟩
    have Hown := Lib.hid hown; clear hown
    have M2 := Lib.hid m2; clear m2
    have HB := Lib.hid hB; clear hB
    rcases Nat.lt_or_ge k len with hlt | hge
    · rcases MBY.out with h0 | ⟨b, o, rfl, hbl, hcb⟩
      · omega
      have kq : (k : Int) < (len : Int) := by omega
      have hc1 := (HB.out.cell (p := ⟨b, o + k, none⟩) hbl).trans (hcb k hlt)
      clear hcb
      obtain ⟨c, hc⟩ : ∃ c, n / 256 ^ k % 256 = c := ⟨_, rfl⟩
      have lc : c < 256 := by omega
      rw [dg_nat, hc] at hc1
      have hdc : dg 256 n k = (c : Int) := by rw [dg_nat, hc]
      clear hc
      have Hdc := Lib.hid hdc; clear hdc
      repeat ((fail_if_success (with_reducible (show wpList _ _ _ _ _ _))); go_step)
      iterate 4 (refine wpList_step (fun K hK => ?_); go_simp; (try go_bits); refine hK _ _ ?_; clear hK K)
      refine wpList_nil ?_
      repeat ((fail_if_success (with_reducible (show wpList _ _ _ _ _ _))); go_step)
      iterate 7 (refine wpList_step (fun K hK => ?_); go_simp; (try go_bits); refine hK _ _ ?_; clear hK K)
      
      clear hc1
      refine wpList_append_own _ rfl _ _ 88 rfl (w.heap.size + 1) 3 i0 (.int .i64 0) 1 8 Try.underlying88 hi hz0 hz1 hz2 rfl (by decide) v k (ivals (dg 256 n) k) rfl (Hown.out.alloc _) ⟨wr.heap.size, 0, none⟩ 1 1 [.int .i64 (c : Int)] rfl rfl (cell_one_new _ _ _) (by simp [Value.oneCell']) (by unfold maxLen; omega) (by omega) (by have := M2.out.lt; simp; omega) ?_
      intro v' w1 hown' hgrow _
      rw [← Hdc.out, ← ivals_succ] at hown'
      have hlt2 := M2.out.lt
      have hb1 : Below w.heap.size w w1 := (HB.out.alloc HB.out.size (.cells #[.int .i64 (c : Int)] 3)).grown hgrow (by rw [World.size_alloc]; have := HB.out.size; omega) (fun j e => by have := (Hown.out.lt j e).1; omega)
      have m2' : HasN w1 w.heap.size 32 24 := by
        obtain ⟨cs, hn, hh⟩ := M2.out.alloc (.cells #[.int .i64 (c : Int)] 3)
        exact ⟨cs, hn, (hgrow.block _ hh.lt (fun e => by have := (Hown.out.lt _ e.symm).1; omega)).trans hh⟩
      clear Hown M2 HB hgrow hlt2
      have Hown' := Lib.hid hown'; clear hown'
      have M2' := Lib.hid m2'; clear m2'
      have Hb1 := Lib.hid hb1; clear hb1
      (try simp only [Act.put, sI, sS, sZ])
      (refine wpList_step (fun K hK => ?_); go_simp; (try go_bits); refine hK _ _ ?_; clear hK K)
      refine wpList_nil ?_
      repeat ((fail_if_success (with_reducible (show wpList _ _ _ _ _ _))); go_step)
      iterate 3 (refine wpList_step (fun K hK => ?_); go_simp; (try go_bits); refine hK _ _ ?_; clear hK K)
      refine wpList_nil ?_
      go_roundw
      case measure => simp [intOf]; omega
      case rel => (repeat apply Exists.intro); exact ⟨⟨k + 1, by omega, by go_num, Hown'.out, M2'.out, Hb1.out⟩, rfl⟩
    · have hkl : k = len := by omega
      subst hkl
      clear hk hge
      obtain ⟨a2, cap2, rfl, hia⟩ := own_ints Hown.out
      have Hia := Lib.hid hia; clear hia
      repeat ((fail_if_success (with_reducible (show wpList _ _ _ _ _ _))); go_step)
      iterate 4 (refine wpList_step (fun K hK => ?_); go_simp; (try go_bits); refine hK _ _ ?_; clear hK K)
      refine wpList_nil ?_
      repeat ((fail_if_success (with_reducible (show wpList _ _ _ _ _ _))); go_step)
      (refine wpList_step (fun K hK => ?_); go_simp; (try go_bits); refine hK _ _ ?_; clear hK K)
      refine wpList_call (by rfl) rfl rfl (by rfl) ent71 (by rfl) (Hre.out a2 cap2 _ Hia.out) 20 rfl ?_
      rintro e uw101 ⟨rfl, hb⟩
      replace M2 := Lib.hid (M2.out.call hb)
      replace HB := Lib.hid (held_next HB.out hb)
      refine ⟨_, rfl, ?_⟩
      clear hb
      (try simp only [Act.put, sI, sS, sZ])
      first | (obtain ⟨Zq, hZ, mZ⟩ := M2.out) | (obtain ⟨Zq, hZ, mZ⟩ := M2.out.toN (k32_size ..))
      refine wpList_store2 (by rfl) 24 _ _ rfl rfl (w.heap.size) (k32 (n % L0)) rfl rfl 24 Zq mZ (by rw [k32_size]; kernel_rfl) (hZ.trans (k32_size ..).symm) (row_one _ _ _) ?_
      intro yw101 hw2
      replace M2 := Lib.hid (mZ.setRow (k32 (n % L0)))
      replace HB := Lib.hid (below_setRow HB.out (w.heap.size) (k32 (n % L0)) (by omega))
      rw [← hw2] at M2 HB; clear mZ hZ hw2
      refine wpList_nil ?_
      go_wp2_with fail
      exact bodyPost_ret (v := .agg (k32 (n % L0))) (results_cell_row (t := 24) (by rfl) _ _ (w.heap.size) _ _ _ rfl M2.out Try.underlying24 rfl (by rw [k32_size]; kernel_rfl)) rfl ⟨rfl, HB.out⟩
end Go.Proofs.Ytjiagjonlcadiaa
end
section
namespace Go.Proofs.Ytjiagjonlcadiaa
open Go.RowKit Go.Lib

theorem kq_eq (x y : Nat) (hx : x < 115792089237316195423570985008687907853269984665640564039457584007913129639936) (hy : y < 115792089237316195423570985008687907853269984665640564039457584007913129639936) (w : World) : (Op.equalIn 10000 24 (.agg (k32 x)) (.agg (k32 y))).run Try.prog w = .ok (decide (x = y)) w := by
  rw [← eqr_dg 256 32 x y (by rw [p256_32]; exact hx) (by rw [p256_32]; exact hy)]
  exact run_equalIn_row w 9998 24 5 32 .u8 Try.underlying24 Try.underlying5 sz_u8 _ _
theorem kq_same (x : Nat) (hx : x < 115792089237316195423570985008687907853269984665640564039457584007913129639936) (w : World) : (Op.equalIn 10000 24 (.agg (k32 x)) (.agg (k32 x))).run Try.prog w = .ok true w := by
  rw [kq_eq x x hx hx w, decide_eq_true rfl]
theorem one_byts {w : World} {b c : Nat} {t : TypeId} (h : Has w b #[.int .u8 (c : Int)] t) (hc : c < 256) : Byts w (some ⟨b, 0, none⟩) 1 c :=
  .inr ⟨b, 0, rfl, h.lt, fun i hi => by
    obtain rfl : i = 0 := by omega
    rw [dg_nat, Nat.pow_zero, Nat.div_one, Nat.mod_eq_of_lt hc]
    exact h.one⟩
theorem L0_256 (n : Nat) : n % L0 < 115792089237316195423570985008687907853269984665640564039457584007913129639936 := by
  have := Nat.mod_lt n (show 0 < L0 by decide)
  rw [L0_val] at this ⊢; omega
theorem k5 : 5 % L0 = 5 := by decide +kernel
theorem bd24_5 : Try.prog.built 24 [(0, .int .u8 5)] = some (k32 5) := by kernel_rfl

set_option maxRecDepth 100000 in
set_option linter.unusedSimpArgs false in
set_option maxHeartbeats 4000000 in
theorem law_residues (a : Option Addr) (len cap n : Nat) (hlen : len ≤ 64) (hn : n < 256 ^ len) (w : World) (hb : Byts w a len n) :
    Calls Try.prog 3 #[.slice a len cap] w fun e w' => e = .returned (.bool true) ∧ Below w.heap.size w w' := by
  have hr5 := fun b w (h : Has w b #[.int .u8 ((5 : Nat) : Int)] 5) => residue_any (some ⟨b, 0, none⟩) 1 1 5 (by decide) (by decide) w (one_byts h (by decide))
  rw [k5] at hr5
  have heq5 := fun w => kq_same 5 (by decide) w
  have hres := fun w h => residue_any a len cap n hlen hn w h
  have href := fun w h => refres_any a len cap n (by omega) hn w h
  have hlt : n % L0 < L0 := Nat.mod_lt _ (by decide)
  have hle := fun w => kleast_any (n % L0) (L0_256 n) w
  rw [decide_eq_true hlt] at hle
  have heq := fun w => kq_same (n % L0) (L0_256 n) w
  obtain ⟨R, hR⟩ : ∃ R, R = n % L0 := ⟨_, rfl⟩
  simp only [← hR] at hres href hle heq
  have hc64 : (len : Int) ≤ 64 := by omega
  have MBY := Lib.hid hb
  clear hb hn hlt hR
  have Hr5 := Lib.hid hr5; clear hr5
  have Heq5 := Lib.hid heq5; clear heq5
  have Hres := Lib.hid hres; clear hres
  have Href := Lib.hid href; clear href
  have Hle := Lib.hid hle; clear hle
  have Heq := Lib.hid heq; clear heq
  go_enter Try.func3, Try.ntmps3
  repeat ((fail_if_success (with_reducible (show wpList _ _ _ _ _ _))); go_step)
  (refine wpList_step (fun K hK => ?_); go_simp; (try go_bits); refine hK _ _ ?_; clear hK K)
  refine wpList_nil ?_
  have HB := Lib.hid (Below.refl w.heap.size w)
  repeat ((fail_if_success (with_reducible (show wpList _ _ _ _ _ _))); go_step)
  refine wpList_step (fun K hK => ?_)
  go_simp
  refine hK _ _ ?_
  clear hK K
  have hb := below_1 w (.cells #[.int .u8 5] 5)
  have nwMS := Has.new w #[.int .u8 5] 5
  obtain ⟨yw1, hwyw1⟩ : ∃ ww, ww = w.alloc (.cells #[.int .u8 5] 5) := ⟨_, rfl⟩
  rw [← hwyw1] at hb nwMS ⊢
  clear hwyw1
  replace HB := Lib.hid (held_next HB.out hb)
  clear hb
  have MS := Lib.hid nwMS; clear nwMS
  (try simp only [Act.put, sI, sS, sZ])
  refine wpList_call (by rfl) rfl rfl (by rfl) ent23 (by rfl) (Hr5.out _ _ MS.out) 8 rfl ?_
  rintro e uw1 ⟨rfl, hb⟩
  replace MS := Lib.hid (MS.out.call hb)
  replace HB := Lib.hid (held_next HB.out hb)
  refine ⟨_, rfl, ?_⟩
  clear hb
  (try simp only [Act.put, sI, sS, sZ])
  iterate 3 (refine wpList_step (fun K hK => ?_); go_simp; (try go_bits); refine hK _ _ ?_; clear hK K)
  
  clear MS
  refine wpList_alloc (by rfl) 24 rfl _ al24 3 rfl ?_
  intro yw2 hw2
  have hsz := HB.out.size
  have M3 := Lib.hid (HasN.new uw1 z24 24 32 (by kernel_rfl))
  replace HB := Lib.hid (HB.out.alloc hsz (.cells z24 24))
  rw [← hw2] at M3 HB; clear hw2
  (try simp only [Act.put, sI, sS, sZ])
  first | (obtain ⟨Zq, hZ, mZ⟩ := M3.out) | (obtain ⟨Zq, hZ, mZ⟩ := M3.out.toN (k32_size ..))
  refine wpList_store2 (by rfl) 24 _ _ rfl rfl (uw1.heap.size) (k32 5) rfl rfl 24 Zq mZ (by rw [k32_size]; kernel_rfl) (hZ.trans (k32_size ..).symm) (row_one _ _ _) ?_
  intro yw3 hw2
  replace M3 := Lib.hid (mZ.setRow (k32 5))
  replace HB := Lib.hid (below_setRow HB.out (uw1.heap.size) (k32 5) (by omega))
  rw [← hw2] at M3 HB; clear mZ hZ hw2
  (refine wpList_step (fun K hK => ?_); go_simp; (try go_bits); refine hK _ _ ?_; clear hK K)
  refine wpList_nil ?_
  repeat ((fail_if_success (with_reducible (show wpList _ _ _ _ _ _))); go_step)
  have heq5 := Heq5.out
  iterate 3 (refine wpList_step (fun K hK => ?_); go_simp; (try go_bits); refine hK _ _ ?_; clear hK K)
  refine wpList_load (by rfl) 24 _ rfl (uw1.heap.size) rfl 24 (k32 5) M3.out Try.underlying24 rfl (by rw [k32_size]; kernel_rfl) 14 rfl ?_
  (try simp only [Act.put, sI, sS, sZ])
  refine wpList_built (by rfl) 24 _ rfl _ (by rfl) (k32 5) (bd24_5) 15 rfl ?_
  (try simp only [Act.put, sI, sS, sZ])
  iterate 2 (refine wpList_step (fun K hK => ?_); go_simp; (try go_bits); refine hK _ _ ?_; clear hK K)
  refine wpList_nil ?_
  clear heq5
  repeat ((fail_if_success (with_reducible (show wpList _ _ _ _ _ _))); go_step)
  have hby := MBY.out.call HB.out
  have Hby := Lib.hid hby; clear hby
  (refine wpList_step (fun K hK => ?_); go_simp; (try go_bits); refine hK _ _ ?_; clear hK K)
  refine wpList_call (by rfl) rfl rfl (by rfl) ent23 (by rfl) (Hres.out _ Hby.out) 20 rfl ?_
  rintro e uw2 ⟨rfl, hb⟩
  replace M3 := Lib.hid (M3.out.call hb)
  replace HB := Lib.hid (held_next HB.out hb)
  refine ⟨_, rfl, ?_⟩
  clear hb
  (try simp only [Act.put, sI, sS, sZ])
  
  clear Hby
  iterate 3 (refine wpList_step (fun K hK => ?_); go_simp; (try go_bits); refine hK _ _ ?_; clear hK K)
  refine wpList_alloc (by rfl) 24 rfl _ al24 5 rfl ?_
  intro yw4 hw2
  have hlt5 := M3.out.lt
  have hsz := HB.out.size
  replace M3 := Lib.hid (M3.out.alloc (.cells z24 24))
  have M5 := Lib.hid (HasN.new uw2 z24 24 32 (by kernel_rfl))
  replace HB := Lib.hid (HB.out.alloc hsz (.cells z24 24))
  rw [← hw2] at M3 M5 HB; clear hw2
  (try simp only [Act.put, sI, sS, sZ])
  first | (obtain ⟨Zq, hZ, mZ⟩ := M5.out) | (obtain ⟨Zq, hZ, mZ⟩ := M5.out.toN (k32_size ..))
  refine wpList_store2 (by rfl) 24 _ _ rfl rfl (uw2.heap.size) (k32 R) rfl rfl 24 Zq mZ (by rw [k32_size]; kernel_rfl) (hZ.trans (k32_size ..).symm) (row_one _ _ _) ?_
  intro yw6 hw2
  replace M3 := Lib.hid (M3.out.setRow_other (uw2.heap.size) (k32 R) (by omega))
  replace M5 := Lib.hid (mZ.setRow (k32 R))
  replace HB := Lib.hid (below_setRow HB.out (uw2.heap.size) (k32 R) (by omega))
  rw [← hw2] at M3 M5 HB; clear mZ hZ hw2
  (refine wpList_step (fun K hK => ?_); go_simp; (try go_bits); refine hK _ _ ?_; clear hK K)
  refine wpList_nil ?_
  repeat ((fail_if_success (with_reducible (show wpList _ _ _ _ _ _))); go_step)
  iterate 3 (refine wpList_step (fun K hK => ?_); go_simp; (try go_bits); refine hK _ _ ?_; clear hK K)
  refine wpList_nil ?_
  repeat ((fail_if_success (with_reducible (show wpList _ _ _ _ _ _))); go_step)
  have hby := MBY.out.call HB.out
  have heq := Heq.out
  have Hby := Lib.hid hby; clear hby
  refine wp_region_noPanic ?_
  refine wp_region_go 99 12 #[ff,ff,ff,ff,ff,ff,ff,ff,ff,ff,ff,ff] (by kernel_rfl) rfl rfl ?_
  intro W7 hW7
  rw [← hW7] at M3 M5 Hby HB
  clear hW7
  refine go_take2 0 33 #[tt,ff,ff,ff,ff,ff,ff,ff,ff,ff,ff,ff] (v := ?uv1) rfl rfl rfl (by kernel_rfl) (Or.inl ⟨by rfl, ?uy1⟩) ((below_dr W7)) ?urest1
  case uy1 => (intro _ _; go_simp; try with_reducible rfl)
  (try simp only [sI, sS, sZ])
  refine go_take2 1 34 #[tt,tt,ff,ff,ff,ff,ff,ff,ff,ff,ff,ff] (v := ?uv2) rfl rfl rfl (by kernel_rfl) (Or.inl ⟨by rfl, ?uy2⟩) ((below_dr W7)) ?urest2
  case uy2 => (intro _ _; go_simp; try with_reducible rfl)
  (try simp only [sI, sS, sZ])
  refine go_take2 2 35 #[tt,tt,tt,ff,ff,ff,ff,ff,ff,ff,ff,ff] rfl rfl rfl (by kernel_rfl) (yieldsIf_load_row (by rfl) 24 _ rfl (uw2.heap.size) rfl 24 (k32 R) (fun _ h => M5.out.below h M5.out.lt) Try.underlying24 rfl (by rw [k32_size]; kernel_rfl)) ((below_dr W7)) ?_
  (try simp only [sI, sS, sZ])
  refine go_take2 3 36 #[tt,tt,tt,tt,ff,ff,ff,ff,ff,ff,ff,ff] (v := ?uv3) rfl rfl rfl (by kernel_rfl) (Or.inl ⟨by rfl, ?uy3⟩) ((below_dr W7)) ?urest3
  case uy3 => (intro _ _; go_simp; try with_reducible rfl)
  (try simp only [sI, sS, sZ])
  refine wpBut_r1 (i := 4) (by kernel_rfl) ?_
  refine go_call 4 37 #[tt,tt,tt,tt,tt,ff,ff,ff,ff,ff,ff,ff] rfl rfl rfl (by rfl) rfl rfl (by rfl) ent24 (by rfl) (Href.out _ (Hby.out.call (below_dr _))) ?_
  rintro e wW71 ⟨rfl, hb⟩
  have hkW71 := held_next (below_dr W7) hb
  refine ⟨_, rfl, fun _ => hkW71, ?_⟩
  clear hb
  (try simp only [sI, sS, sZ])
  refine go_take2 5 38 #[tt,tt,tt,tt,tt,tt,ff,ff,ff,ff,ff,ff] (v := ?uv4) rfl rfl rfl (by kernel_rfl) (Or.inl ⟨by rfl, ?uy4⟩) (hkW71) ?urest4
  case uy4 => (intro _ _; go_simp; try with_reducible rfl)
  (try simp only [sI, sS, sZ])
  refine go_take2 6 39 #[tt,tt,tt,tt,tt,tt,tt,ff,ff,ff,ff,ff] (v := ?uv5) rfl rfl rfl (by kernel_rfl) (Or.inl ⟨by rfl, ?uy5⟩) (hkW71) ?urest5
  case uy5 => (intro _ _; go_simp; try with_reducible rfl)
  (try simp only [sI, sS, sZ])
  refine go_take2 7 40 #[tt,tt,tt,tt,tt,tt,tt,tt,ff,ff,ff,ff] (v := ?uv6) rfl rfl rfl (by kernel_rfl) (Or.inl ⟨by rfl, ?uy6⟩) (hkW71) ?urest6
  case uy6 => (intro _ _; go_simp; try with_reducible rfl)
  (try simp only [sI, sS, sZ])
  refine go_take2 8 41 #[tt,tt,tt,tt,tt,tt,tt,tt,tt,ff,ff,ff] rfl rfl rfl (by kernel_rfl) (yieldsIf_load_row (by rfl) 24 _ rfl (uw2.heap.size) rfl 24 (k32 R) (fun _ h => M5.out.below h M5.out.lt) Try.underlying24 rfl (by rw [k32_size]; kernel_rfl)) (hkW71) ?_
  (try simp only [sI, sS, sZ])
  refine wpBut_r1 (i := 9) (by kernel_rfl) ?_
  refine go_call 9 42 #[tt,tt,tt,tt,tt,tt,tt,tt,tt,tt,ff,ff] rfl rfl rfl (by rfl) rfl rfl (by rfl) ent25 (by rfl) (Hle.out _) ?_
  rintro e wW72 ⟨rfl, hb⟩
  have hkW72 := held_next hkW71 hb
  refine ⟨_, rfl, fun _ => hkW72, ?_⟩
  clear hb
  (try simp only [sI, sS, sZ])
  refine go_take2 10 43 #[tt,tt,tt,tt,tt,tt,tt,tt,tt,tt,tt,ff] (v := ?uv7) rfl rfl rfl (by kernel_rfl) (Or.inl ⟨by rfl, ?uy7⟩) (hkW72) ?urest7
  case uy7 => (intro _ _; go_simp; try with_reducible rfl)
  (try simp only [sI, sS, sZ])
  refine go_take2 11 2 #[tt,tt,tt,tt,tt,tt,tt,tt,tt,tt,tt,tt] (v := ?uv8) rfl rfl rfl (by kernel_rfl) (Or.inl ⟨by rfl, ?uy8⟩) (hkW72) ?urest8
  case uy8 => (intro _ _; go_simp; try with_reducible rfl)
  (try simp only [sI, sS, sZ])
  refine wpBut_done (by kernel_rfl) (NoPanic.normal ?_)
  replace M3 := Lib.hid (M3.out.call hkW72)
  replace M5 := Lib.hid (M5.out.call hkW72)
  replace Hby := Lib.hid (Hby.out.call hkW72)
  replace HB := Lib.hid (held_next HB.out hkW72)
  go_wp2_with fail
  go_ret
  exact ⟨rfl, HB.out⟩

set_option maxRecDepth 100000 in
set_option linter.unusedSimpArgs false in
set_option maxHeartbeats 4000000 in
theorem law_residues_long (a : Option Addr) (len cap : Nat) (hlen : 64 < len) (hmax : len ≤ 9223372036854775807) (w : World) :
    Calls Try.prog 3 #[.slice a len cap] w fun e w' => e = .returned (.bool true) ∧ Below w.heap.size w w' := by
  have hr5 := fun b w (h : Has w b #[.int .u8 ((5 : Nat) : Int)] 5) => residue_any (some ⟨b, 0, none⟩) 1 1 5 (by decide) (by decide) w (one_byts h (by decide))
  rw [k5] at hr5
  have heq5 := fun w => kq_same 5 (by decide) w
  have heq0 := fun w => kq_same 0 (by decide) w
  have hres := fun w => residue_long a len cap hlen hmax w
  have hc64 : (64 : Int) < (len : Int) := by omega
  have Hr5 := Lib.hid hr5; clear hr5
  have Heq5 := Lib.hid heq5; clear heq5
  have Heq0 := Lib.hid heq0; clear heq0
  have Hres := Lib.hid hres; clear hres
  go_enter Try.func3, Try.ntmps3
  repeat ((fail_if_success (with_reducible (show wpList _ _ _ _ _ _))); go_step)
  (refine wpList_step (fun K hK => ?_); go_simp; (try go_bits); refine hK _ _ ?_; clear hK K)
  refine wpList_nil ?_
  have HB := Lib.hid (Below.refl w.heap.size w)
  repeat ((fail_if_success (with_reducible (show wpList _ _ _ _ _ _))); go_step)
  refine wpList_step (fun K hK => ?_)
  go_simp
  refine hK _ _ ?_
  clear hK K
  have hb := below_1 w (.cells #[.int .u8 5] 5)
  have nwMS := Has.new w #[.int .u8 5] 5
  obtain ⟨yw1, hwyw1⟩ : ∃ ww, ww = w.alloc (.cells #[.int .u8 5] 5) := ⟨_, rfl⟩
  rw [← hwyw1] at hb nwMS ⊢
  clear hwyw1
  replace HB := Lib.hid (held_next HB.out hb)
  clear hb
  have MS := Lib.hid nwMS; clear nwMS
  (try simp only [Act.put, sI, sS, sZ])
  refine wpList_call (by rfl) rfl rfl (by rfl) ent23 (by rfl) (Hr5.out _ _ MS.out) 8 rfl ?_
  rintro e uw1 ⟨rfl, hb⟩
  replace MS := Lib.hid (MS.out.call hb)
  replace HB := Lib.hid (held_next HB.out hb)
  refine ⟨_, rfl, ?_⟩
  clear hb
  (try simp only [Act.put, sI, sS, sZ])
  iterate 3 (refine wpList_step (fun K hK => ?_); go_simp; (try go_bits); refine hK _ _ ?_; clear hK K)
  
  clear MS
  refine wpList_alloc (by rfl) 24 rfl _ al24 3 rfl ?_
  intro yw2 hw2
  have hsz := HB.out.size
  have M3 := Lib.hid (HasN.new uw1 z24 24 32 (by kernel_rfl))
  replace HB := Lib.hid (HB.out.alloc hsz (.cells z24 24))
  rw [← hw2] at M3 HB; clear hw2
  (try simp only [Act.put, sI, sS, sZ])
  first | (obtain ⟨Zq, hZ, mZ⟩ := M3.out) | (obtain ⟨Zq, hZ, mZ⟩ := M3.out.toN (k32_size ..))
  refine wpList_store2 (by rfl) 24 _ _ rfl rfl (uw1.heap.size) (k32 5) rfl rfl 24 Zq mZ (by rw [k32_size]; kernel_rfl) (hZ.trans (k32_size ..).symm) (row_one _ _ _) ?_
  intro yw3 hw2
  replace M3 := Lib.hid (mZ.setRow (k32 5))
  replace HB := Lib.hid (below_setRow HB.out (uw1.heap.size) (k32 5) (by omega))
  rw [← hw2] at M3 HB; clear mZ hZ hw2
  (refine wpList_step (fun K hK => ?_); go_simp; (try go_bits); refine hK _ _ ?_; clear hK K)
  refine wpList_nil ?_
  repeat ((fail_if_success (with_reducible (show wpList _ _ _ _ _ _))); go_step)
  have heq5 := Heq5.out
  iterate 3 (refine wpList_step (fun K hK => ?_); go_simp; (try go_bits); refine hK _ _ ?_; clear hK K)
  refine wpList_load (by rfl) 24 _ rfl (uw1.heap.size) rfl 24 (k32 5) M3.out Try.underlying24 rfl (by rw [k32_size]; kernel_rfl) 14 rfl ?_
  (try simp only [Act.put, sI, sS, sZ])
  refine wpList_built (by rfl) 24 _ rfl _ (by rfl) (k32 5) (bd24_5) 15 rfl ?_
  (try simp only [Act.put, sI, sS, sZ])
  iterate 2 (refine wpList_step (fun K hK => ?_); go_simp; (try go_bits); refine hK _ _ ?_; clear hK K)
  refine wpList_nil ?_
  clear heq5
  repeat ((fail_if_success (with_reducible (show wpList _ _ _ _ _ _))); go_step)
  (refine wpList_step (fun K hK => ?_); go_simp; (try go_bits); refine hK _ _ ?_; clear hK K)
  refine wpList_call (by rfl) rfl rfl (by rfl) ent23 (by rfl) (Hres.out _) 20 rfl ?_
  rintro e uw2 ⟨rfl, hb⟩
  replace M3 := Lib.hid (M3.out.call hb)
  replace HB := Lib.hid (held_next HB.out hb)
  refine ⟨_, rfl, ?_⟩
  clear hb
  (try simp only [Act.put, sI, sS, sZ])
  iterate 3 (refine wpList_step (fun K hK => ?_); go_simp; (try go_bits); refine hK _ _ ?_; clear hK K)
  refine wpList_alloc (by rfl) 24 rfl _ al24 5 rfl ?_
  intro yw4 hw2
  have hlt5 := M3.out.lt
  have hsz := HB.out.size
  replace M3 := Lib.hid (M3.out.alloc (.cells z24 24))
  have M5 := Lib.hid (HasN.new uw2 z24 24 32 (by kernel_rfl))
  replace HB := Lib.hid (HB.out.alloc hsz (.cells z24 24))
  rw [← hw2] at M3 M5 HB; clear hw2
  (try simp only [Act.put, sI, sS, sZ])
  first | (obtain ⟨Zq, hZ, mZ⟩ := M5.out) | (obtain ⟨Zq, hZ, mZ⟩ := M5.out.toN (k32_size ..))
  refine wpList_store2 (by rfl) 24 _ _ rfl rfl (uw2.heap.size) (k32 0) rfl rfl 24 Zq mZ (by rw [k32_size]; kernel_rfl) (hZ.trans (k32_size ..).symm) (row_one _ _ _) ?_
  intro yw6 hw2
  replace M3 := Lib.hid (M3.out.setRow_other (uw2.heap.size) (k32 0) (by omega))
  replace M5 := Lib.hid (mZ.setRow (k32 0))
  replace HB := Lib.hid (below_setRow HB.out (uw2.heap.size) (k32 0) (by omega))
  rw [← hw2] at M3 M5 HB; clear mZ hZ hw2
  (refine wpList_step (fun K hK => ?_); go_simp; (try go_bits); refine hK _ _ ?_; clear hK K)
  refine wpList_nil ?_
  repeat ((fail_if_success (with_reducible (show wpList _ _ _ _ _ _))); go_step)
  iterate 3 (refine wpList_step (fun K hK => ?_); go_simp; (try go_bits); refine hK _ _ ?_; clear hK K)
  refine wpList_nil ?_
  repeat ((fail_if_success (with_reducible (show wpList _ _ _ _ _ _))); go_step)
  have heq0 := Heq0.out
  iterate 3 (refine wpList_step (fun K hK => ?_); go_simp; (try go_bits); refine hK _ _ ?_; clear hK K)
  refine wpList_load (by rfl) 24 _ rfl (uw2.heap.size) rfl 24 (k32 0) M5.out Try.underlying24 rfl (by rw [k32_size]; kernel_rfl) 29 rfl ?_
  (try simp only [Act.put, sI, sS, sZ])
  refine wpList_built (by rfl) 24 _ rfl _ (by rfl) (k32 0) (bd24z) 30 rfl ?_
  (try simp only [Act.put, sI, sS, sZ])
  iterate 3 (refine wpList_step (fun K hK => ?_); go_simp; (try go_bits); refine hK _ _ ?_; clear hK K)
  refine wpList_nil ?_
  go_wp2_with fail
  go_ret
  exact ⟨rfl, HB.out⟩
end Go.Proofs.Ytjiagjonlcadiaa
end
section
namespace Go.Proofs.Ytjiagjonlcadiaa
open Go.ChangeShapes Go.WideShapes Go.ChangeAt Go.RowKit

theorem own : ownKnob Try.prog.godebug = none := by kernel_rfl
theorem laidOut : laidOutB Try.prog = true := by kernel_rfl
theorem cells24 : Try.prog.cellsOf 24 = 32 := by kernel_rfl
theorem cells5 : Try.prog.cellsOf 5 = 1 := by kernel_rfl

set_option maxRecDepth 100000 in
theorem okWide_arr {w : World} {r : Reach} {b0 : Nat} {t e : TypeId} {n : Nat} {v : Value} (ht : Try.prog.underlying t = some (.array n e)) (h : Value.okWide Try.prog w r b0 t v) : ∃ cs, v = .agg cs ∧ cs.size = Try.prog.cellsOf t := by
  simp only [Value.okWide, ht] at h
  obtain ⟨cs, h1, h2, _⟩ := h
  exact ⟨cs, h1, h2⟩


set_option maxRecDepth 100000 in
theorem fig_number (f : Nat → Int) (hf : ∀ i, i < 32 → 0 ≤ f i ∧ f i < 256) : ∃ n : Nat, n < 115792089237316195423570985008687907853269984665640564039457584007913129639936 ∧ row .u8 32 f = k32 n := by
  have h0 := sumf_nonneg 256 (by omega) f 32 (fun i hi => (hf i hi).1)
  have h1 := sumf_lt 256 (by omega) f 32 (fun i hi => (hf i hi).2)
  obtain ⟨n, hn⟩ := Int.eq_ofNat_of_zero_le h0
  refine ⟨n, ?_, ?_⟩
  · have e : (256 : Int) ^ 32 = 115792089237316195423570985008687907853269984665640564039457584007913129639936 := by decide +kernel
    rw [hn, e] at h1; omega
  · exact row_ext _ _ _ _ (sumf_uniq 256 f n 32 (fun i hi => hf i hi) hn)

set_option maxRecDepth 100000 in
theorem open_key {H : Type} {enc : TypeId × Value → H} {w : World} {base : Nat} {spare : Nat → Bool} {held : Bool} {r : Reach} {b0 : Nat} {v : Value} {d : DataW H} {p : List MemPlace}
    (hv : Value.okWide Try.prog w r b0 24 v) (h : DataW.Trod enc Try.prog w base spare held 24 v d p) : ∃ n : Nat, n < 115792089237316195423570985008687907853269984665640564039457584007913129639936 ∧ v = .agg (k32 n) := by
  obtain ⟨cs, rfl, hsz⟩ := okWide_arr Try.underlying24 hv
  rw [cells24] at hsz
  obtain ⟨fuel, hf⟩ := h
  obtain ⟨xs, m, _, _, _, hl, hel⟩ := DataW.trod_array Try.underlying24 hf
  have hz : ∀ i : Nat, ∃ z : Int, i < 32 → cs[i]? = some (.int .u8 z) ∧ (Lit.int .u8 z).wf = true := by
    intro i
    by_cases hi : i < 32
    · have hE := hel i hi
      rw [cells5, Nat.mul_one, List.getElem?_eq_getElem (by omega)] at hE
      obtain ⟨z, e1, _, e3⟩ := DataW.trod_int Try.underlying5 hE
      refine ⟨z, fun _ => ⟨?_, e3⟩⟩
      have h0 : (((Value.agg cs).cells.toList.drop i).take 1)[0]? = some (.int .u8 z) := by rw [e1]; rfl
      simpa [Value.cells] using h0
    · exact ⟨0, fun h => absurd h hi⟩
  obtain ⟨f, hf2⟩ := Classical.skolem.1 hz
  obtain ⟨n, hn, he⟩ := fig_number f (fun i hi => by
    have := bounds_u8 (hf2 i hi).2
    omega)
  refine ⟨n, hn, ?_⟩
  rw [← he]
  congr 1
  apply Array.ext_getElem?
  intro j
  by_cases hj : j < 32
  · rw [(hf2 j hj).1, row_get _ _ _ _ hj]
  · rw [row_none _ _ _ _ hj]; simp; omega
end Go.Proofs.Ytjiagjonlcadiaa
end
section
namespace Go.Proofs.Ytjiagjonlcadiaa
open Go.ChangeShapes Go.WideShapes Go.ChangeAt Go.RowKit

theorem bytes_number (f : Nat → Int) : ∀ len, (∀ i, i < len → 0 ≤ f i ∧ f i < 256) → ∃ n : Nat, n < 256 ^ len ∧ ∀ i, i < len → dg 256 n i = f i := by
  intro len
  induction len with
  | zero => intro _; exact ⟨0, by decide, fun i hi => by omega⟩
  | succ k ih =>
    intro h
    obtain ⟨n, hn, hd⟩ := ih (fun i hi => h i (by omega))
    obtain ⟨c, hc⟩ := Int.eq_ofNat_of_zero_le (h k (by omega)).1
    have hc2 : c < 256 := by have := (h k (by omega)).2; omega
    refine ⟨n + 256 ^ k * c, ?_, fun i hi => ?_⟩
    · rw [Nat.pow_succ]
      have h1 : 256 ^ k * c ≤ 256 ^ k * 255 := Nat.mul_le_mul_left _ (by omega)
      have h2 : 256 ^ k * 256 = 256 ^ k * 255 + 256 ^ k := by rw [← Nat.mul_succ]
      omega
    · by_cases e : i = k
      · subst e
        unfold dg
        rw [Nat.add_mul_div_left _ _ (Nat.pow_pos (by decide)), Nat.div_eq_of_lt hn, Nat.zero_add, Nat.mod_eq_of_lt hc2, hc]
      · rw [← hd i (by omega)]
        unfold dg
        obtain ⟨q, rfl⟩ : ∃ q, k = i + 1 + q := ⟨k - (i + 1), by omega⟩
        rw [show 256 ^ (i + 1 + q) * c = 256 ^ i * (256 * (256 ^ q * c)) by rw [Nat.pow_add, Nat.pow_succ]; ac_rfl, Nat.add_mul_div_left _ _ (Nat.pow_pos (by decide)), Nat.add_mul_mod_self_left]

set_option maxRecDepth 100000 in
theorem open_bytes {H : Type} {enc : TypeId × Value → H} {w : World} {base : Nat} {spare : Nat → Bool} {held : Bool} {r : Reach} {b0 : Nat} {v : Value} {d : DataW H} {p : List MemPlace}
    (hv : Value.okWide Try.prog w r b0 22 v) (h : DataW.Trod enc Try.prog w base spare held 22 v d p) : ∃ a len cap n, v = .slice a len cap ∧ len ≤ 9223372036854775807 ∧ n < 256 ^ len ∧ Byts w a len n := by
  obtain ⟨a0, len, cap, rfl⟩ := okWide_slice Try.underlying22 hv
  obtain ⟨fuel, hf⟩ := h
  rcases open_ints Try.underlying22 Try.underlying5 cells5 hf with ⟨hcs, hx⟩ | ⟨a, len', cap', zs, hcs, _, hl, hm, hz, hx, hcell, hwz⟩
  · have e : Value.slice a0 len cap = .slice none 0 0 := by simpa [Value.cells] using hcs
    injection e with e1 e2 e3
    subst e2
    exact ⟨_, _, _, 0, rfl, by omega, by decide, .inl rfl⟩
  · have e : Value.slice a0 len cap = .slice (some a) len' cap' := by simpa [Value.cells] using hcs
    injection e with e1 e2 e3
    subst e1 e2 e3
    have hlz : len ≤ zs.length := by rw [hz]; split <;> omega
    unfold maxLen at hm
    obtain ⟨n, hn, hd⟩ := bytes_number (fun i => zs.getD i 0) len (fun i hi => by
      have hmem : zs.getD i 0 ∈ zs := by
        have : zs.getD i 0 = zs[i]'(by omega) := by simp [List.getD, show i < zs.length by omega]
        rw [this]; exact List.getElem_mem _
      have := bounds_u8 (hwz _ hmem)
      omega)
    refine ⟨_, _, _, n, rfl, by omega, hn, ?_⟩
    rcases Nat.eq_zero_or_pos len with h0 | h0
    · exact .inl h0
    · obtain ⟨b, off, rfl, hc⟩ := ints_at hcell (by omega)
      refine .inr ⟨b, off, rfl, ?_, fun i hi => ?_⟩
      · exact World.block_lt_of_cell? w _ (hc 0 (by omega))
      · rw [hd i hi]; exact hc i (by omega)
end Go.Proofs.Ytjiagjonlcadiaa
end
