/- The reference's points: Of. -/
import Derived.Test.YtjiagjonlcadiaaCrvF
namespace Go.Proofs.Ytjiagjonlcadiaa
open Go.RowKit Go.Lib

theorem cx_def (Y sq e1 e2 e3 C : Nat) (h1 : sq = Y * Y % PP) (h2 : e1 = (sq + (PP - 1)) % PP) (h3 : e2 = SL * sq % PP) (h4 : e3 = (e2 + 1) % PP) (h5 : C = e1 * pwm e3 (PP - 2) % PP) : cx Y = C := by
  unfold cx; rw [h5, h2, h4, h3, h1]
set_option maxRecDepth 100000 in
set_option linter.unusedSimpArgs false in
set_option maxHeartbeats 16000000 in
theorem rofp_any (n : Nat) (hn : n < 115792089237316195423570985008687907853269984665640564039457584007913129639936) (w : World) :
    Calls Try.prog 48 #[.agg (k32 n)] w fun e w' => e = .returned (.tuple #[.agg (rp (cof n).2.1 (cof n).2.2 1 ((cof n).2.1 * (cof n).2.2 % PP)), .bool (cof n).1]) ∧ Below w.heap.size w w' := by
  obtain ⟨c, hc, hcl, hcq, hcd⟩ := dg31_any n hn
  have hclr := key_clear n c hcd ((c % 128 : Nat) : Int) rfl
  have htm := tm_128 c
  have hyes := cof_yes n
  have hno := cof_no n
  have hl0 := m255_lt n
  have hro := fun w => rof_any n w
  have hq2 : n / 57896044618658097711785492504343953926634992332820282019728792003956564819968 = 0 ∨ n / 57896044618658097711785492504343953926634992332820282019728792003956564819968 = 1 := by omega
  have htd := td_128 c
  rw [hcq] at htd
  have hev : ∀ q, n / 57896044618658097711785492504343953926634992332820282019728792003956564819968 = q → (n % 57896044618658097711785492504343953926634992332820282019728792003956564819968 < PP → cof n = bes (cx (n % 57896044618658097711785492504343953926634992332820282019728792003956564819968)) (decide (q = 0)) (n % 57896044618658097711785492504343953926634992332820282019728792003956564819968)) := fun q h => by rw [← h]; exact hyes
  obtain ⟨n0, hn0⟩ : ∃ m, m = n % 57896044618658097711785492504343953926634992332820282019728792003956564819968 := ⟨_, rfl⟩
  have hmm : n0 % 57896044618658097711785492504343953926634992332820282019728792003956564819968 = n0 := by rw [hn0, Nat.mod_mod]
  have hro := fun w => rof_any n0 w
  rw [show (2 : Nat) ^ 255 = 57896044618658097711785492504343953926634992332820282019728792003956564819968 by decide +kernel, hmm] at hro
  rw [← hn0] at hclr hno hl0 hev
  obtain ⟨A, hA⟩ : ∃ A, A = n0 % PP := ⟨_, rfl⟩
  rw [← hA] at hro
  have hAl : A < PP := by rw [hA]; exact Nat.mod_lt _ PP_pos
  have hrk := fun w => rkey_any A (PP_256 A hAl) w
  have horg := rorigin_any
  obtain ⟨c2, hc2⟩ : ∃ c2 : Nat, c2 = c % 128 := ⟨_, rfl⟩
  rw [← hc2] at htm hclr
  obtain ⟨R, hR⟩ : ∃ R, R = cof n := ⟨_, rfl⟩
  rw [← hR] at hno hev ⊢
  clear hR hc2 hn0 hmm hcq hcd hyes
  rcases hq2 with hq | hq
  · have hyes := hev 0 hq
    rw [decide_eq_true rfl] at hyes
    rw [hq] at htd
    have htd : (c : Int).tdiv 128 = 0 := htd
    clear hq hev
    have Hclr := Lib.hid hclr; clear hclr
    have Hyes := Lib.hid hyes; clear hyes
    have Hno := Lib.hid hno; clear hno
    have Hro := Lib.hid hro; clear hro
    have Hrk := Lib.hid hrk; clear hrk
    have Hc := Lib.hid hc; clear hc
    have Hl0 := Lib.hid hl0; clear hl0
    have HA := Lib.hid hA; clear hA
    have HAl := Lib.hid hAl; clear hAl
    have Horg := Lib.hid horg; clear horg
    go_enter Try.func48, Try.ntmps48
    repeat ((fail_if_success (with_reducible (show wpList _ _ _ _ _ _))); go_step)
    refine wpList_step (fun K hK => ?_)
    go_simp
    (try go_bits)
    refine hK _ _ ?_
    clear hK K
    refine wpList_step (fun K hK => ?_)
    go_simp
    (try go_bits)
    refine hK _ _ ?_
    clear hK K
    refine wpList_step (fun K hK => ?_)
    go_simp
    (try go_bits)
    refine hK _ _ ?_
    clear hK K
    refine wpList_nil ?_
    have M1 := Lib.hid ((Has.new w  (k32 n) 24).alloc (.cells Try.zeroCells57 57))
    have M2 := Lib.hid (HasN.new1 w (.cells (k32 n) 24) Try.zeroCells57 57 88 (by kernel_rfl))
    have HB := Lib.hid (below_2 w (.cells (k32 n) 24) (.cells Try.zeroCells57 57))
    obtain ⟨yw1, hwyw1⟩ : ∃ ww, ww = ((w.alloc (.cells (k32 n) 24)).alloc (.cells Try.zeroCells57 57)) := ⟨_, rfl⟩
    rw [← hwyw1] at M1 M2 HB ⊢
    clear hwyw1
    have h1 := M1.out.cell 31 (by omega)
    rw [Hc.out] at h1
    have hfz := M1.out.frozen 31
    repeat ((fail_if_success (with_reducible (show wpList _ _ _ _ _ _))); go_step)
    refine wpList_step (fun K hK => ?_)
    go_simp
    (try go_bits)
    refine hK _ _ ?_
    clear hK K
    refine wpList_step (fun K hK => ?_)
    go_simp
    (try go_bits)
    refine hK _ _ ?_
    clear hK K
    refine wpList_step (fun K hK => ?_)
    go_simp
    (try go_bits)
    refine hK _ _ ?_
    clear hK K
    refine wpList_step (fun K hK => ?_)
    go_simp
    (try go_bits)
    refine hK _ _ ?_
    clear hK K
    refine wpList_nil ?_
    repeat ((fail_if_success (with_reducible (show wpList _ _ _ _ _ _))); go_step)
    refine wpList_step (fun K hK => ?_)
    go_simp
    (try go_bits)
    refine hK _ _ ?_
    clear hK K
    refine wpList_step (fun K hK => ?_)
    go_simp
    (try go_bits)
    refine hK _ _ ?_
    clear hK K
    refine wpList_step (fun K hK => ?_)
    go_simp
    (try go_bits)
    refine hK _ _ ?_
    clear hK K
    refine wpList_step (fun K hK => ?_)
    go_simp
    (try go_bits)
    refine hK _ _ ?_
    clear hK K
    refine wpList_step (fun K hK => ?_)
    go_simp
    (try go_bits)
    refine hK _ _ ?_
    clear hK K
    refine wpList_nil ?_
    clear h1 hfz
    have kq := M1.out.set 31 ((c2 : Int)); rw [Hclr.out] at kq; clear M1; have M1 := Lib.hid kq; clear kq
    have kq := M2.out.other ⟨w.heap.size, 31, none⟩ (.int .u8 ((c2 : Int))) (by simp <;> omega); clear M2; have M2 := Lib.hid kq; clear kq
    replace HB := Lib.hid (HB.out.setCell (p := ⟨w.heap.size, 31, none⟩) (show w.heap.size ≤ w.heap.size by omega) (.int .u8 ((c2 : Int))))
    obtain ⟨yw2, hwyw2⟩ : ∃ ww, ww = yw1.setCell ⟨w.heap.size, 31, none⟩ (.int .u8 ((c2 : Int))) := ⟨_, rfl⟩
    rw [← hwyw2] at M1 M2 HB ⊢
    clear hwyw2
    clear htd htm hcl
    repeat ((fail_if_success (with_reducible (show wpList _ _ _ _ _ _))); go_step)
    refine wpList_load (by rfl) 24 _ rfl (w.heap.size) rfl 24 (k32 n0) M1.out Try.underlying24 rfl (by rw [k32_size]; kernel_rfl) 17 rfl ?_
    (try simp only [Act.put, sI, sS, sZ])
    refine wpList_call (by rfl) rfl rfl (by rfl) ent33 (by rfl) (Hro.out _) 18 rfl ?_
    rintro e uw1 ⟨rfl, hb⟩
    replace M1 := Lib.hid (M1.out.call hb)
    replace M2 := Lib.hid (M2.out.call hb)
    replace HB := Lib.hid (held_next HB.out hb)
    refine ⟨_, rfl, ?_⟩
    clear hb
    (try simp only [Act.put, sI, sS, sZ])
    refine wpList_alloc (by rfl) 40 rfl _ al40 5 rfl ?_
    intro yw3 hw2
    have hlt4 := M1.out.lt
    have hlt5 := M2.out.lt
    have hsz := HB.out.size
    have kq := M1.out.alloc (.cells z40 40); rw [← hw2] at kq; clear M1; have M1 := Lib.hid kq; clear kq
    have kq := M2.out.alloc (.cells z40 40); rw [← hw2] at kq; clear M2; have M2 := Lib.hid kq; clear kq
    have kq := HasN.new uw1 z40 40 22 (by kernel_rfl); rw [← hw2] at kq; have M5 := Lib.hid kq; clear kq
    have kq := HB.out.alloc hsz (.cells z40 40); rw [← hw2] at kq; clear HB; have HB := Lib.hid kq; clear kq hw2
    (try simp only [Act.put, sI, sS, sZ])
    first | (obtain ⟨Zq, hZ, mZ⟩ := M5.out) | (obtain ⟨Zq, hZ, mZ⟩ := M5.out.toN (r22_size ..))
    refine wpList_store2 (by rfl) 40 _ _ rfl rfl (uw1.heap.size) (r22 A) rfl rfl 40 Zq mZ (by rw [r22_size]; kernel_rfl) (hZ.trans (r22_size ..).symm) (row_one _ _ _) ?_
    intro yw6 hw2
    have kq := M1.out.setRow_other (uw1.heap.size) (r22 A) (by omega); rw [← hw2] at kq; clear M1; have M1 := Lib.hid kq; clear kq
    have kq := M2.out.setRow_other (uw1.heap.size) (r22 A) (by omega); rw [← hw2] at kq; clear M2; have M2 := Lib.hid kq; clear kq
    have kq := mZ.setRow (r22 A); rw [← hw2] at kq; clear M5; have M5 := Lib.hid kq; clear kq mZ hZ
    have kq := below_setRow HB.out (uw1.heap.size) (r22 A) (by omega); rw [← hw2] at kq; clear HB; have HB := Lib.hid kq; clear kq hw2
    refine wpList_nil ?_
    repeat ((fail_if_success (with_reducible (show wpList _ _ _ _ _ _))); go_step)
    by_cases hlt : n0 < PP
    · have hAn : A = n0 := by rw [HA.out]; exact Nat.mod_eq_of_lt hlt
      have M5' := M5.out; rw [hAn] at M5'; clear M5; have M5 := Lib.hid M5'; clear M5'
      have hrk2 := Hrk.out; rw [hAn] at hrk2; clear Hrk; have Hrk := Lib.hid hrk2; clear hrk2
      have heq := fun w => k32_same n0 Hl0.out w
      have hcof := Hyes.out hlt
      clear hAn
      have Hlt := Lib.hid hlt; clear hlt
      have Hcof := Lib.hid hcof; clear hcof
      refine wp_region_noPanic ?_
      refine wp_region_go 99 4 #[false, false, false, false] (by kernel_rfl) rfl rfl ?_
      intro W7 hW7
      have kq := M1.out; rw [← hW7] at kq; clear M1; have M1 := Lib.hid kq; clear kq
      have kq := M2.out; rw [← hW7] at kq; clear M2; have M2 := Lib.hid kq; clear kq
      have kq := M5.out; rw [← hW7] at kq; clear M5; have M5 := Lib.hid kq; clear kq
      have kq := HB.out; rw [← hW7] at kq; clear HB; have HB := Lib.hid kq; clear kq
      clear hW7
      refine go_take2 0 19 #[true, false, false, false] rfl rfl rfl (by kernel_rfl) (yieldsIf_load_row (by rfl) 40 _ rfl (uw1.heap.size) rfl 40 (r22 n0) (fun _ h => M5.out.below h M5.out.lt) Try.underlying40 rfl (by rw [r22_size]; kernel_rfl)) ((below_dr W7)) ?_
      (try simp only [sI, sS, sZ])
      refine go_take2 2 21 #[true, false, true, false] rfl rfl rfl (by kernel_rfl) (yieldsIf_load_row (by rfl) 24 _ rfl (w.heap.size) rfl 24 (k32 n0) (fun _ h => M1.out.below h M1.out.lt) Try.underlying24 rfl (by rw [k32_size]; kernel_rfl)) ((below_dr W7)) ?_
      (try simp only [sI, sS, sZ])
      refine wpBut_r1 (i := 1) (by kernel_rfl) ?_
      refine go_call 1 20 #[true, true, true, false] rfl rfl rfl (by rfl) rfl rfl (by rfl) ent74 (by rfl) (Hrk.out _) ?_
      rintro e wW71 ⟨rfl, hb⟩
      have hkW71 := held_next (below_dr W7) hb
      refine ⟨_, rfl, fun _ => hkW71, ?_⟩
      clear hb
      (try simp only [sI, sS, sZ])
      refine go_take2 3 22 #[true, true, true, true] (v := ?uv2) rfl rfl rfl (by kernel_rfl) (Or.inl ⟨by rfl, ?uy2⟩) (hkW71) ?urest2
      case uy2 => (intro _ _; go_simp; try with_reducible rfl)
      (try simp only [sI, sS, sZ])
      refine wpBut_done (by kernel_rfl) (NoPanic.normal ?_)
      replace M1 := Lib.hid (M1.out.call hkW71)
      replace M2 := Lib.hid (M2.out.call hkW71)
      replace M5 := Lib.hid (M5.out.call hkW71)
      replace HB := Lib.hid (held_next HB.out hkW71)
      clear heq
      repeat ((fail_if_success (with_reducible (show wpList _ _ _ _ _ _))); go_step)
      have hint := fun w => rint_nn 1 (by decide) w
      rw [one_PP] at hint
      have ht1 := fun w => rtimes_any n0 n0 Hlt.out Hlt.out w
      obtain ⟨sq, hsq⟩ : ∃ s, s = n0 * n0 % PP := ⟨_, rfl⟩
      rw [← hsq] at ht1
      have hsql : sq < PP := by rw [hsq]; exact Nat.mod_lt _ PP_pos
      have h1l : 1 < PP := by have := PP_val; omega
      have hm1 := fun w => rminus_any sq 1 hsql h1l w
      obtain ⟨e1, he1⟩ : ∃ s, s = (sq + (PP - 1)) % PP := ⟨_, rfl⟩
      rw [← he1] at hm1
      have he1l : e1 < PP := by rw [he1]; exact Nat.mod_lt _ PP_pos
      have ht2 := fun w => rtimes_any SL sq SL_lt hsql w
      obtain ⟨e2, he2⟩ : ∃ s, s = SL * sq % PP := ⟨_, rfl⟩
      rw [← he2] at ht2
      have he2l : e2 < PP := by rw [he2]; exact Nat.mod_lt _ PP_pos
      have hp1 := fun w => rplus_any e2 1 (PPr_22 _ he2l) (PPr_22 _ h1l) w
      obtain ⟨e3, he3⟩ : ∃ s, s = (e2 + 1) % PP := ⟨_, rfl⟩
      rw [← he3] at hp1
      have he3l : e3 < PP := by rw [he3]; exact Nat.mod_lt _ PP_pos
      have ho1 := fun w => rover_any e1 e3 he1l he3l w
      obtain ⟨C, hC⟩ : ∃ s, s = e1 * pwm e3 (PP - 2) % PP := ⟨_, rfl⟩
      rw [← hC] at ho1
      have hCl : C < PP := by rw [hC]; exact Nat.mod_lt _ PP_pos
      have hcc := cx_def n0 sq e1 e2 e3 C hsq he1 he2 he3 hC
      have hrr := fun w => rroot_any C hCl w
      have hcof2 := Hcof.out
      rw [hcc] at hcof2
      clear Hcof
      have Hcof := Lib.hid hcof2; clear hcof2 hcc hCl hC he3l he3 he2l he2 he1l he1 hsql hsq h1l
      obtain ⟨ok, hok⟩ : ∃ ok, ok = rtok C := ⟨_, rfl⟩
      obtain ⟨R3, hR3⟩ : ∃ R, R = rt3 C := ⟨_, rfl⟩
      have hR3l : R3 < PP := by rw [hR3]; exact rt3_lt C
      rw [← hok, ← hR3] at hrr
      have Hint := Lib.hid hint; clear hint
      have Ht1 := Lib.hid ht1; clear ht1
      have Hm1 := Lib.hid hm1; clear hm1
      have Ht2 := Lib.hid ht2; clear ht2
      have Hp1 := Lib.hid hp1; clear hp1
      have Ho1 := Lib.hid ho1; clear ho1
      have Hrr := Lib.hid hrr; clear hrr
      have Hok := Lib.hid hok; clear hok
      have HR3 := Lib.hid hR3; clear hR3
      have HR3l := Lib.hid hR3l; clear hR3l
      refine wpList_call (by rfl) rfl rfl (by rfl) ent35 (by rfl) (Hint.out _) 24 rfl ?_
      rintro e uw2 ⟨rfl, hb⟩
      replace M1 := Lib.hid (M1.out.call hb)
      replace M2 := Lib.hid (M2.out.call hb)
      replace M5 := Lib.hid (M5.out.call hb)
      replace HB := Lib.hid (held_next HB.out hb)
      refine ⟨_, rfl, ?_⟩
      clear hb
      (try simp only [Act.put, sI, sS, sZ])
      refine wpList_alloc (by rfl) 40 rfl _ al40 6 rfl ?_
      intro yw8 hw2
      have hlt9 := M1.out.lt
      have hlt10 := M2.out.lt
      have hlt11 := M5.out.lt
      have hsz := HB.out.size
      have kq := M1.out.alloc (.cells z40 40); rw [← hw2] at kq; clear M1; have M1 := Lib.hid kq; clear kq
      have kq := M2.out.alloc (.cells z40 40); rw [← hw2] at kq; clear M2; have M2 := Lib.hid kq; clear kq
      have kq := M5.out.alloc (.cells z40 40); rw [← hw2] at kq; clear M5; have M5 := Lib.hid kq; clear kq
      have kq := HasN.new uw2 z40 40 22 (by kernel_rfl); rw [← hw2] at kq; have M6 := Lib.hid kq; clear kq
      have kq := HB.out.alloc hsz (.cells z40 40); rw [← hw2] at kq; clear HB; have HB := Lib.hid kq; clear kq hw2
      (try simp only [Act.put, sI, sS, sZ])
      first | (obtain ⟨Zq, hZ, mZ⟩ := M6.out) | (obtain ⟨Zq, hZ, mZ⟩ := M6.out.toN (r22_size ..))
      refine wpList_store2 (by rfl) 40 _ _ rfl rfl (uw2.heap.size) (r22 1) rfl rfl 40 Zq mZ (by rw [r22_size]; kernel_rfl) (hZ.trans (r22_size ..).symm) (row_one _ _ _) ?_
      intro yw12 hw2
      have kq := M1.out.setRow_other (uw2.heap.size) (r22 1) (by omega); rw [← hw2] at kq; clear M1; have M1 := Lib.hid kq; clear kq
      have kq := M2.out.setRow_other (uw2.heap.size) (r22 1) (by omega); rw [← hw2] at kq; clear M2; have M2 := Lib.hid kq; clear kq
      have kq := M5.out.setRow_other (uw2.heap.size) (r22 1) (by omega); rw [← hw2] at kq; clear M5; have M5 := Lib.hid kq; clear kq
      have kq := mZ.setRow (r22 1); rw [← hw2] at kq; clear M6; have M6 := Lib.hid kq; clear kq mZ hZ
      have kq := below_setRow HB.out (uw2.heap.size) (r22 1) (by omega); rw [← hw2] at kq; clear HB; have HB := Lib.hid kq; clear kq hw2
      refine wpList_nil ?_
      repeat ((fail_if_success (with_reducible (show wpList _ _ _ _ _ _))); go_step)
      refine wpList_load (by rfl) 40 _ rfl (uw1.heap.size) rfl 40 (r22 n0) M5.out Try.underlying40 rfl (by rw [r22_size]; kernel_rfl) 25 rfl ?_
      (try simp only [Act.put, sI, sS, sZ])
      refine wpList_load (by rfl) 40 _ rfl (uw1.heap.size) rfl 40 (r22 n0) M5.out Try.underlying40 rfl (by rw [r22_size]; kernel_rfl) 26 rfl ?_
      (try simp only [Act.put, sI, sS, sZ])
      refine wpList_call (by rfl) rfl rfl (by rfl) ent32 (by rfl) (Ht1.out _) 27 rfl ?_
      rintro e uw3 ⟨rfl, hb⟩
      replace M1 := Lib.hid (M1.out.call hb)
      replace M2 := Lib.hid (M2.out.call hb)
      replace M5 := Lib.hid (M5.out.call hb)
      replace M6 := Lib.hid (M6.out.call hb)
      replace HB := Lib.hid (held_next HB.out hb)
      refine ⟨_, rfl, ?_⟩
      clear hb
      (try simp only [Act.put, sI, sS, sZ])
      refine wpList_alloc (by rfl) 40 rfl _ al40 7 rfl ?_
      intro yw13 hw2
      have hlt14 := M1.out.lt
      have hlt15 := M2.out.lt
      have hlt16 := M5.out.lt
      have hlt17 := M6.out.lt
      have hsz := HB.out.size
      have kq := M1.out.alloc (.cells z40 40); rw [← hw2] at kq; clear M1; have M1 := Lib.hid kq; clear kq
      have kq := M2.out.alloc (.cells z40 40); rw [← hw2] at kq; clear M2; have M2 := Lib.hid kq; clear kq
      have kq := M5.out.alloc (.cells z40 40); rw [← hw2] at kq; clear M5; have M5 := Lib.hid kq; clear kq
      have kq := M6.out.alloc (.cells z40 40); rw [← hw2] at kq; clear M6; have M6 := Lib.hid kq; clear kq
      have kq := HasN.new uw3 z40 40 22 (by kernel_rfl); rw [← hw2] at kq; have M7 := Lib.hid kq; clear kq
      have kq := HB.out.alloc hsz (.cells z40 40); rw [← hw2] at kq; clear HB; have HB := Lib.hid kq; clear kq hw2
      (try simp only [Act.put, sI, sS, sZ])
      first | (obtain ⟨Zq, hZ, mZ⟩ := M7.out) | (obtain ⟨Zq, hZ, mZ⟩ := M7.out.toN (r22_size ..))
      refine wpList_store2 (by rfl) 40 _ _ rfl rfl (uw3.heap.size) (r22 sq) rfl rfl 40 Zq mZ (by rw [r22_size]; kernel_rfl) (hZ.trans (r22_size ..).symm) (row_one _ _ _) ?_
      intro yw18 hw2
      have kq := M1.out.setRow_other (uw3.heap.size) (r22 sq) (by omega); rw [← hw2] at kq; clear M1; have M1 := Lib.hid kq; clear kq
      have kq := M2.out.setRow_other (uw3.heap.size) (r22 sq) (by omega); rw [← hw2] at kq; clear M2; have M2 := Lib.hid kq; clear kq
      have kq := M5.out.setRow_other (uw3.heap.size) (r22 sq) (by omega); rw [← hw2] at kq; clear M5; have M5 := Lib.hid kq; clear kq
      have kq := M6.out.setRow_other (uw3.heap.size) (r22 sq) (by omega); rw [← hw2] at kq; clear M6; have M6 := Lib.hid kq; clear kq
      have kq := mZ.setRow (r22 sq); rw [← hw2] at kq; clear M7; have M7 := Lib.hid kq; clear kq mZ hZ
      have kq := below_setRow HB.out (uw3.heap.size) (r22 sq) (by omega); rw [← hw2] at kq; clear HB; have HB := Lib.hid kq; clear kq hw2
      refine wpList_nil ?_
      repeat ((fail_if_success (with_reducible (show wpList _ _ _ _ _ _))); go_step)
      refine wp_region_meet (α := Nat) (fun W0 x w' => W0.heap.size ≤ x ∧ Has w' x (r22 R3) 40 ∧ Below W0.heap.size W0 w') (fun ac x => (((((((((((((((ac.put (some 29) (.agg (r22 sq))).put (some 30) (.agg (r22 1))).put (some 31) (.agg (r22 e1))).put (some 32) (.agg (r22 SL))).put (some 33) (.agg (r22 sq))).put (some 34) (.agg (r22 e2))).put (some 35) (.agg (r22 1))).put (some 36) (.agg (r22 e3))).put (some 37) (.agg (r22 C))).put (some 38) (.tuple #[.agg (r22 R3), .bool ok])).put (some 28) (.tuple #[.agg (r22 R3), .bool ok])).put (some 39) (.agg (r22 R3))).put (some 40) (.bool ok)).put (some 9) (.bool ok)).put (some 8) (.pointer (some ⟨x, 0, none⟩)))) ?_ ?_
      · intro Q' hQ'
        refine wp_region_noPanic ?_
        refine wp_region_go 99 16 #[false, false, false, false, false, false, false, false, false, false, false, false, false, false, false, false] (by kernel_rfl) rfl rfl ?_
        intro W19 hW19
        rw [← hW19] at hQ'
        simp only [Act.put, List.setIfInBounds_toArray, List.set_cons_succ, List.set_cons_zero] at hQ'
        have HQ := Lib.hid hQ'; clear hQ'
        have kq := M1.out; rw [← hW19] at kq; clear M1; have M1 := Lib.hid kq; clear kq
        have kq := M2.out; rw [← hW19] at kq; clear M2; have M2 := Lib.hid kq; clear kq
        have kq := M5.out; rw [← hW19] at kq; clear M5; have M5 := Lib.hid kq; clear kq
        have kq := M6.out; rw [← hW19] at kq; clear M6; have M6 := Lib.hid kq; clear kq
        have kq := M7.out; rw [← hW19] at kq; clear M7; have M7 := Lib.hid kq; clear kq
        have kq := HB.out; rw [← hW19] at kq; clear HB; have HB := Lib.hid kq; clear kq
        clear hW19
        refine go_take2 0 29 #[true, false, false, false, false, false, false, false, false, false, false, false, false, false, false, false] rfl rfl rfl (by kernel_rfl) (yieldsIf_load_row (by rfl) 40 _ rfl (uw3.heap.size) rfl 40 (r22 sq) (fun _ h => M7.out.below h M7.out.lt) Try.underlying40 rfl (by rw [r22_size]; kernel_rfl)) ((below_dr W19)) ?_
        (try simp only [sI, sS, sZ])
        refine go_take2 1 30 #[true, true, false, false, false, false, false, false, false, false, false, false, false, false, false, false] rfl rfl rfl (by kernel_rfl) (yieldsIf_load_row (by rfl) 40 _ rfl (uw2.heap.size) rfl 40 (r22 1) (fun _ h => M6.out.below h M6.out.lt) Try.underlying40 rfl (by rw [r22_size]; kernel_rfl)) ((below_dr W19)) ?_
        (try simp only [sI, sS, sZ])
        refine go_take2 4 33 #[true, true, false, false, true, false, false, false, false, false, false, false, false, false, false, false] rfl rfl rfl (by kernel_rfl) (yieldsIf_load_row (by rfl) 40 _ rfl (uw3.heap.size) rfl 40 (r22 sq) (fun _ h => M7.out.below h M7.out.lt) Try.underlying40 rfl (by rw [r22_size]; kernel_rfl)) ((below_dr W19)) ?_
        (try simp only [sI, sS, sZ])
        refine go_take2 6 35 #[true, true, false, false, true, false, true, false, false, false, false, false, false, false, false, false] rfl rfl rfl (by kernel_rfl) (yieldsIf_load_row (by rfl) 40 _ rfl (uw2.heap.size) rfl 40 (r22 1) (fun _ h => M6.out.below h M6.out.lt) Try.underlying40 rfl (by rw [r22_size]; kernel_rfl)) ((below_dr W19)) ?_
        (try simp only [sI, sS, sZ])
        refine wpBut_r2 (i := 2) (j := 13) (by kernel_rfl) ?_ ?_
        refine go_call 2 31 #[true, true, true, false, true, false, true, false, false, false, false, false, false, false, false, false] rfl rfl rfl (by rfl) rfl rfl (by rfl) ent40 (by rfl) (Hm1.out _) ?_
        rintro e wW191 ⟨rfl, hb⟩
        have hkW191 := held_next (below_dr W19) hb
        refine ⟨_, rfl, fun _ => hkW191, ?_⟩
        clear hb
        (try simp only [sI, sS, sZ])
        refine wpBut_r2 (i := 3) (j := 13) (by kernel_rfl) ?_ ?_
        refine go_call 3 32 #[true, true, true, true, true, false, true, false, false, false, false, false, false, false, false, false] rfl rfl rfl (by rfl) rfl rfl (by rfl) ent89 (by rfl) (rslope_any _) ?_
        rintro e wW192 ⟨rfl, hb⟩
        have hkW192 := held_next hkW191 hb
        refine ⟨_, rfl, fun _ => hkW192, ?_⟩
        clear hb
        (try simp only [sI, sS, sZ])
        refine wpBut_r2 (i := 5) (j := 13) (by kernel_rfl) ?_ ?_
        refine go_call 5 34 #[true, true, true, true, true, true, true, false, false, false, false, false, false, false, false, false] rfl rfl rfl (by rfl) rfl rfl (by rfl) ent32 (by rfl) (Ht2.out _) ?_
        rintro e wW193 ⟨rfl, hb⟩
        have hkW193 := held_next hkW192 hb
        refine ⟨_, rfl, fun _ => hkW193, ?_⟩
        clear hb
        (try simp only [sI, sS, sZ])
        refine wpBut_r2 (i := 7) (j := 13) (by kernel_rfl) ?_ ?_
        refine go_call 7 36 #[true, true, true, true, true, true, true, true, false, false, false, false, false, false, false, false] rfl rfl rfl (by rfl) rfl rfl (by rfl) ent38 (by rfl) (Hp1.out _) ?_
        rintro e wW194 ⟨rfl, hb⟩
        have hkW194 := held_next hkW193 hb
        refine ⟨_, rfl, fun _ => hkW194, ?_⟩
        clear hb
        (try simp only [sI, sS, sZ])
        refine wpBut_r2 (i := 8) (j := 13) (by kernel_rfl) ?_ ?_
        refine go_call 8 37 #[true, true, true, true, true, true, true, true, true, false, false, false, false, false, false, false] rfl rfl rfl (by rfl) rfl rfl (by rfl) ent43 (by rfl) (Ho1.out _) ?_
        rintro e wW195 ⟨rfl, hb⟩
        have hkW195 := held_next hkW194 hb
        refine ⟨_, rfl, fun _ => hkW195, ?_⟩
        clear hb
        (try simp only [sI, sS, sZ])
        refine wpBut_r2 (i := 9) (j := 13) (by kernel_rfl) ?_ ?_
        refine go_call 9 38 #[true, true, true, true, true, true, true, true, true, true, false, false, false, false, false, false] rfl rfl rfl (by rfl) rfl rfl (by rfl) ent45 (by rfl) (Hrr.out _) ?_
        rintro e wW196 ⟨rfl, hb⟩
        have hkW196 := held_next hkW195 hb
        refine ⟨_, rfl, fun _ => hkW196, ?_⟩
        clear hb
        (try simp only [sI, sS, sZ])
        refine go_take2 10 28 #[true, true, true, true, true, true, true, true, true, true, true, false, false, false, false, false] (v := ?uv3) rfl rfl rfl (by kernel_rfl) (Or.inl ⟨by rfl, ?uy3⟩) (hkW196) ?urest3
        case uy3 => (intro _ _; go_simp; try with_reducible rfl)
        (try simp only [sI, sS, sZ])
        refine go_take2 11 39 #[true, true, true, true, true, true, true, true, true, true, true, true, false, false, false, false] (v := ?uv4) rfl rfl rfl (by kernel_rfl) (Or.inl ⟨by rfl, ?uy4⟩) (hkW196) ?urest4
        case uy4 => (intro _ _; go_simp; try with_reducible rfl)
        (try simp only [sI, sS, sZ])
        refine go_take2 12 40 #[true, true, true, true, true, true, true, true, true, true, true, true, true, false, false, false] (v := ?uv5) rfl rfl rfl (by kernel_rfl) (Or.inl ⟨by rfl, ?uy5⟩) (hkW196) ?urest5
        case uy5 => (intro _ _; go_simp; try with_reducible rfl)
        (try simp only [sI, sS, sZ])
        refine wpBut_r1 (i := 13) (by kernel_rfl) ?_
        refine go_alloc 13 8 #[true, true, true, true, true, true, true, true, true, true, true, true, true, true, false, false] rfl rfl rfl (by rfl) 40 rfl _ al40 ?_
        intro wW197 hw2
        have hkW197 := (hkW196).alloc (hkW196).size (.cells z40 40)
        rw [← hw2] at hkW197
        have MQ := HasN.new (wW196) z40 40 22 (by kernel_rfl); rw [← hw2] at MQ; have MA13 := Lib.hid MQ; clear MQ
        have HA13 := Lib.hid (show W19.heap.size ≤ _ from (hkW196).size)
        clear hw2
        refine ⟨fun _ => hkW197, ?_⟩
        (try simp only [sI, sS, sZ])
        refine wpBut_r1 (i := 14) (by kernel_rfl) ?_
        obtain ⟨Zq, hZ, mZ⟩ := MA13.out
        refine go_store2 14 #[true, true, true, true, true, true, true, true, true, true, true, true, true, true, true, false] rfl rfl rfl (by rfl) 40 _ _ rfl _ _ rfl rfl 40 Zq mZ (by rw [r22_size]; kernel_rfl) (hZ.trans (r22_size ..).symm) (row_one _ _ _) ?_
        intro wW198 hw2
        have hkW198 := below_setRow (hkW197) _ (r22 R3) HA13.out
        rw [← hw2] at hkW198
        clear MA13
        have MQ := mZ.setRow (r22 R3); rw [← hw2] at MQ; have MA13 := Lib.hid MQ; clear MQ mZ hZ hw2
        refine ⟨fun _ => hkW198, ?_⟩
        (try simp only [sI, sS, sZ])
        refine go_take2 15 9 #[true, true, true, true, true, true, true, true, true, true, true, true, true, true, true, true] (v := ?uv6) rfl rfl rfl (by kernel_rfl) (Or.inl ⟨by rfl, ?uy6⟩) (hkW198) ?urest6
        case uy6 => (intro _ _; go_simp; try with_reducible rfl)
        (try simp only [sI, sS, sZ])
        exact wpBut_done (by kernel_rfl) (NoPanic.normal (HQ.out (_) _ ⟨HA13.out, MA13.out, (hkW198)⟩))
        refine go_alloc 13 8 #[true, true, true, true, true, true, true, true, true, false, false, false, false, true, false, false] rfl rfl rfl (by rfl) 40 rfl _ al40 ?_
        intro wW196 hw2
        have hkW196 := (hkW195).alloc (hkW195).size (.cells z40 40)
        rw [← hw2] at hkW196
        have MQ := HasN.new (wW195) z40 40 22 (by kernel_rfl); rw [← hw2] at MQ; have MA13 := Lib.hid MQ; clear MQ
        have HA13 := Lib.hid (show W19.heap.size ≤ _ from (hkW195).size)
        clear hw2
        refine ⟨fun _ => hkW196, ?_⟩
        (try simp only [sI, sS, sZ])
        refine wpBut_r1 (i := 9) (by kernel_rfl) ?_
        refine go_call 9 38 #[true, true, true, true, true, true, true, true, true, true, false, false, false, true, false, false] rfl rfl rfl (by rfl) rfl rfl (by rfl) ent45 (by rfl) (Hrr.out _) ?_
        rintro e wW197 ⟨rfl, hb⟩
        have hkW197 := held_next hkW196 hb
        have MQ13 := Lib.hid (MA13.out.call hb); clear MA13
        have MA13 := MQ13; clear MQ13
        refine ⟨_, rfl, fun _ => hkW197, ?_⟩
        clear hb
        (try simp only [sI, sS, sZ])
        refine go_take2 10 28 #[true, true, true, true, true, true, true, true, true, true, true, false, false, true, false, false] (v := ?uv7) rfl rfl rfl (by kernel_rfl) (Or.inl ⟨by rfl, ?uy7⟩) (hkW197) ?urest7
        case uy7 => (intro _ _; go_simp; try with_reducible rfl)
        (try simp only [sI, sS, sZ])
        refine go_take2 11 39 #[true, true, true, true, true, true, true, true, true, true, true, true, false, true, false, false] (v := ?uv8) rfl rfl rfl (by kernel_rfl) (Or.inl ⟨by rfl, ?uy8⟩) (hkW197) ?urest8
        case uy8 => (intro _ _; go_simp; try with_reducible rfl)
        (try simp only [sI, sS, sZ])
        refine go_take2 12 40 #[true, true, true, true, true, true, true, true, true, true, true, true, true, true, false, false] (v := ?uv9) rfl rfl rfl (by kernel_rfl) (Or.inl ⟨by rfl, ?uy9⟩) (hkW197) ?urest9
        case uy9 => (intro _ _; go_simp; try with_reducible rfl)
        (try simp only [sI, sS, sZ])
        refine wpBut_r1 (i := 14) (by kernel_rfl) ?_
        obtain ⟨Zq, hZ, mZ⟩ := MA13.out
        refine go_store2 14 #[true, true, true, true, true, true, true, true, true, true, true, true, true, true, true, false] rfl rfl rfl (by rfl) 40 _ _ rfl _ _ rfl rfl 40 Zq mZ (by rw [r22_size]; kernel_rfl) (hZ.trans (r22_size ..).symm) (row_one _ _ _) ?_
        intro wW198 hw2
        have hkW198 := below_setRow (hkW197) _ (r22 R3) HA13.out
        rw [← hw2] at hkW198
        clear MA13
        have MQ := mZ.setRow (r22 R3); rw [← hw2] at MQ; have MA13 := Lib.hid MQ; clear MQ mZ hZ hw2
        refine ⟨fun _ => hkW198, ?_⟩
        (try simp only [sI, sS, sZ])
        refine go_take2 15 9 #[true, true, true, true, true, true, true, true, true, true, true, true, true, true, true, true] (v := ?uv10) rfl rfl rfl (by kernel_rfl) (Or.inl ⟨by rfl, ?uy10⟩) (hkW198) ?urest10
        case uy10 => (intro _ _; go_simp; try with_reducible rfl)
        (try simp only [sI, sS, sZ])
        exact wpBut_done (by kernel_rfl) (NoPanic.normal (HQ.out (_) _ ⟨HA13.out, MA13.out, (hkW198)⟩))
        refine go_alloc 13 8 #[true, true, true, true, true, true, true, true, false, false, false, false, false, true, false, false] rfl rfl rfl (by rfl) 40 rfl _ al40 ?_
        intro wW195 hw2
        have hkW195 := (hkW194).alloc (hkW194).size (.cells z40 40)
        rw [← hw2] at hkW195
        have MQ := HasN.new (wW194) z40 40 22 (by kernel_rfl); rw [← hw2] at MQ; have MA13 := Lib.hid MQ; clear MQ
        have HA13 := Lib.hid (show W19.heap.size ≤ _ from (hkW194).size)
        clear hw2
        refine ⟨fun _ => hkW195, ?_⟩
        (try simp only [sI, sS, sZ])
        refine wpBut_r1 (i := 8) (by kernel_rfl) ?_
        refine go_call 8 37 #[true, true, true, true, true, true, true, true, true, false, false, false, false, true, false, false] rfl rfl rfl (by rfl) rfl rfl (by rfl) ent43 (by rfl) (Ho1.out _) ?_
        rintro e wW196 ⟨rfl, hb⟩
        have hkW196 := held_next hkW195 hb
        have MQ13 := Lib.hid (MA13.out.call hb); clear MA13
        have MA13 := MQ13; clear MQ13
        refine ⟨_, rfl, fun _ => hkW196, ?_⟩
        clear hb
        (try simp only [sI, sS, sZ])
        refine wpBut_r1 (i := 9) (by kernel_rfl) ?_
        refine go_call 9 38 #[true, true, true, true, true, true, true, true, true, true, false, false, false, true, false, false] rfl rfl rfl (by rfl) rfl rfl (by rfl) ent45 (by rfl) (Hrr.out _) ?_
        rintro e wW197 ⟨rfl, hb⟩
        have hkW197 := held_next hkW196 hb
        have MQ13 := Lib.hid (MA13.out.call hb); clear MA13
        have MA13 := MQ13; clear MQ13
        refine ⟨_, rfl, fun _ => hkW197, ?_⟩
        clear hb
        (try simp only [sI, sS, sZ])
        refine go_take2 10 28 #[true, true, true, true, true, true, true, true, true, true, true, false, false, true, false, false] (v := ?uv11) rfl rfl rfl (by kernel_rfl) (Or.inl ⟨by rfl, ?uy11⟩) (hkW197) ?urest11
        case uy11 => (intro _ _; go_simp; try with_reducible rfl)
        (try simp only [sI, sS, sZ])
        refine go_take2 11 39 #[true, true, true, true, true, true, true, true, true, true, true, true, false, true, false, false] (v := ?uv12) rfl rfl rfl (by kernel_rfl) (Or.inl ⟨by rfl, ?uy12⟩) (hkW197) ?urest12
        case uy12 => (intro _ _; go_simp; try with_reducible rfl)
        (try simp only [sI, sS, sZ])
        refine go_take2 12 40 #[true, true, true, true, true, true, true, true, true, true, true, true, true, true, false, false] (v := ?uv13) rfl rfl rfl (by kernel_rfl) (Or.inl ⟨by rfl, ?uy13⟩) (hkW197) ?urest13
        case uy13 => (intro _ _; go_simp; try with_reducible rfl)
        (try simp only [sI, sS, sZ])
        refine wpBut_r1 (i := 14) (by kernel_rfl) ?_
        obtain ⟨Zq, hZ, mZ⟩ := MA13.out
        refine go_store2 14 #[true, true, true, true, true, true, true, true, true, true, true, true, true, true, true, false] rfl rfl rfl (by rfl) 40 _ _ rfl _ _ rfl rfl 40 Zq mZ (by rw [r22_size]; kernel_rfl) (hZ.trans (r22_size ..).symm) (row_one _ _ _) ?_
        intro wW198 hw2
        have hkW198 := below_setRow (hkW197) _ (r22 R3) HA13.out
        rw [← hw2] at hkW198
        clear MA13
        have MQ := mZ.setRow (r22 R3); rw [← hw2] at MQ; have MA13 := Lib.hid MQ; clear MQ mZ hZ hw2
        refine ⟨fun _ => hkW198, ?_⟩
        (try simp only [sI, sS, sZ])
        refine go_take2 15 9 #[true, true, true, true, true, true, true, true, true, true, true, true, true, true, true, true] (v := ?uv14) rfl rfl rfl (by kernel_rfl) (Or.inl ⟨by rfl, ?uy14⟩) (hkW198) ?urest14
        case uy14 => (intro _ _; go_simp; try with_reducible rfl)
        (try simp only [sI, sS, sZ])
        exact wpBut_done (by kernel_rfl) (NoPanic.normal (HQ.out (_) _ ⟨HA13.out, MA13.out, (hkW198)⟩))
        refine go_alloc 13 8 #[true, true, true, true, true, true, true, false, false, false, false, false, false, true, false, false] rfl rfl rfl (by rfl) 40 rfl _ al40 ?_
        intro wW194 hw2
        have hkW194 := (hkW193).alloc (hkW193).size (.cells z40 40)
        rw [← hw2] at hkW194
        have MQ := HasN.new (wW193) z40 40 22 (by kernel_rfl); rw [← hw2] at MQ; have MA13 := Lib.hid MQ; clear MQ
        have HA13 := Lib.hid (show W19.heap.size ≤ _ from (hkW193).size)
        clear hw2
        refine ⟨fun _ => hkW194, ?_⟩
        (try simp only [sI, sS, sZ])
        refine wpBut_r1 (i := 7) (by kernel_rfl) ?_
        refine go_call 7 36 #[true, true, true, true, true, true, true, true, false, false, false, false, false, true, false, false] rfl rfl rfl (by rfl) rfl rfl (by rfl) ent38 (by rfl) (Hp1.out _) ?_
        rintro e wW195 ⟨rfl, hb⟩
        have hkW195 := held_next hkW194 hb
        have MQ13 := Lib.hid (MA13.out.call hb); clear MA13
        have MA13 := MQ13; clear MQ13
        refine ⟨_, rfl, fun _ => hkW195, ?_⟩
        clear hb
        (try simp only [sI, sS, sZ])
        refine wpBut_r1 (i := 8) (by kernel_rfl) ?_
        refine go_call 8 37 #[true, true, true, true, true, true, true, true, true, false, false, false, false, true, false, false] rfl rfl rfl (by rfl) rfl rfl (by rfl) ent43 (by rfl) (Ho1.out _) ?_
        rintro e wW196 ⟨rfl, hb⟩
        have hkW196 := held_next hkW195 hb
        have MQ13 := Lib.hid (MA13.out.call hb); clear MA13
        have MA13 := MQ13; clear MQ13
        refine ⟨_, rfl, fun _ => hkW196, ?_⟩
        clear hb
        (try simp only [sI, sS, sZ])
        refine wpBut_r1 (i := 9) (by kernel_rfl) ?_
        refine go_call 9 38 #[true, true, true, true, true, true, true, true, true, true, false, false, false, true, false, false] rfl rfl rfl (by rfl) rfl rfl (by rfl) ent45 (by rfl) (Hrr.out _) ?_
        rintro e wW197 ⟨rfl, hb⟩
        have hkW197 := held_next hkW196 hb
        have MQ13 := Lib.hid (MA13.out.call hb); clear MA13
        have MA13 := MQ13; clear MQ13
        refine ⟨_, rfl, fun _ => hkW197, ?_⟩
        clear hb
        (try simp only [sI, sS, sZ])
        refine go_take2 10 28 #[true, true, true, true, true, true, true, true, true, true, true, false, false, true, false, false] (v := ?uv15) rfl rfl rfl (by kernel_rfl) (Or.inl ⟨by rfl, ?uy15⟩) (hkW197) ?urest15
        case uy15 => (intro _ _; go_simp; try with_reducible rfl)
        (try simp only [sI, sS, sZ])
        refine go_take2 11 39 #[true, true, true, true, true, true, true, true, true, true, true, true, false, true, false, false] (v := ?uv16) rfl rfl rfl (by kernel_rfl) (Or.inl ⟨by rfl, ?uy16⟩) (hkW197) ?urest16
        case uy16 => (intro _ _; go_simp; try with_reducible rfl)
        (try simp only [sI, sS, sZ])
        refine go_take2 12 40 #[true, true, true, true, true, true, true, true, true, true, true, true, true, true, false, false] (v := ?uv17) rfl rfl rfl (by kernel_rfl) (Or.inl ⟨by rfl, ?uy17⟩) (hkW197) ?urest17
        case uy17 => (intro _ _; go_simp; try with_reducible rfl)
        (try simp only [sI, sS, sZ])
        refine wpBut_r1 (i := 14) (by kernel_rfl) ?_
        obtain ⟨Zq, hZ, mZ⟩ := MA13.out
        refine go_store2 14 #[true, true, true, true, true, true, true, true, true, true, true, true, true, true, true, false] rfl rfl rfl (by rfl) 40 _ _ rfl _ _ rfl rfl 40 Zq mZ (by rw [r22_size]; kernel_rfl) (hZ.trans (r22_size ..).symm) (row_one _ _ _) ?_
        intro wW198 hw2
        have hkW198 := below_setRow (hkW197) _ (r22 R3) HA13.out
        rw [← hw2] at hkW198
        clear MA13
        have MQ := mZ.setRow (r22 R3); rw [← hw2] at MQ; have MA13 := Lib.hid MQ; clear MQ mZ hZ hw2
        refine ⟨fun _ => hkW198, ?_⟩
        (try simp only [sI, sS, sZ])
        refine go_take2 15 9 #[true, true, true, true, true, true, true, true, true, true, true, true, true, true, true, true] (v := ?uv18) rfl rfl rfl (by kernel_rfl) (Or.inl ⟨by rfl, ?uy18⟩) (hkW198) ?urest18
        case uy18 => (intro _ _; go_simp; try with_reducible rfl)
        (try simp only [sI, sS, sZ])
        exact wpBut_done (by kernel_rfl) (NoPanic.normal (HQ.out (_) _ ⟨HA13.out, MA13.out, (hkW198)⟩))
        refine go_alloc 13 8 #[true, true, true, true, true, false, true, false, false, false, false, false, false, true, false, false] rfl rfl rfl (by rfl) 40 rfl _ al40 ?_
        intro wW193 hw2
        have hkW193 := (hkW192).alloc (hkW192).size (.cells z40 40)
        rw [← hw2] at hkW193
        have MQ := HasN.new (wW192) z40 40 22 (by kernel_rfl); rw [← hw2] at MQ; have MA13 := Lib.hid MQ; clear MQ
        have HA13 := Lib.hid (show W19.heap.size ≤ _ from (hkW192).size)
        clear hw2
        refine ⟨fun _ => hkW193, ?_⟩
        (try simp only [sI, sS, sZ])
        refine wpBut_r1 (i := 5) (by kernel_rfl) ?_
        refine go_call 5 34 #[true, true, true, true, true, true, true, false, false, false, false, false, false, true, false, false] rfl rfl rfl (by rfl) rfl rfl (by rfl) ent32 (by rfl) (Ht2.out _) ?_
        rintro e wW194 ⟨rfl, hb⟩
        have hkW194 := held_next hkW193 hb
        have MQ13 := Lib.hid (MA13.out.call hb); clear MA13
        have MA13 := MQ13; clear MQ13
        refine ⟨_, rfl, fun _ => hkW194, ?_⟩
        clear hb
        (try simp only [sI, sS, sZ])
        refine wpBut_r1 (i := 7) (by kernel_rfl) ?_
        refine go_call 7 36 #[true, true, true, true, true, true, true, true, false, false, false, false, false, true, false, false] rfl rfl rfl (by rfl) rfl rfl (by rfl) ent38 (by rfl) (Hp1.out _) ?_
        rintro e wW195 ⟨rfl, hb⟩
        have hkW195 := held_next hkW194 hb
        have MQ13 := Lib.hid (MA13.out.call hb); clear MA13
        have MA13 := MQ13; clear MQ13
        refine ⟨_, rfl, fun _ => hkW195, ?_⟩
        clear hb
        (try simp only [sI, sS, sZ])
        refine wpBut_r1 (i := 8) (by kernel_rfl) ?_
        refine go_call 8 37 #[true, true, true, true, true, true, true, true, true, false, false, false, false, true, false, false] rfl rfl rfl (by rfl) rfl rfl (by rfl) ent43 (by rfl) (Ho1.out _) ?_
        rintro e wW196 ⟨rfl, hb⟩
        have hkW196 := held_next hkW195 hb
        have MQ13 := Lib.hid (MA13.out.call hb); clear MA13
        have MA13 := MQ13; clear MQ13
        refine ⟨_, rfl, fun _ => hkW196, ?_⟩
        clear hb
        (try simp only [sI, sS, sZ])
        refine wpBut_r1 (i := 9) (by kernel_rfl) ?_
        refine go_call 9 38 #[true, true, true, true, true, true, true, true, true, true, false, false, false, true, false, false] rfl rfl rfl (by rfl) rfl rfl (by rfl) ent45 (by rfl) (Hrr.out _) ?_
        rintro e wW197 ⟨rfl, hb⟩
        have hkW197 := held_next hkW196 hb
        have MQ13 := Lib.hid (MA13.out.call hb); clear MA13
        have MA13 := MQ13; clear MQ13
        refine ⟨_, rfl, fun _ => hkW197, ?_⟩
        clear hb
        (try simp only [sI, sS, sZ])
        refine go_take2 10 28 #[true, true, true, true, true, true, true, true, true, true, true, false, false, true, false, false] (v := ?uv19) rfl rfl rfl (by kernel_rfl) (Or.inl ⟨by rfl, ?uy19⟩) (hkW197) ?urest19
        case uy19 => (intro _ _; go_simp; try with_reducible rfl)
        (try simp only [sI, sS, sZ])
        refine go_take2 11 39 #[true, true, true, true, true, true, true, true, true, true, true, true, false, true, false, false] (v := ?uv20) rfl rfl rfl (by kernel_rfl) (Or.inl ⟨by rfl, ?uy20⟩) (hkW197) ?urest20
        case uy20 => (intro _ _; go_simp; try with_reducible rfl)
        (try simp only [sI, sS, sZ])
        refine go_take2 12 40 #[true, true, true, true, true, true, true, true, true, true, true, true, true, true, false, false] (v := ?uv21) rfl rfl rfl (by kernel_rfl) (Or.inl ⟨by rfl, ?uy21⟩) (hkW197) ?urest21
        case uy21 => (intro _ _; go_simp; try with_reducible rfl)
        (try simp only [sI, sS, sZ])
        refine wpBut_r1 (i := 14) (by kernel_rfl) ?_
        obtain ⟨Zq, hZ, mZ⟩ := MA13.out
        refine go_store2 14 #[true, true, true, true, true, true, true, true, true, true, true, true, true, true, true, false] rfl rfl rfl (by rfl) 40 _ _ rfl _ _ rfl rfl 40 Zq mZ (by rw [r22_size]; kernel_rfl) (hZ.trans (r22_size ..).symm) (row_one _ _ _) ?_
        intro wW198 hw2
        have hkW198 := below_setRow (hkW197) _ (r22 R3) HA13.out
        rw [← hw2] at hkW198
        clear MA13
        have MQ := mZ.setRow (r22 R3); rw [← hw2] at MQ; have MA13 := Lib.hid MQ; clear MQ mZ hZ hw2
        refine ⟨fun _ => hkW198, ?_⟩
        (try simp only [sI, sS, sZ])
        refine go_take2 15 9 #[true, true, true, true, true, true, true, true, true, true, true, true, true, true, true, true] (v := ?uv22) rfl rfl rfl (by kernel_rfl) (Or.inl ⟨by rfl, ?uy22⟩) (hkW198) ?urest22
        case uy22 => (intro _ _; go_simp; try with_reducible rfl)
        (try simp only [sI, sS, sZ])
        exact wpBut_done (by kernel_rfl) (NoPanic.normal (HQ.out (_) _ ⟨HA13.out, MA13.out, (hkW198)⟩))
        refine go_alloc 13 8 #[true, true, true, false, true, false, true, false, false, false, false, false, false, true, false, false] rfl rfl rfl (by rfl) 40 rfl _ al40 ?_
        intro wW192 hw2
        have hkW192 := (hkW191).alloc (hkW191).size (.cells z40 40)
        rw [← hw2] at hkW192
        have MQ := HasN.new (wW191) z40 40 22 (by kernel_rfl); rw [← hw2] at MQ; have MA13 := Lib.hid MQ; clear MQ
        have HA13 := Lib.hid (show W19.heap.size ≤ _ from (hkW191).size)
        clear hw2
        refine ⟨fun _ => hkW192, ?_⟩
        (try simp only [sI, sS, sZ])
        refine wpBut_r1 (i := 3) (by kernel_rfl) ?_
        refine go_call 3 32 #[true, true, true, true, true, false, true, false, false, false, false, false, false, true, false, false] rfl rfl rfl (by rfl) rfl rfl (by rfl) ent89 (by rfl) (rslope_any _) ?_
        rintro e wW193 ⟨rfl, hb⟩
        have hkW193 := held_next hkW192 hb
        have MQ13 := Lib.hid (MA13.out.call hb); clear MA13
        have MA13 := MQ13; clear MQ13
        refine ⟨_, rfl, fun _ => hkW193, ?_⟩
        clear hb
        (try simp only [sI, sS, sZ])
        refine wpBut_r1 (i := 5) (by kernel_rfl) ?_
        refine go_call 5 34 #[true, true, true, true, true, true, true, false, false, false, false, false, false, true, false, false] rfl rfl rfl (by rfl) rfl rfl (by rfl) ent32 (by rfl) (Ht2.out _) ?_
        rintro e wW194 ⟨rfl, hb⟩
        have hkW194 := held_next hkW193 hb
        have MQ13 := Lib.hid (MA13.out.call hb); clear MA13
        have MA13 := MQ13; clear MQ13
        refine ⟨_, rfl, fun _ => hkW194, ?_⟩
        clear hb
        (try simp only [sI, sS, sZ])
        refine wpBut_r1 (i := 7) (by kernel_rfl) ?_
        refine go_call 7 36 #[true, true, true, true, true, true, true, true, false, false, false, false, false, true, false, false] rfl rfl rfl (by rfl) rfl rfl (by rfl) ent38 (by rfl) (Hp1.out _) ?_
        rintro e wW195 ⟨rfl, hb⟩
        have hkW195 := held_next hkW194 hb
        have MQ13 := Lib.hid (MA13.out.call hb); clear MA13
        have MA13 := MQ13; clear MQ13
        refine ⟨_, rfl, fun _ => hkW195, ?_⟩
        clear hb
        (try simp only [sI, sS, sZ])
        refine wpBut_r1 (i := 8) (by kernel_rfl) ?_
        refine go_call 8 37 #[true, true, true, true, true, true, true, true, true, false, false, false, false, true, false, false] rfl rfl rfl (by rfl) rfl rfl (by rfl) ent43 (by rfl) (Ho1.out _) ?_
        rintro e wW196 ⟨rfl, hb⟩
        have hkW196 := held_next hkW195 hb
        have MQ13 := Lib.hid (MA13.out.call hb); clear MA13
        have MA13 := MQ13; clear MQ13
        refine ⟨_, rfl, fun _ => hkW196, ?_⟩
        clear hb
        (try simp only [sI, sS, sZ])
        refine wpBut_r1 (i := 9) (by kernel_rfl) ?_
        refine go_call 9 38 #[true, true, true, true, true, true, true, true, true, true, false, false, false, true, false, false] rfl rfl rfl (by rfl) rfl rfl (by rfl) ent45 (by rfl) (Hrr.out _) ?_
        rintro e wW197 ⟨rfl, hb⟩
        have hkW197 := held_next hkW196 hb
        have MQ13 := Lib.hid (MA13.out.call hb); clear MA13
        have MA13 := MQ13; clear MQ13
        refine ⟨_, rfl, fun _ => hkW197, ?_⟩
        clear hb
        (try simp only [sI, sS, sZ])
        refine go_take2 10 28 #[true, true, true, true, true, true, true, true, true, true, true, false, false, true, false, false] (v := ?uv23) rfl rfl rfl (by kernel_rfl) (Or.inl ⟨by rfl, ?uy23⟩) (hkW197) ?urest23
        case uy23 => (intro _ _; go_simp; try with_reducible rfl)
        (try simp only [sI, sS, sZ])
        refine go_take2 11 39 #[true, true, true, true, true, true, true, true, true, true, true, true, false, true, false, false] (v := ?uv24) rfl rfl rfl (by kernel_rfl) (Or.inl ⟨by rfl, ?uy24⟩) (hkW197) ?urest24
        case uy24 => (intro _ _; go_simp; try with_reducible rfl)
        (try simp only [sI, sS, sZ])
        refine go_take2 12 40 #[true, true, true, true, true, true, true, true, true, true, true, true, true, true, false, false] (v := ?uv25) rfl rfl rfl (by kernel_rfl) (Or.inl ⟨by rfl, ?uy25⟩) (hkW197) ?urest25
        case uy25 => (intro _ _; go_simp; try with_reducible rfl)
        (try simp only [sI, sS, sZ])
        refine wpBut_r1 (i := 14) (by kernel_rfl) ?_
        obtain ⟨Zq, hZ, mZ⟩ := MA13.out
        refine go_store2 14 #[true, true, true, true, true, true, true, true, true, true, true, true, true, true, true, false] rfl rfl rfl (by rfl) 40 _ _ rfl _ _ rfl rfl 40 Zq mZ (by rw [r22_size]; kernel_rfl) (hZ.trans (r22_size ..).symm) (row_one _ _ _) ?_
        intro wW198 hw2
        have hkW198 := below_setRow (hkW197) _ (r22 R3) HA13.out
        rw [← hw2] at hkW198
        clear MA13
        have MQ := mZ.setRow (r22 R3); rw [← hw2] at MQ; have MA13 := Lib.hid MQ; clear MQ mZ hZ hw2
        refine ⟨fun _ => hkW198, ?_⟩
        (try simp only [sI, sS, sZ])
        refine go_take2 15 9 #[true, true, true, true, true, true, true, true, true, true, true, true, true, true, true, true] (v := ?uv26) rfl rfl rfl (by kernel_rfl) (Or.inl ⟨by rfl, ?uy26⟩) (hkW198) ?urest26
        case uy26 => (intro _ _; go_simp; try with_reducible rfl)
        (try simp only [sI, sS, sZ])
        exact wpBut_done (by kernel_rfl) (NoPanic.normal (HQ.out (_) _ ⟨HA13.out, MA13.out, (hkW198)⟩))
        refine go_alloc 13 8 #[true, true, false, false, true, false, true, false, false, false, false, false, false, true, false, false] rfl rfl rfl (by rfl) 40 rfl _ al40 ?_
        intro wW191 hw2
        have hkW191 := ((below_dr W19)).alloc ((below_dr W19)).size (.cells z40 40)
        rw [← hw2] at hkW191
        have MQ := HasN.new (W19.drew) z40 40 22 (by kernel_rfl); rw [← hw2] at MQ; have MA13 := Lib.hid MQ; clear MQ
        have HA13 := Lib.hid (show W19.heap.size ≤ _ from ((below_dr W19)).size)
        clear hw2
        refine ⟨fun _ => hkW191, ?_⟩
        (try simp only [sI, sS, sZ])
        refine wpBut_r1 (i := 2) (by kernel_rfl) ?_
        refine go_call 2 31 #[true, true, true, false, true, false, true, false, false, false, false, false, false, true, false, false] rfl rfl rfl (by rfl) rfl rfl (by rfl) ent40 (by rfl) (Hm1.out _) ?_
        rintro e wW192 ⟨rfl, hb⟩
        have hkW192 := held_next hkW191 hb
        have MQ13 := Lib.hid (MA13.out.call hb); clear MA13
        have MA13 := MQ13; clear MQ13
        refine ⟨_, rfl, fun _ => hkW192, ?_⟩
        clear hb
        (try simp only [sI, sS, sZ])
        refine wpBut_r1 (i := 3) (by kernel_rfl) ?_
        refine go_call 3 32 #[true, true, true, true, true, false, true, false, false, false, false, false, false, true, false, false] rfl rfl rfl (by rfl) rfl rfl (by rfl) ent89 (by rfl) (rslope_any _) ?_
        rintro e wW193 ⟨rfl, hb⟩
        have hkW193 := held_next hkW192 hb
        have MQ13 := Lib.hid (MA13.out.call hb); clear MA13
        have MA13 := MQ13; clear MQ13
        refine ⟨_, rfl, fun _ => hkW193, ?_⟩
        clear hb
        (try simp only [sI, sS, sZ])
        refine wpBut_r1 (i := 5) (by kernel_rfl) ?_
        refine go_call 5 34 #[true, true, true, true, true, true, true, false, false, false, false, false, false, true, false, false] rfl rfl rfl (by rfl) rfl rfl (by rfl) ent32 (by rfl) (Ht2.out _) ?_
        rintro e wW194 ⟨rfl, hb⟩
        have hkW194 := held_next hkW193 hb
        have MQ13 := Lib.hid (MA13.out.call hb); clear MA13
        have MA13 := MQ13; clear MQ13
        refine ⟨_, rfl, fun _ => hkW194, ?_⟩
        clear hb
        (try simp only [sI, sS, sZ])
        refine wpBut_r1 (i := 7) (by kernel_rfl) ?_
        refine go_call 7 36 #[true, true, true, true, true, true, true, true, false, false, false, false, false, true, false, false] rfl rfl rfl (by rfl) rfl rfl (by rfl) ent38 (by rfl) (Hp1.out _) ?_
        rintro e wW195 ⟨rfl, hb⟩
        have hkW195 := held_next hkW194 hb
        have MQ13 := Lib.hid (MA13.out.call hb); clear MA13
        have MA13 := MQ13; clear MQ13
        refine ⟨_, rfl, fun _ => hkW195, ?_⟩
        clear hb
        (try simp only [sI, sS, sZ])
        refine wpBut_r1 (i := 8) (by kernel_rfl) ?_
        refine go_call 8 37 #[true, true, true, true, true, true, true, true, true, false, false, false, false, true, false, false] rfl rfl rfl (by rfl) rfl rfl (by rfl) ent43 (by rfl) (Ho1.out _) ?_
        rintro e wW196 ⟨rfl, hb⟩
        have hkW196 := held_next hkW195 hb
        have MQ13 := Lib.hid (MA13.out.call hb); clear MA13
        have MA13 := MQ13; clear MQ13
        refine ⟨_, rfl, fun _ => hkW196, ?_⟩
        clear hb
        (try simp only [sI, sS, sZ])
        refine wpBut_r1 (i := 9) (by kernel_rfl) ?_
        refine go_call 9 38 #[true, true, true, true, true, true, true, true, true, true, false, false, false, true, false, false] rfl rfl rfl (by rfl) rfl rfl (by rfl) ent45 (by rfl) (Hrr.out _) ?_
        rintro e wW197 ⟨rfl, hb⟩
        have hkW197 := held_next hkW196 hb
        have MQ13 := Lib.hid (MA13.out.call hb); clear MA13
        have MA13 := MQ13; clear MQ13
        refine ⟨_, rfl, fun _ => hkW197, ?_⟩
        clear hb
        (try simp only [sI, sS, sZ])
        refine go_take2 10 28 #[true, true, true, true, true, true, true, true, true, true, true, false, false, true, false, false] (v := ?uv27) rfl rfl rfl (by kernel_rfl) (Or.inl ⟨by rfl, ?uy27⟩) (hkW197) ?urest27
        case uy27 => (intro _ _; go_simp; try with_reducible rfl)
        (try simp only [sI, sS, sZ])
        refine go_take2 11 39 #[true, true, true, true, true, true, true, true, true, true, true, true, false, true, false, false] (v := ?uv28) rfl rfl rfl (by kernel_rfl) (Or.inl ⟨by rfl, ?uy28⟩) (hkW197) ?urest28
        case uy28 => (intro _ _; go_simp; try with_reducible rfl)
        (try simp only [sI, sS, sZ])
        refine go_take2 12 40 #[true, true, true, true, true, true, true, true, true, true, true, true, true, true, false, false] (v := ?uv29) rfl rfl rfl (by kernel_rfl) (Or.inl ⟨by rfl, ?uy29⟩) (hkW197) ?urest29
        case uy29 => (intro _ _; go_simp; try with_reducible rfl)
        (try simp only [sI, sS, sZ])
        refine wpBut_r1 (i := 14) (by kernel_rfl) ?_
        obtain ⟨Zq, hZ, mZ⟩ := MA13.out
        refine go_store2 14 #[true, true, true, true, true, true, true, true, true, true, true, true, true, true, true, false] rfl rfl rfl (by rfl) 40 _ _ rfl _ _ rfl rfl 40 Zq mZ (by rw [r22_size]; kernel_rfl) (hZ.trans (r22_size ..).symm) (row_one _ _ _) ?_
        intro wW198 hw2
        have hkW198 := below_setRow (hkW197) _ (r22 R3) HA13.out
        rw [← hw2] at hkW198
        clear MA13
        have MQ := mZ.setRow (r22 R3); rw [← hw2] at MQ; have MA13 := Lib.hid MQ; clear MQ mZ hZ hw2
        refine ⟨fun _ => hkW198, ?_⟩
        (try simp only [sI, sS, sZ])
        refine go_take2 15 9 #[true, true, true, true, true, true, true, true, true, true, true, true, true, true, true, true] (v := ?uv30) rfl rfl rfl (by kernel_rfl) (Or.inl ⟨by rfl, ?uy30⟩) (hkW198) ?urest30
        case uy30 => (intro _ _; go_simp; try with_reducible rfl)
        (try simp only [sI, sS, sZ])
        exact wpBut_done (by kernel_rfl) (NoPanic.normal (HQ.out (_) _ ⟨HA13.out, MA13.out, (hkW198)⟩))
      · rintro W19 B8 vw19 hW19 ⟨hBq0, mBq0, hbw⟩
        simp only [Act.put, List.setIfInBounds_toArray, List.set_cons_succ, List.set_cons_zero] at  hBq0  mBq0 ⊢
        have kq := M1.out; rw [← hW19] at kq; clear M1; have M1 := Lib.hid kq; clear kq
        have kq := M2.out; rw [← hW19] at kq; clear M2; have M2 := Lib.hid kq; clear kq
        have kq := M5.out; rw [← hW19] at kq; clear M5; have M5 := Lib.hid kq; clear kq
        have kq := M6.out; rw [← hW19] at kq; clear M6; have M6 := Lib.hid kq; clear kq
        have kq := M7.out; rw [← hW19] at kq; clear M7; have M7 := Lib.hid kq; clear kq
        have kq := HB.out; rw [← hW19] at kq; clear HB; have HB := Lib.hid kq; clear kq
        clear hW19
        have hltM1_19 := M1.out.lt
        have hltM2_19 := M2.out.lt
        have hltM5_19 := M5.out.lt
        have hltM6_19 := M6.out.lt
        have hltM7_19 := M7.out.lt
        replace M1 := Lib.hid (M1.out.call hbw)
        replace M2 := Lib.hid (M2.out.call hbw)
        replace M5 := Lib.hid (M5.out.call hbw)
        replace M6 := Lib.hid (M6.out.call hbw)
        replace M7 := Lib.hid (M7.out.call hbw)
        replace HB := Lib.hid (held_next HB.out hbw)
        have M8 := Lib.hid mBq0; clear mBq0
        clear hbw
        clear M7
        clear Hint Ht1 Hm1 Ht2 Hp1 Ho1 Hrr
        repeat ((fail_if_success (with_reducible (show wpList _ _ _ _ _ _))); go_step)
        cases ok
        · refine wpList_step (fun K hK => ?_)
          go_simp
          (try go_bits)
          refine hK _ _ ?_
          clear hK K
          refine wpList_step (fun K hK => ?_)
          go_simp
          (try go_bits)
          refine hK _ _ ?_
          clear hK K
          refine wpList_step (fun K hK => ?_)
          go_simp
          (try go_bits)
          refine hK _ _ ?_
          clear hK K
          refine wpList_step (fun K hK => ?_)
          go_simp
          (try go_bits)
          refine hK _ _ ?_
          clear hK K
          refine wpList_step (fun K hK => ?_)
          go_simp
          (try go_bits)
          refine hK _ _ ?_
          clear hK K
          refine wpList_step (fun K hK => ?_)
          go_simp
          (try go_bits)
          refine hK _ _ ?_
          clear hK K
          refine wpList_step (fun K hK => ?_)
          go_simp
          (try go_bits)
          refine hK _ _ ?_
          clear hK K
          refine wpList_step (fun K hK => ?_)
          go_simp
          (try go_bits)
          refine hK _ _ ?_
          clear hK K
          refine wpList_step (fun K hK => ?_)
          go_simp
          (try go_bits)
          refine hK _ _ ?_
          clear hK K
          refine wpList_step (fun K hK => ?_)
          go_simp
          (try go_bits)
          refine hK _ _ ?_
          clear hK K
          refine wpList_step (fun K hK => ?_)
          go_simp
          (try go_bits)
          refine hK _ _ ?_
          clear hK K
          refine wpList_nil ?_
          repeat ((fail_if_success (with_reducible (show wpList _ _ _ _ _ _))); go_step)
          refine wpList_call (by rfl) rfl rfl (by rfl) ent88 (by rfl) (Horg.out _) 52 rfl ?_
          rintro e uw4 ⟨rfl, hb⟩
          replace M1 := Lib.hid (M1.out.call hb)
          replace M2 := Lib.hid (M2.out.call hb)
          replace M5 := Lib.hid (M5.out.call hb)
          replace M6 := Lib.hid (M6.out.call hb)
          replace M8 := Lib.hid (M8.out.call hb)
          replace HB := Lib.hid (held_next HB.out hb)
          refine ⟨_, rfl, ?_⟩
          clear hb
          (try simp only [Act.put, sI, sS, sZ])
          first | (obtain ⟨Zq, hZ, mZ⟩ := M2.out) | (obtain ⟨Zq, hZ, mZ⟩ := M2.out.toN (rp_size ..))
          refine wpList_store2 (by rfl) 57 _ _ rfl rfl (w.heap.size + 1) (rp 0 1 1 0) rfl rfl 57 Zq mZ (by rw [rp_size]; kernel_rfl) (hZ.trans (rp_size ..).symm) (rp_one _ _ _ _) ?_
          intro yw20 hw2
          have kq := M1.out.setRow_other (w.heap.size + 1) (rp 0 1 1 0) (by omega); rw [← hw2] at kq; clear M1; have M1 := Lib.hid kq; clear kq
          have kq := M5.out.setRow_other (w.heap.size + 1) (rp 0 1 1 0) (by omega); rw [← hw2] at kq; clear M5; have M5 := Lib.hid kq; clear kq
          have kq := M6.out.setRow_other (w.heap.size + 1) (rp 0 1 1 0) (by omega); rw [← hw2] at kq; clear M6; have M6 := Lib.hid kq; clear kq
          have kq := M8.out.setRow_other (w.heap.size + 1) (rp 0 1 1 0) (by omega); rw [← hw2] at kq; clear M8; have M8 := Lib.hid kq; clear kq
          have kq := mZ.setRow (rp 0 1 1 0); rw [← hw2] at kq; clear M2; have M2 := Lib.hid kq; clear kq mZ hZ
          have kq := below_setRow HB.out (w.heap.size + 1) (rp 0 1 1 0) (by omega); rw [← hw2] at kq; clear HB; have HB := Lib.hid kq; clear kq hw2
          refine wpList_step (fun K hK => ?_)
          go_simp
          (try go_bits)
          refine hK _ _ ?_
          clear hK K
          refine wpList_nil ?_
          go_wp2_with fail
          have hb := Hcof.out.trans (bes_no1 C true n0 Hok.out.symm)
          exact bodyPost_ret (v := .tuple #[.agg (rp 0 1 1 0), .bool false]) (results_cell_tmp_row (fn := Try.f48) (p := 2) (t2 := 3) (ty := 57) (t := 57) (by rfl) _ _ (w.heap.size + 1) _ _ _ rfl M2.out Try.underlying57 rfl (by rw [rp_size]; kernel_rfl)) rfl ⟨by rw [hb, Nat.zero_mul, Nat.zero_mod], HB.out⟩
        · refine wpList_step (fun K hK => ?_)
          go_simp
          (try go_bits)
          refine hK _ _ ?_
          clear hK K
          refine wpList_step (fun K hK => ?_)
          go_simp
          (try go_bits)
          refine hK _ _ ?_
          clear hK K
          refine wpList_step (fun K hK => ?_)
          go_simp
          (try go_bits)
          refine hK _ _ ?_
          clear hK K
          refine wpList_step (fun K hK => ?_)
          go_simp
          (try go_bits)
          refine hK _ _ ?_
          clear hK K
          refine wpList_step (fun K hK => ?_)
          go_simp
          (try go_bits)
          refine hK _ _ ?_
          clear hK K
          refine wpList_step (fun K hK => ?_)
          go_simp
          (try go_bits)
          refine hK _ _ ?_
          clear hK K
          refine wpList_step (fun K hK => ?_)
          go_simp
          (try go_bits)
          refine hK _ _ ?_
          clear hK K
          refine wpList_step (fun K hK => ?_)
          go_simp
          (try go_bits)
          refine hK _ _ ?_
          clear hK K
          refine wpList_step (fun K hK => ?_)
          go_simp
          (try go_bits)
          refine hK _ _ ?_
          clear hK K
          refine wpList_step (fun K hK => ?_)
          go_simp
          (try go_bits)
          refine hK _ _ ?_
          clear hK K
          refine wpList_step (fun K hK => ?_)
          go_simp
          (try go_bits)
          refine hK _ _ ?_
          clear hK K
          refine wpList_nil ?_
          repeat ((fail_if_success (with_reducible (show wpList _ _ _ _ _ _))); go_step)
          refine wpList_step (fun K hK => ?_)
          go_simp
          (try go_bits)
          refine hK _ _ ?_
          clear hK K
          refine wpList_step (fun K hK => ?_)
          go_simp
          (try go_bits)
          refine hK _ _ ?_
          clear hK K
          refine wpList_nil ?_
          repeat ((fail_if_success (with_reducible (show wpList _ _ _ _ _ _))); go_step)
          have htx := fun w => rtimes_any R3 n0 HR3l.out Hlt.out w
          obtain ⟨tt, htt⟩ : ∃ t, t = R3 * n0 % PP := ⟨_, rfl⟩
          rw [← htt] at htx
          have Htx := Lib.hid htx; clear htx
          have Htt := Lib.hid htt; clear htt
          refine wp_region_noPanic ?_
          refine wp_region_goS (fun w' => Has w' (B8) (r22 R3) 40 ∧ Has w' (uw1.heap.size) (r22 n0) 40 ∧ Has w' (uw2.heap.size) (r22 1) 40) 99 9 #[false, false, false, false, false, false, false, false, false] (by kernel_rfl) rfl rfl ?_
          replace M1 := Lib.hid (M1.out.drew)
          replace M2 := Lib.hid (M2.out.drew)
          replace M5 := Lib.hid (M5.out.drew)
          replace M6 := Lib.hid (M6.out.drew)
          replace M8 := Lib.hid (M8.out.drew)
          replace HB := Lib.hid (below_drewN HB.out 1)
          obtain ⟨yw20, hwyw20⟩ : ∃ ww, ww = vw19.drew := ⟨_, rfl⟩
          rw [← hwyw20] at M1 M2 M5 M6 M8 ⊢
          have kq : Below w.heap.size w yw20 := by rw [hwyw20]; exact HB.out
          clear HB; have HB := Lib.hid kq; clear kq hwyw20
          refine go_take2 0 58 #[true, false, false, false, false, false, false, false, false] rfl rfl rfl (by kernel_rfl) (yieldsIf_load_row (by rfl) 40 _ rfl (B8) rfl 40 (r22 R3) (fun _ h => h.1) Try.underlying40 rfl (by rw [r22_size]; kernel_rfl)) (⟨M8.out, M5.out, M6.out⟩) ?_
          (try simp only [sI, sS, sZ])
          refine go_take2 1 59 #[true, true, false, false, false, false, false, false, false] rfl rfl rfl (by kernel_rfl) (yieldsIf_load_row (by rfl) 40 _ rfl (uw1.heap.size) rfl 40 (r22 n0) (fun _ h => h.2.1) Try.underlying40 rfl (by rw [r22_size]; kernel_rfl)) (⟨M8.out, M5.out, M6.out⟩) ?_
          (try simp only [sI, sS, sZ])
          refine go_take2 2 60 #[true, true, true, false, false, false, false, false, false] rfl rfl rfl (by kernel_rfl) (yieldsIf_load_row (by rfl) 40 _ rfl (uw2.heap.size) rfl 40 (r22 1) (fun _ h => h.2.2) Try.underlying40 rfl (by rw [r22_size]; kernel_rfl)) (⟨M8.out, M5.out, M6.out⟩) ?_
          (try simp only [sI, sS, sZ])
          refine go_take2 3 61 #[true, true, true, true, false, false, false, false, false] rfl rfl rfl (by kernel_rfl) (yieldsIf_load_row (by rfl) 40 _ rfl (B8) rfl 40 (r22 R3) (fun _ h => h.1) Try.underlying40 rfl (by rw [r22_size]; kernel_rfl)) (⟨M8.out, M5.out, M6.out⟩) ?_
          (try simp only [sI, sS, sZ])
          refine go_take2 4 62 #[true, true, true, true, true, false, false, false, false] rfl rfl rfl (by kernel_rfl) (yieldsIf_load_row (by rfl) 40 _ rfl (uw1.heap.size) rfl 40 (r22 n0) (fun _ h => h.2.1) Try.underlying40 rfl (by rw [r22_size]; kernel_rfl)) (⟨M8.out, M5.out, M6.out⟩) ?_
          (try simp only [sI, sS, sZ])
          refine wpBut_r1 (i := 5) (by kernel_rfl) ?_
          refine go_call 5 63 #[true, true, true, true, true, true, false, false, false] rfl rfl rfl (by rfl) rfl rfl (by rfl) ent32 (by rfl) (Htx.out _) ?_
          rintro e uw4 ⟨rfl, hb⟩
          replace M1 := Lib.hid (M1.out.call hb)
          replace M2 := Lib.hid (M2.out.call hb)
          replace M5 := Lib.hid (M5.out.call hb)
          replace M6 := Lib.hid (M6.out.call hb)
          replace M8 := Lib.hid (M8.out.call hb)
          replace HB := Lib.hid (held_next HB.out hb)
          refine ⟨_, rfl, fun _ => ⟨M8.out, M5.out, M6.out⟩, ?_⟩
          clear hb
          (try simp only [sI, sS, sZ])
          refine go_take2 6 64 #[true, true, true, true, true, true, true, false, false] rfl rfl rfl (by kernel_rfl) (yieldsIf_build (by rfl) 57 _ rfl _ (by rfl) (rp R3 n0 1 tt) (bd57 R3 n0 1 tt)) (⟨M8.out, M5.out, M6.out⟩) ?_
          (try simp only [sI, sS, sZ])
          refine wpBut_r1 (i := 7) (by kernel_rfl) ?_
          first | (obtain ⟨Zq, hZ, mZ⟩ := M2.out) | (obtain ⟨Zq, hZ, mZ⟩ := M2.out.toN (rp_size ..))
          refine go_store2 7 #[true, true, true, true, true, true, true, true, false] rfl rfl rfl (by rfl) 57 _ _ rfl (w.heap.size + 1) (rp R3 n0 1 tt) rfl rfl 57 Zq mZ (by rw [rp_size]; kernel_rfl) (hZ.trans (rp_size ..).symm) (rp_one _ _ _ _) ?_
          intro yw21 hw2
          have kq := M1.out.setRow_other (w.heap.size + 1) (rp R3 n0 1 tt) (by omega); rw [← hw2] at kq; clear M1; have M1 := Lib.hid kq; clear kq
          have kq := M5.out.setRow_other (w.heap.size + 1) (rp R3 n0 1 tt) (by omega); rw [← hw2] at kq; clear M5; have M5 := Lib.hid kq; clear kq
          have kq := M6.out.setRow_other (w.heap.size + 1) (rp R3 n0 1 tt) (by omega); rw [← hw2] at kq; clear M6; have M6 := Lib.hid kq; clear kq
          have kq := M8.out.setRow_other (w.heap.size + 1) (rp R3 n0 1 tt) (by omega); rw [← hw2] at kq; clear M8; have M8 := Lib.hid kq; clear kq
          have kq := mZ.setRow (rp R3 n0 1 tt); rw [← hw2] at kq; clear M2; have M2 := Lib.hid kq; clear kq mZ hZ
          have kq := below_setRow HB.out (w.heap.size + 1) (rp R3 n0 1 tt) (by omega); rw [← hw2] at kq; clear HB; have HB := Lib.hid kq; clear kq hw2
          refine ⟨fun _ => ⟨M8.out, M5.out, M6.out⟩, ?_⟩
          (try simp only [sI, sS, sZ])
          refine go_take2 8 3 #[true, true, true, true, true, true, true, true, true] (v := ?uv31) rfl rfl rfl (by kernel_rfl) (Or.inl ⟨by rfl, ?uy31⟩) (⟨M8.out, M5.out, M6.out⟩) ?urest31
          case uy31 => (intro _ _; go_simp; try with_reducible rfl)
          (try simp only [sI, sS, sZ])
          refine wpBut_done (by kernel_rfl) (NoPanic.normal ?_)
          go_wp2_with fail
          have hb := Hcof.out.trans (bes_even C n0 Hok.out.symm)
          exact bodyPost_ret (v := .tuple #[.agg (rp R3 n0 1 tt), .bool true]) (results_cell_tmp_row (fn := Try.f48) (p := 2) (t2 := 3) (ty := 57) (t := 57) (by rfl) _ _ (w.heap.size + 1) _ _ _ rfl M2.out Try.underlying57 rfl (by rw [rp_size]; kernel_rfl)) rfl ⟨by rw [hb, Htt.out, HR3.out], HB.out⟩
    · have hne : ¬ A = n0 := by have := HAl.out; omega
      have heq := fun w => k32_eq A n0 (PP_256 A HAl.out) Hl0.out w
      rw [decide_eq_false hne] at heq
      clear hne
      have hcf := Hno.out hlt
      refine wp_region_noPanic ?_
      refine wp_region_go 99 4 #[false, false, false, false] (by kernel_rfl) rfl rfl ?_
      intro W7 hW7
      have kq := M1.out; rw [← hW7] at kq; clear M1; have M1 := Lib.hid kq; clear kq
      have kq := M2.out; rw [← hW7] at kq; clear M2; have M2 := Lib.hid kq; clear kq
      have kq := M5.out; rw [← hW7] at kq; clear M5; have M5 := Lib.hid kq; clear kq
      have kq := HB.out; rw [← hW7] at kq; clear HB; have HB := Lib.hid kq; clear kq
      clear hW7
      refine go_take2 0 19 #[true, false, false, false] rfl rfl rfl (by kernel_rfl) (yieldsIf_load_row (by rfl) 40 _ rfl (uw1.heap.size) rfl 40 (r22 A) (fun _ h => M5.out.below h M5.out.lt) Try.underlying40 rfl (by rw [r22_size]; kernel_rfl)) ((below_dr W7)) ?_
      (try simp only [sI, sS, sZ])
      refine go_take2 2 21 #[true, false, true, false] rfl rfl rfl (by kernel_rfl) (yieldsIf_load_row (by rfl) 24 _ rfl (w.heap.size) rfl 24 (k32 n0) (fun _ h => M1.out.below h M1.out.lt) Try.underlying24 rfl (by rw [k32_size]; kernel_rfl)) ((below_dr W7)) ?_
      (try simp only [sI, sS, sZ])
      refine wpBut_r1 (i := 1) (by kernel_rfl) ?_
      refine go_call 1 20 #[true, true, true, false] rfl rfl rfl (by rfl) rfl rfl (by rfl) ent74 (by rfl) (Hrk.out _) ?_
      rintro e wW71 ⟨rfl, hb⟩
      have hkW71 := held_next (below_dr W7) hb
      refine ⟨_, rfl, fun _ => hkW71, ?_⟩
      clear hb
      (try simp only [sI, sS, sZ])
      refine go_take2 3 22 #[true, true, true, true] (v := ?uv1) rfl rfl rfl (by kernel_rfl) (Or.inl ⟨by rfl, ?uy1⟩) (hkW71) ?urest1
      case uy1 => (intro _ _; go_simp; try with_reducible rfl)
      (try simp only [sI, sS, sZ])
      refine wpBut_done (by kernel_rfl) (NoPanic.normal ?_)
      replace M1 := Lib.hid (M1.out.call hkW71)
      replace M2 := Lib.hid (M2.out.call hkW71)
      replace M5 := Lib.hid (M5.out.call hkW71)
      replace HB := Lib.hid (held_next HB.out hkW71)
      clear heq
      repeat ((fail_if_success (with_reducible (show wpList _ _ _ _ _ _))); go_step)
      refine wpList_call (by rfl) rfl rfl (by rfl) ent88 (by rfl) (Horg.out _) 23 rfl ?_
      rintro e uw2 ⟨rfl, hb⟩
      replace M1 := Lib.hid (M1.out.call hb)
      replace M2 := Lib.hid (M2.out.call hb)
      replace M5 := Lib.hid (M5.out.call hb)
      replace HB := Lib.hid (held_next HB.out hb)
      refine ⟨_, rfl, ?_⟩
      clear hb
      (try simp only [Act.put, sI, sS, sZ])
      first | (obtain ⟨Zq, hZ, mZ⟩ := M2.out) | (obtain ⟨Zq, hZ, mZ⟩ := M2.out.toN (rp_size ..))
      refine wpList_store2 (by rfl) 57 _ _ rfl rfl (w.heap.size + 1) (rp 0 1 1 0) rfl rfl 57 Zq mZ (by rw [rp_size]; kernel_rfl) (hZ.trans (rp_size ..).symm) (rp_one _ _ _ _) ?_
      intro yw8 hw2
      have kq := M1.out.setRow_other (w.heap.size + 1) (rp 0 1 1 0) (by omega); rw [← hw2] at kq; clear M1; have M1 := Lib.hid kq; clear kq
      have kq := M5.out.setRow_other (w.heap.size + 1) (rp 0 1 1 0) (by omega); rw [← hw2] at kq; clear M5; have M5 := Lib.hid kq; clear kq
      have kq := mZ.setRow (rp 0 1 1 0); rw [← hw2] at kq; clear M2; have M2 := Lib.hid kq; clear kq mZ hZ
      have kq := below_setRow HB.out (w.heap.size + 1) (rp 0 1 1 0) (by omega); rw [← hw2] at kq; clear HB; have HB := Lib.hid kq; clear kq hw2
      refine wpList_step (fun K hK => ?_)
      go_simp
      (try go_bits)
      refine hK _ _ ?_
      clear hK K
      refine wpList_nil ?_
      go_wp2_with fail
      exact bodyPost_ret (v := .tuple #[.agg (rp 0 1 1 0), .bool false]) (results_cell_tmp_row (fn := Try.f48) (p := 2) (t2 := 3) (ty := 57) (t := 57) (by rfl) _ _ (w.heap.size + 1) _ _ _ rfl M2.out Try.underlying57 rfl (by rw [rp_size]; kernel_rfl)) rfl ⟨by rw [hcf, Nat.zero_mul, Nat.zero_mod], HB.out⟩
  · have hyes := hev 1 hq
    rw [decide_eq_false (by decide)] at hyes
    rw [hq] at htd
    have htd : (c : Int).tdiv 128 = 1 := htd
    clear hq hev
    have Hclr := Lib.hid hclr; clear hclr
    have Hyes := Lib.hid hyes; clear hyes
    have Hno := Lib.hid hno; clear hno
    have Hro := Lib.hid hro; clear hro
    have Hrk := Lib.hid hrk; clear hrk
    have Hc := Lib.hid hc; clear hc
    have Hl0 := Lib.hid hl0; clear hl0
    have HA := Lib.hid hA; clear hA
    have HAl := Lib.hid hAl; clear hAl
    have Horg := Lib.hid horg; clear horg
    go_enter Try.func48, Try.ntmps48
    repeat ((fail_if_success (with_reducible (show wpList _ _ _ _ _ _))); go_step)
    refine wpList_step (fun K hK => ?_)
    go_simp
    (try go_bits)
    refine hK _ _ ?_
    clear hK K
    refine wpList_step (fun K hK => ?_)
    go_simp
    (try go_bits)
    refine hK _ _ ?_
    clear hK K
    refine wpList_step (fun K hK => ?_)
    go_simp
    (try go_bits)
    refine hK _ _ ?_
    clear hK K
    refine wpList_nil ?_
    have M1 := Lib.hid ((Has.new w  (k32 n) 24).alloc (.cells Try.zeroCells57 57))
    have M2 := Lib.hid (HasN.new1 w (.cells (k32 n) 24) Try.zeroCells57 57 88 (by kernel_rfl))
    have HB := Lib.hid (below_2 w (.cells (k32 n) 24) (.cells Try.zeroCells57 57))
    obtain ⟨yw1, hwyw1⟩ : ∃ ww, ww = ((w.alloc (.cells (k32 n) 24)).alloc (.cells Try.zeroCells57 57)) := ⟨_, rfl⟩
    rw [← hwyw1] at M1 M2 HB ⊢
    clear hwyw1
    have h1 := M1.out.cell 31 (by omega)
    rw [Hc.out] at h1
    have hfz := M1.out.frozen 31
    repeat ((fail_if_success (with_reducible (show wpList _ _ _ _ _ _))); go_step)
    refine wpList_step (fun K hK => ?_)
    go_simp
    (try go_bits)
    refine hK _ _ ?_
    clear hK K
    refine wpList_step (fun K hK => ?_)
    go_simp
    (try go_bits)
    refine hK _ _ ?_
    clear hK K
    refine wpList_step (fun K hK => ?_)
    go_simp
    (try go_bits)
    refine hK _ _ ?_
    clear hK K
    refine wpList_step (fun K hK => ?_)
    go_simp
    (try go_bits)
    refine hK _ _ ?_
    clear hK K
    refine wpList_nil ?_
    repeat ((fail_if_success (with_reducible (show wpList _ _ _ _ _ _))); go_step)
    refine wpList_step (fun K hK => ?_)
    go_simp
    (try go_bits)
    refine hK _ _ ?_
    clear hK K
    refine wpList_step (fun K hK => ?_)
    go_simp
    (try go_bits)
    refine hK _ _ ?_
    clear hK K
    refine wpList_step (fun K hK => ?_)
    go_simp
    (try go_bits)
    refine hK _ _ ?_
    clear hK K
    refine wpList_step (fun K hK => ?_)
    go_simp
    (try go_bits)
    refine hK _ _ ?_
    clear hK K
    refine wpList_step (fun K hK => ?_)
    go_simp
    (try go_bits)
    refine hK _ _ ?_
    clear hK K
    refine wpList_nil ?_
    clear h1 hfz
    have kq := M1.out.set 31 ((c2 : Int)); rw [Hclr.out] at kq; clear M1; have M1 := Lib.hid kq; clear kq
    have kq := M2.out.other ⟨w.heap.size, 31, none⟩ (.int .u8 ((c2 : Int))) (by simp <;> omega); clear M2; have M2 := Lib.hid kq; clear kq
    replace HB := Lib.hid (HB.out.setCell (p := ⟨w.heap.size, 31, none⟩) (show w.heap.size ≤ w.heap.size by omega) (.int .u8 ((c2 : Int))))
    obtain ⟨yw2, hwyw2⟩ : ∃ ww, ww = yw1.setCell ⟨w.heap.size, 31, none⟩ (.int .u8 ((c2 : Int))) := ⟨_, rfl⟩
    rw [← hwyw2] at M1 M2 HB ⊢
    clear hwyw2
    clear htd htm hcl
    repeat ((fail_if_success (with_reducible (show wpList _ _ _ _ _ _))); go_step)
    refine wpList_load (by rfl) 24 _ rfl (w.heap.size) rfl 24 (k32 n0) M1.out Try.underlying24 rfl (by rw [k32_size]; kernel_rfl) 17 rfl ?_
    (try simp only [Act.put, sI, sS, sZ])
    refine wpList_call (by rfl) rfl rfl (by rfl) ent33 (by rfl) (Hro.out _) 18 rfl ?_
    rintro e uw1 ⟨rfl, hb⟩
    replace M1 := Lib.hid (M1.out.call hb)
    replace M2 := Lib.hid (M2.out.call hb)
    replace HB := Lib.hid (held_next HB.out hb)
    refine ⟨_, rfl, ?_⟩
    clear hb
    (try simp only [Act.put, sI, sS, sZ])
    refine wpList_alloc (by rfl) 40 rfl _ al40 5 rfl ?_
    intro yw3 hw2
    have hlt4 := M1.out.lt
    have hlt5 := M2.out.lt
    have hsz := HB.out.size
    have kq := M1.out.alloc (.cells z40 40); rw [← hw2] at kq; clear M1; have M1 := Lib.hid kq; clear kq
    have kq := M2.out.alloc (.cells z40 40); rw [← hw2] at kq; clear M2; have M2 := Lib.hid kq; clear kq
    have kq := HasN.new uw1 z40 40 22 (by kernel_rfl); rw [← hw2] at kq; have M5 := Lib.hid kq; clear kq
    have kq := HB.out.alloc hsz (.cells z40 40); rw [← hw2] at kq; clear HB; have HB := Lib.hid kq; clear kq hw2
    (try simp only [Act.put, sI, sS, sZ])
    first | (obtain ⟨Zq, hZ, mZ⟩ := M5.out) | (obtain ⟨Zq, hZ, mZ⟩ := M5.out.toN (r22_size ..))
    refine wpList_store2 (by rfl) 40 _ _ rfl rfl (uw1.heap.size) (r22 A) rfl rfl 40 Zq mZ (by rw [r22_size]; kernel_rfl) (hZ.trans (r22_size ..).symm) (row_one _ _ _) ?_
    intro yw6 hw2
    have kq := M1.out.setRow_other (uw1.heap.size) (r22 A) (by omega); rw [← hw2] at kq; clear M1; have M1 := Lib.hid kq; clear kq
    have kq := M2.out.setRow_other (uw1.heap.size) (r22 A) (by omega); rw [← hw2] at kq; clear M2; have M2 := Lib.hid kq; clear kq
    have kq := mZ.setRow (r22 A); rw [← hw2] at kq; clear M5; have M5 := Lib.hid kq; clear kq mZ hZ
    have kq := below_setRow HB.out (uw1.heap.size) (r22 A) (by omega); rw [← hw2] at kq; clear HB; have HB := Lib.hid kq; clear kq hw2
    refine wpList_nil ?_
    repeat ((fail_if_success (with_reducible (show wpList _ _ _ _ _ _))); go_step)
    by_cases hlt : n0 < PP
    · have hAn : A = n0 := by rw [HA.out]; exact Nat.mod_eq_of_lt hlt
      have M5' := M5.out; rw [hAn] at M5'; clear M5; have M5 := Lib.hid M5'; clear M5'
      have hrk2 := Hrk.out; rw [hAn] at hrk2; clear Hrk; have Hrk := Lib.hid hrk2; clear hrk2
      have heq := fun w => k32_same n0 Hl0.out w
      have hcof := Hyes.out hlt
      clear hAn
      have Hlt := Lib.hid hlt; clear hlt
      have Hcof := Lib.hid hcof; clear hcof
      refine wp_region_noPanic ?_
      refine wp_region_go 99 4 #[false, false, false, false] (by kernel_rfl) rfl rfl ?_
      intro W7 hW7
      have kq := M1.out; rw [← hW7] at kq; clear M1; have M1 := Lib.hid kq; clear kq
      have kq := M2.out; rw [← hW7] at kq; clear M2; have M2 := Lib.hid kq; clear kq
      have kq := M5.out; rw [← hW7] at kq; clear M5; have M5 := Lib.hid kq; clear kq
      have kq := HB.out; rw [← hW7] at kq; clear HB; have HB := Lib.hid kq; clear kq
      clear hW7
      refine go_take2 0 19 #[true, false, false, false] rfl rfl rfl (by kernel_rfl) (yieldsIf_load_row (by rfl) 40 _ rfl (uw1.heap.size) rfl 40 (r22 n0) (fun _ h => M5.out.below h M5.out.lt) Try.underlying40 rfl (by rw [r22_size]; kernel_rfl)) ((below_dr W7)) ?_
      (try simp only [sI, sS, sZ])
      refine go_take2 2 21 #[true, false, true, false] rfl rfl rfl (by kernel_rfl) (yieldsIf_load_row (by rfl) 24 _ rfl (w.heap.size) rfl 24 (k32 n0) (fun _ h => M1.out.below h M1.out.lt) Try.underlying24 rfl (by rw [k32_size]; kernel_rfl)) ((below_dr W7)) ?_
      (try simp only [sI, sS, sZ])
      refine wpBut_r1 (i := 1) (by kernel_rfl) ?_
      refine go_call 1 20 #[true, true, true, false] rfl rfl rfl (by rfl) rfl rfl (by rfl) ent74 (by rfl) (Hrk.out _) ?_
      rintro e wW71 ⟨rfl, hb⟩
      have hkW71 := held_next (below_dr W7) hb
      refine ⟨_, rfl, fun _ => hkW71, ?_⟩
      clear hb
      (try simp only [sI, sS, sZ])
      refine go_take2 3 22 #[true, true, true, true] (v := ?uv33) rfl rfl rfl (by kernel_rfl) (Or.inl ⟨by rfl, ?uy33⟩) (hkW71) ?urest33
      case uy33 => (intro _ _; go_simp; try with_reducible rfl)
      (try simp only [sI, sS, sZ])
      refine wpBut_done (by kernel_rfl) (NoPanic.normal ?_)
      replace M1 := Lib.hid (M1.out.call hkW71)
      replace M2 := Lib.hid (M2.out.call hkW71)
      replace M5 := Lib.hid (M5.out.call hkW71)
      replace HB := Lib.hid (held_next HB.out hkW71)
      clear heq
      repeat ((fail_if_success (with_reducible (show wpList _ _ _ _ _ _))); go_step)
      have hint := fun w => rint_nn 1 (by decide) w
      rw [one_PP] at hint
      have ht1 := fun w => rtimes_any n0 n0 Hlt.out Hlt.out w
      obtain ⟨sq, hsq⟩ : ∃ s, s = n0 * n0 % PP := ⟨_, rfl⟩
      rw [← hsq] at ht1
      have hsql : sq < PP := by rw [hsq]; exact Nat.mod_lt _ PP_pos
      have h1l : 1 < PP := by have := PP_val; omega
      have hm1 := fun w => rminus_any sq 1 hsql h1l w
      obtain ⟨e1, he1⟩ : ∃ s, s = (sq + (PP - 1)) % PP := ⟨_, rfl⟩
      rw [← he1] at hm1
      have he1l : e1 < PP := by rw [he1]; exact Nat.mod_lt _ PP_pos
      have ht2 := fun w => rtimes_any SL sq SL_lt hsql w
      obtain ⟨e2, he2⟩ : ∃ s, s = SL * sq % PP := ⟨_, rfl⟩
      rw [← he2] at ht2
      have he2l : e2 < PP := by rw [he2]; exact Nat.mod_lt _ PP_pos
      have hp1 := fun w => rplus_any e2 1 (PPr_22 _ he2l) (PPr_22 _ h1l) w
      obtain ⟨e3, he3⟩ : ∃ s, s = (e2 + 1) % PP := ⟨_, rfl⟩
      rw [← he3] at hp1
      have he3l : e3 < PP := by rw [he3]; exact Nat.mod_lt _ PP_pos
      have ho1 := fun w => rover_any e1 e3 he1l he3l w
      obtain ⟨C, hC⟩ : ∃ s, s = e1 * pwm e3 (PP - 2) % PP := ⟨_, rfl⟩
      rw [← hC] at ho1
      have hCl : C < PP := by rw [hC]; exact Nat.mod_lt _ PP_pos
      have hcc := cx_def n0 sq e1 e2 e3 C hsq he1 he2 he3 hC
      have hrr := fun w => rroot_any C hCl w
      have hcof2 := Hcof.out
      rw [hcc] at hcof2
      clear Hcof
      have Hcof := Lib.hid hcof2; clear hcof2 hcc hCl hC he3l he3 he2l he2 he1l he1 hsql hsq h1l
      obtain ⟨ok, hok⟩ : ∃ ok, ok = rtok C := ⟨_, rfl⟩
      obtain ⟨R3, hR3⟩ : ∃ R, R = rt3 C := ⟨_, rfl⟩
      have hR3l : R3 < PP := by rw [hR3]; exact rt3_lt C
      rw [← hok, ← hR3] at hrr
      have Hint := Lib.hid hint; clear hint
      have Ht1 := Lib.hid ht1; clear ht1
      have Hm1 := Lib.hid hm1; clear hm1
      have Ht2 := Lib.hid ht2; clear ht2
      have Hp1 := Lib.hid hp1; clear hp1
      have Ho1 := Lib.hid ho1; clear ho1
      have Hrr := Lib.hid hrr; clear hrr
      have Hok := Lib.hid hok; clear hok
      have HR3 := Lib.hid hR3; clear hR3
      have HR3l := Lib.hid hR3l; clear hR3l
      refine wpList_call (by rfl) rfl rfl (by rfl) ent35 (by rfl) (Hint.out _) 24 rfl ?_
      rintro e uw2 ⟨rfl, hb⟩
      replace M1 := Lib.hid (M1.out.call hb)
      replace M2 := Lib.hid (M2.out.call hb)
      replace M5 := Lib.hid (M5.out.call hb)
      replace HB := Lib.hid (held_next HB.out hb)
      refine ⟨_, rfl, ?_⟩
      clear hb
      (try simp only [Act.put, sI, sS, sZ])
      refine wpList_alloc (by rfl) 40 rfl _ al40 6 rfl ?_
      intro yw8 hw2
      have hlt9 := M1.out.lt
      have hlt10 := M2.out.lt
      have hlt11 := M5.out.lt
      have hsz := HB.out.size
      have kq := M1.out.alloc (.cells z40 40); rw [← hw2] at kq; clear M1; have M1 := Lib.hid kq; clear kq
      have kq := M2.out.alloc (.cells z40 40); rw [← hw2] at kq; clear M2; have M2 := Lib.hid kq; clear kq
      have kq := M5.out.alloc (.cells z40 40); rw [← hw2] at kq; clear M5; have M5 := Lib.hid kq; clear kq
      have kq := HasN.new uw2 z40 40 22 (by kernel_rfl); rw [← hw2] at kq; have M6 := Lib.hid kq; clear kq
      have kq := HB.out.alloc hsz (.cells z40 40); rw [← hw2] at kq; clear HB; have HB := Lib.hid kq; clear kq hw2
      (try simp only [Act.put, sI, sS, sZ])
      first | (obtain ⟨Zq, hZ, mZ⟩ := M6.out) | (obtain ⟨Zq, hZ, mZ⟩ := M6.out.toN (r22_size ..))
      refine wpList_store2 (by rfl) 40 _ _ rfl rfl (uw2.heap.size) (r22 1) rfl rfl 40 Zq mZ (by rw [r22_size]; kernel_rfl) (hZ.trans (r22_size ..).symm) (row_one _ _ _) ?_
      intro yw12 hw2
      have kq := M1.out.setRow_other (uw2.heap.size) (r22 1) (by omega); rw [← hw2] at kq; clear M1; have M1 := Lib.hid kq; clear kq
      have kq := M2.out.setRow_other (uw2.heap.size) (r22 1) (by omega); rw [← hw2] at kq; clear M2; have M2 := Lib.hid kq; clear kq
      have kq := M5.out.setRow_other (uw2.heap.size) (r22 1) (by omega); rw [← hw2] at kq; clear M5; have M5 := Lib.hid kq; clear kq
      have kq := mZ.setRow (r22 1); rw [← hw2] at kq; clear M6; have M6 := Lib.hid kq; clear kq mZ hZ
      have kq := below_setRow HB.out (uw2.heap.size) (r22 1) (by omega); rw [← hw2] at kq; clear HB; have HB := Lib.hid kq; clear kq hw2
      refine wpList_nil ?_
      repeat ((fail_if_success (with_reducible (show wpList _ _ _ _ _ _))); go_step)
      refine wpList_load (by rfl) 40 _ rfl (uw1.heap.size) rfl 40 (r22 n0) M5.out Try.underlying40 rfl (by rw [r22_size]; kernel_rfl) 25 rfl ?_
      (try simp only [Act.put, sI, sS, sZ])
      refine wpList_load (by rfl) 40 _ rfl (uw1.heap.size) rfl 40 (r22 n0) M5.out Try.underlying40 rfl (by rw [r22_size]; kernel_rfl) 26 rfl ?_
      (try simp only [Act.put, sI, sS, sZ])
      refine wpList_call (by rfl) rfl rfl (by rfl) ent32 (by rfl) (Ht1.out _) 27 rfl ?_
      rintro e uw3 ⟨rfl, hb⟩
      replace M1 := Lib.hid (M1.out.call hb)
      replace M2 := Lib.hid (M2.out.call hb)
      replace M5 := Lib.hid (M5.out.call hb)
      replace M6 := Lib.hid (M6.out.call hb)
      replace HB := Lib.hid (held_next HB.out hb)
      refine ⟨_, rfl, ?_⟩
      clear hb
      (try simp only [Act.put, sI, sS, sZ])
      refine wpList_alloc (by rfl) 40 rfl _ al40 7 rfl ?_
      intro yw13 hw2
      have hlt14 := M1.out.lt
      have hlt15 := M2.out.lt
      have hlt16 := M5.out.lt
      have hlt17 := M6.out.lt
      have hsz := HB.out.size
      have kq := M1.out.alloc (.cells z40 40); rw [← hw2] at kq; clear M1; have M1 := Lib.hid kq; clear kq
      have kq := M2.out.alloc (.cells z40 40); rw [← hw2] at kq; clear M2; have M2 := Lib.hid kq; clear kq
      have kq := M5.out.alloc (.cells z40 40); rw [← hw2] at kq; clear M5; have M5 := Lib.hid kq; clear kq
      have kq := M6.out.alloc (.cells z40 40); rw [← hw2] at kq; clear M6; have M6 := Lib.hid kq; clear kq
      have kq := HasN.new uw3 z40 40 22 (by kernel_rfl); rw [← hw2] at kq; have M7 := Lib.hid kq; clear kq
      have kq := HB.out.alloc hsz (.cells z40 40); rw [← hw2] at kq; clear HB; have HB := Lib.hid kq; clear kq hw2
      (try simp only [Act.put, sI, sS, sZ])
      first | (obtain ⟨Zq, hZ, mZ⟩ := M7.out) | (obtain ⟨Zq, hZ, mZ⟩ := M7.out.toN (r22_size ..))
      refine wpList_store2 (by rfl) 40 _ _ rfl rfl (uw3.heap.size) (r22 sq) rfl rfl 40 Zq mZ (by rw [r22_size]; kernel_rfl) (hZ.trans (r22_size ..).symm) (row_one _ _ _) ?_
      intro yw18 hw2
      have kq := M1.out.setRow_other (uw3.heap.size) (r22 sq) (by omega); rw [← hw2] at kq; clear M1; have M1 := Lib.hid kq; clear kq
      have kq := M2.out.setRow_other (uw3.heap.size) (r22 sq) (by omega); rw [← hw2] at kq; clear M2; have M2 := Lib.hid kq; clear kq
      have kq := M5.out.setRow_other (uw3.heap.size) (r22 sq) (by omega); rw [← hw2] at kq; clear M5; have M5 := Lib.hid kq; clear kq
      have kq := M6.out.setRow_other (uw3.heap.size) (r22 sq) (by omega); rw [← hw2] at kq; clear M6; have M6 := Lib.hid kq; clear kq
      have kq := mZ.setRow (r22 sq); rw [← hw2] at kq; clear M7; have M7 := Lib.hid kq; clear kq mZ hZ
      have kq := below_setRow HB.out (uw3.heap.size) (r22 sq) (by omega); rw [← hw2] at kq; clear HB; have HB := Lib.hid kq; clear kq hw2
      refine wpList_nil ?_
      repeat ((fail_if_success (with_reducible (show wpList _ _ _ _ _ _))); go_step)
      refine wp_region_meet (α := Nat) (fun W0 x w' => W0.heap.size ≤ x ∧ Has w' x (r22 R3) 40 ∧ Below W0.heap.size W0 w') (fun ac x => (((((((((((((((ac.put (some 29) (.agg (r22 sq))).put (some 30) (.agg (r22 1))).put (some 31) (.agg (r22 e1))).put (some 32) (.agg (r22 SL))).put (some 33) (.agg (r22 sq))).put (some 34) (.agg (r22 e2))).put (some 35) (.agg (r22 1))).put (some 36) (.agg (r22 e3))).put (some 37) (.agg (r22 C))).put (some 38) (.tuple #[.agg (r22 R3), .bool ok])).put (some 28) (.tuple #[.agg (r22 R3), .bool ok])).put (some 39) (.agg (r22 R3))).put (some 40) (.bool ok)).put (some 9) (.bool ok)).put (some 8) (.pointer (some ⟨x, 0, none⟩)))) ?_ ?_
      · intro Q' hQ'
        refine wp_region_noPanic ?_
        refine wp_region_go 99 16 #[false, false, false, false, false, false, false, false, false, false, false, false, false, false, false, false] (by kernel_rfl) rfl rfl ?_
        intro W19 hW19
        rw [← hW19] at hQ'
        simp only [Act.put, List.setIfInBounds_toArray, List.set_cons_succ, List.set_cons_zero] at hQ'
        have HQ := Lib.hid hQ'; clear hQ'
        have kq := M1.out; rw [← hW19] at kq; clear M1; have M1 := Lib.hid kq; clear kq
        have kq := M2.out; rw [← hW19] at kq; clear M2; have M2 := Lib.hid kq; clear kq
        have kq := M5.out; rw [← hW19] at kq; clear M5; have M5 := Lib.hid kq; clear kq
        have kq := M6.out; rw [← hW19] at kq; clear M6; have M6 := Lib.hid kq; clear kq
        have kq := M7.out; rw [← hW19] at kq; clear M7; have M7 := Lib.hid kq; clear kq
        have kq := HB.out; rw [← hW19] at kq; clear HB; have HB := Lib.hid kq; clear kq
        clear hW19
        refine go_take2 0 29 #[true, false, false, false, false, false, false, false, false, false, false, false, false, false, false, false] rfl rfl rfl (by kernel_rfl) (yieldsIf_load_row (by rfl) 40 _ rfl (uw3.heap.size) rfl 40 (r22 sq) (fun _ h => M7.out.below h M7.out.lt) Try.underlying40 rfl (by rw [r22_size]; kernel_rfl)) ((below_dr W19)) ?_
        (try simp only [sI, sS, sZ])
        refine go_take2 1 30 #[true, true, false, false, false, false, false, false, false, false, false, false, false, false, false, false] rfl rfl rfl (by kernel_rfl) (yieldsIf_load_row (by rfl) 40 _ rfl (uw2.heap.size) rfl 40 (r22 1) (fun _ h => M6.out.below h M6.out.lt) Try.underlying40 rfl (by rw [r22_size]; kernel_rfl)) ((below_dr W19)) ?_
        (try simp only [sI, sS, sZ])
        refine go_take2 4 33 #[true, true, false, false, true, false, false, false, false, false, false, false, false, false, false, false] rfl rfl rfl (by kernel_rfl) (yieldsIf_load_row (by rfl) 40 _ rfl (uw3.heap.size) rfl 40 (r22 sq) (fun _ h => M7.out.below h M7.out.lt) Try.underlying40 rfl (by rw [r22_size]; kernel_rfl)) ((below_dr W19)) ?_
        (try simp only [sI, sS, sZ])
        refine go_take2 6 35 #[true, true, false, false, true, false, true, false, false, false, false, false, false, false, false, false] rfl rfl rfl (by kernel_rfl) (yieldsIf_load_row (by rfl) 40 _ rfl (uw2.heap.size) rfl 40 (r22 1) (fun _ h => M6.out.below h M6.out.lt) Try.underlying40 rfl (by rw [r22_size]; kernel_rfl)) ((below_dr W19)) ?_
        (try simp only [sI, sS, sZ])
        refine wpBut_r2 (i := 2) (j := 13) (by kernel_rfl) ?_ ?_
        refine go_call 2 31 #[true, true, true, false, true, false, true, false, false, false, false, false, false, false, false, false] rfl rfl rfl (by rfl) rfl rfl (by rfl) ent40 (by rfl) (Hm1.out _) ?_
        rintro e wW191 ⟨rfl, hb⟩
        have hkW191 := held_next (below_dr W19) hb
        refine ⟨_, rfl, fun _ => hkW191, ?_⟩
        clear hb
        (try simp only [sI, sS, sZ])
        refine wpBut_r2 (i := 3) (j := 13) (by kernel_rfl) ?_ ?_
        refine go_call 3 32 #[true, true, true, true, true, false, true, false, false, false, false, false, false, false, false, false] rfl rfl rfl (by rfl) rfl rfl (by rfl) ent89 (by rfl) (rslope_any _) ?_
        rintro e wW192 ⟨rfl, hb⟩
        have hkW192 := held_next hkW191 hb
        refine ⟨_, rfl, fun _ => hkW192, ?_⟩
        clear hb
        (try simp only [sI, sS, sZ])
        refine wpBut_r2 (i := 5) (j := 13) (by kernel_rfl) ?_ ?_
        refine go_call 5 34 #[true, true, true, true, true, true, true, false, false, false, false, false, false, false, false, false] rfl rfl rfl (by rfl) rfl rfl (by rfl) ent32 (by rfl) (Ht2.out _) ?_
        rintro e wW193 ⟨rfl, hb⟩
        have hkW193 := held_next hkW192 hb
        refine ⟨_, rfl, fun _ => hkW193, ?_⟩
        clear hb
        (try simp only [sI, sS, sZ])
        refine wpBut_r2 (i := 7) (j := 13) (by kernel_rfl) ?_ ?_
        refine go_call 7 36 #[true, true, true, true, true, true, true, true, false, false, false, false, false, false, false, false] rfl rfl rfl (by rfl) rfl rfl (by rfl) ent38 (by rfl) (Hp1.out _) ?_
        rintro e wW194 ⟨rfl, hb⟩
        have hkW194 := held_next hkW193 hb
        refine ⟨_, rfl, fun _ => hkW194, ?_⟩
        clear hb
        (try simp only [sI, sS, sZ])
        refine wpBut_r2 (i := 8) (j := 13) (by kernel_rfl) ?_ ?_
        refine go_call 8 37 #[true, true, true, true, true, true, true, true, true, false, false, false, false, false, false, false] rfl rfl rfl (by rfl) rfl rfl (by rfl) ent43 (by rfl) (Ho1.out _) ?_
        rintro e wW195 ⟨rfl, hb⟩
        have hkW195 := held_next hkW194 hb
        refine ⟨_, rfl, fun _ => hkW195, ?_⟩
        clear hb
        (try simp only [sI, sS, sZ])
        refine wpBut_r2 (i := 9) (j := 13) (by kernel_rfl) ?_ ?_
        refine go_call 9 38 #[true, true, true, true, true, true, true, true, true, true, false, false, false, false, false, false] rfl rfl rfl (by rfl) rfl rfl (by rfl) ent45 (by rfl) (Hrr.out _) ?_
        rintro e wW196 ⟨rfl, hb⟩
        have hkW196 := held_next hkW195 hb
        refine ⟨_, rfl, fun _ => hkW196, ?_⟩
        clear hb
        (try simp only [sI, sS, sZ])
        refine go_take2 10 28 #[true, true, true, true, true, true, true, true, true, true, true, false, false, false, false, false] (v := ?uv34) rfl rfl rfl (by kernel_rfl) (Or.inl ⟨by rfl, ?uy34⟩) (hkW196) ?urest34
        case uy34 => (intro _ _; go_simp; try with_reducible rfl)
        (try simp only [sI, sS, sZ])
        refine go_take2 11 39 #[true, true, true, true, true, true, true, true, true, true, true, true, false, false, false, false] (v := ?uv35) rfl rfl rfl (by kernel_rfl) (Or.inl ⟨by rfl, ?uy35⟩) (hkW196) ?urest35
        case uy35 => (intro _ _; go_simp; try with_reducible rfl)
        (try simp only [sI, sS, sZ])
        refine go_take2 12 40 #[true, true, true, true, true, true, true, true, true, true, true, true, true, false, false, false] (v := ?uv36) rfl rfl rfl (by kernel_rfl) (Or.inl ⟨by rfl, ?uy36⟩) (hkW196) ?urest36
        case uy36 => (intro _ _; go_simp; try with_reducible rfl)
        (try simp only [sI, sS, sZ])
        refine wpBut_r1 (i := 13) (by kernel_rfl) ?_
        refine go_alloc 13 8 #[true, true, true, true, true, true, true, true, true, true, true, true, true, true, false, false] rfl rfl rfl (by rfl) 40 rfl _ al40 ?_
        intro wW197 hw2
        have hkW197 := (hkW196).alloc (hkW196).size (.cells z40 40)
        rw [← hw2] at hkW197
        have MQ := HasN.new (wW196) z40 40 22 (by kernel_rfl); rw [← hw2] at MQ; have MA13 := Lib.hid MQ; clear MQ
        have HA13 := Lib.hid (show W19.heap.size ≤ _ from (hkW196).size)
        clear hw2
        refine ⟨fun _ => hkW197, ?_⟩
        (try simp only [sI, sS, sZ])
        refine wpBut_r1 (i := 14) (by kernel_rfl) ?_
        obtain ⟨Zq, hZ, mZ⟩ := MA13.out
        refine go_store2 14 #[true, true, true, true, true, true, true, true, true, true, true, true, true, true, true, false] rfl rfl rfl (by rfl) 40 _ _ rfl _ _ rfl rfl 40 Zq mZ (by rw [r22_size]; kernel_rfl) (hZ.trans (r22_size ..).symm) (row_one _ _ _) ?_
        intro wW198 hw2
        have hkW198 := below_setRow (hkW197) _ (r22 R3) HA13.out
        rw [← hw2] at hkW198
        clear MA13
        have MQ := mZ.setRow (r22 R3); rw [← hw2] at MQ; have MA13 := Lib.hid MQ; clear MQ mZ hZ hw2
        refine ⟨fun _ => hkW198, ?_⟩
        (try simp only [sI, sS, sZ])
        refine go_take2 15 9 #[true, true, true, true, true, true, true, true, true, true, true, true, true, true, true, true] (v := ?uv37) rfl rfl rfl (by kernel_rfl) (Or.inl ⟨by rfl, ?uy37⟩) (hkW198) ?urest37
        case uy37 => (intro _ _; go_simp; try with_reducible rfl)
        (try simp only [sI, sS, sZ])
        exact wpBut_done (by kernel_rfl) (NoPanic.normal (HQ.out (_) _ ⟨HA13.out, MA13.out, (hkW198)⟩))
        refine go_alloc 13 8 #[true, true, true, true, true, true, true, true, true, false, false, false, false, true, false, false] rfl rfl rfl (by rfl) 40 rfl _ al40 ?_
        intro wW196 hw2
        have hkW196 := (hkW195).alloc (hkW195).size (.cells z40 40)
        rw [← hw2] at hkW196
        have MQ := HasN.new (wW195) z40 40 22 (by kernel_rfl); rw [← hw2] at MQ; have MA13 := Lib.hid MQ; clear MQ
        have HA13 := Lib.hid (show W19.heap.size ≤ _ from (hkW195).size)
        clear hw2
        refine ⟨fun _ => hkW196, ?_⟩
        (try simp only [sI, sS, sZ])
        refine wpBut_r1 (i := 9) (by kernel_rfl) ?_
        refine go_call 9 38 #[true, true, true, true, true, true, true, true, true, true, false, false, false, true, false, false] rfl rfl rfl (by rfl) rfl rfl (by rfl) ent45 (by rfl) (Hrr.out _) ?_
        rintro e wW197 ⟨rfl, hb⟩
        have hkW197 := held_next hkW196 hb
        have MQ13 := Lib.hid (MA13.out.call hb); clear MA13
        have MA13 := MQ13; clear MQ13
        refine ⟨_, rfl, fun _ => hkW197, ?_⟩
        clear hb
        (try simp only [sI, sS, sZ])
        refine go_take2 10 28 #[true, true, true, true, true, true, true, true, true, true, true, false, false, true, false, false] (v := ?uv38) rfl rfl rfl (by kernel_rfl) (Or.inl ⟨by rfl, ?uy38⟩) (hkW197) ?urest38
        case uy38 => (intro _ _; go_simp; try with_reducible rfl)
        (try simp only [sI, sS, sZ])
        refine go_take2 11 39 #[true, true, true, true, true, true, true, true, true, true, true, true, false, true, false, false] (v := ?uv39) rfl rfl rfl (by kernel_rfl) (Or.inl ⟨by rfl, ?uy39⟩) (hkW197) ?urest39
        case uy39 => (intro _ _; go_simp; try with_reducible rfl)
        (try simp only [sI, sS, sZ])
        refine go_take2 12 40 #[true, true, true, true, true, true, true, true, true, true, true, true, true, true, false, false] (v := ?uv40) rfl rfl rfl (by kernel_rfl) (Or.inl ⟨by rfl, ?uy40⟩) (hkW197) ?urest40
        case uy40 => (intro _ _; go_simp; try with_reducible rfl)
        (try simp only [sI, sS, sZ])
        refine wpBut_r1 (i := 14) (by kernel_rfl) ?_
        obtain ⟨Zq, hZ, mZ⟩ := MA13.out
        refine go_store2 14 #[true, true, true, true, true, true, true, true, true, true, true, true, true, true, true, false] rfl rfl rfl (by rfl) 40 _ _ rfl _ _ rfl rfl 40 Zq mZ (by rw [r22_size]; kernel_rfl) (hZ.trans (r22_size ..).symm) (row_one _ _ _) ?_
        intro wW198 hw2
        have hkW198 := below_setRow (hkW197) _ (r22 R3) HA13.out
        rw [← hw2] at hkW198
        clear MA13
        have MQ := mZ.setRow (r22 R3); rw [← hw2] at MQ; have MA13 := Lib.hid MQ; clear MQ mZ hZ hw2
        refine ⟨fun _ => hkW198, ?_⟩
        (try simp only [sI, sS, sZ])
        refine go_take2 15 9 #[true, true, true, true, true, true, true, true, true, true, true, true, true, true, true, true] (v := ?uv41) rfl rfl rfl (by kernel_rfl) (Or.inl ⟨by rfl, ?uy41⟩) (hkW198) ?urest41
        case uy41 => (intro _ _; go_simp; try with_reducible rfl)
        (try simp only [sI, sS, sZ])
        exact wpBut_done (by kernel_rfl) (NoPanic.normal (HQ.out (_) _ ⟨HA13.out, MA13.out, (hkW198)⟩))
        refine go_alloc 13 8 #[true, true, true, true, true, true, true, true, false, false, false, false, false, true, false, false] rfl rfl rfl (by rfl) 40 rfl _ al40 ?_
        intro wW195 hw2
        have hkW195 := (hkW194).alloc (hkW194).size (.cells z40 40)
        rw [← hw2] at hkW195
        have MQ := HasN.new (wW194) z40 40 22 (by kernel_rfl); rw [← hw2] at MQ; have MA13 := Lib.hid MQ; clear MQ
        have HA13 := Lib.hid (show W19.heap.size ≤ _ from (hkW194).size)
        clear hw2
        refine ⟨fun _ => hkW195, ?_⟩
        (try simp only [sI, sS, sZ])
        refine wpBut_r1 (i := 8) (by kernel_rfl) ?_
        refine go_call 8 37 #[true, true, true, true, true, true, true, true, true, false, false, false, false, true, false, false] rfl rfl rfl (by rfl) rfl rfl (by rfl) ent43 (by rfl) (Ho1.out _) ?_
        rintro e wW196 ⟨rfl, hb⟩
        have hkW196 := held_next hkW195 hb
        have MQ13 := Lib.hid (MA13.out.call hb); clear MA13
        have MA13 := MQ13; clear MQ13
        refine ⟨_, rfl, fun _ => hkW196, ?_⟩
        clear hb
        (try simp only [sI, sS, sZ])
        refine wpBut_r1 (i := 9) (by kernel_rfl) ?_
        refine go_call 9 38 #[true, true, true, true, true, true, true, true, true, true, false, false, false, true, false, false] rfl rfl rfl (by rfl) rfl rfl (by rfl) ent45 (by rfl) (Hrr.out _) ?_
        rintro e wW197 ⟨rfl, hb⟩
        have hkW197 := held_next hkW196 hb
        have MQ13 := Lib.hid (MA13.out.call hb); clear MA13
        have MA13 := MQ13; clear MQ13
        refine ⟨_, rfl, fun _ => hkW197, ?_⟩
        clear hb
        (try simp only [sI, sS, sZ])
        refine go_take2 10 28 #[true, true, true, true, true, true, true, true, true, true, true, false, false, true, false, false] (v := ?uv42) rfl rfl rfl (by kernel_rfl) (Or.inl ⟨by rfl, ?uy42⟩) (hkW197) ?urest42
        case uy42 => (intro _ _; go_simp; try with_reducible rfl)
        (try simp only [sI, sS, sZ])
        refine go_take2 11 39 #[true, true, true, true, true, true, true, true, true, true, true, true, false, true, false, false] (v := ?uv43) rfl rfl rfl (by kernel_rfl) (Or.inl ⟨by rfl, ?uy43⟩) (hkW197) ?urest43
        case uy43 => (intro _ _; go_simp; try with_reducible rfl)
        (try simp only [sI, sS, sZ])
        refine go_take2 12 40 #[true, true, true, true, true, true, true, true, true, true, true, true, true, true, false, false] (v := ?uv44) rfl rfl rfl (by kernel_rfl) (Or.inl ⟨by rfl, ?uy44⟩) (hkW197) ?urest44
        case uy44 => (intro _ _; go_simp; try with_reducible rfl)
        (try simp only [sI, sS, sZ])
        refine wpBut_r1 (i := 14) (by kernel_rfl) ?_
        obtain ⟨Zq, hZ, mZ⟩ := MA13.out
        refine go_store2 14 #[true, true, true, true, true, true, true, true, true, true, true, true, true, true, true, false] rfl rfl rfl (by rfl) 40 _ _ rfl _ _ rfl rfl 40 Zq mZ (by rw [r22_size]; kernel_rfl) (hZ.trans (r22_size ..).symm) (row_one _ _ _) ?_
        intro wW198 hw2
        have hkW198 := below_setRow (hkW197) _ (r22 R3) HA13.out
        rw [← hw2] at hkW198
        clear MA13
        have MQ := mZ.setRow (r22 R3); rw [← hw2] at MQ; have MA13 := Lib.hid MQ; clear MQ mZ hZ hw2
        refine ⟨fun _ => hkW198, ?_⟩
        (try simp only [sI, sS, sZ])
        refine go_take2 15 9 #[true, true, true, true, true, true, true, true, true, true, true, true, true, true, true, true] (v := ?uv45) rfl rfl rfl (by kernel_rfl) (Or.inl ⟨by rfl, ?uy45⟩) (hkW198) ?urest45
        case uy45 => (intro _ _; go_simp; try with_reducible rfl)
        (try simp only [sI, sS, sZ])
        exact wpBut_done (by kernel_rfl) (NoPanic.normal (HQ.out (_) _ ⟨HA13.out, MA13.out, (hkW198)⟩))
        refine go_alloc 13 8 #[true, true, true, true, true, true, true, false, false, false, false, false, false, true, false, false] rfl rfl rfl (by rfl) 40 rfl _ al40 ?_
        intro wW194 hw2
        have hkW194 := (hkW193).alloc (hkW193).size (.cells z40 40)
        rw [← hw2] at hkW194
        have MQ := HasN.new (wW193) z40 40 22 (by kernel_rfl); rw [← hw2] at MQ; have MA13 := Lib.hid MQ; clear MQ
        have HA13 := Lib.hid (show W19.heap.size ≤ _ from (hkW193).size)
        clear hw2
        refine ⟨fun _ => hkW194, ?_⟩
        (try simp only [sI, sS, sZ])
        refine wpBut_r1 (i := 7) (by kernel_rfl) ?_
        refine go_call 7 36 #[true, true, true, true, true, true, true, true, false, false, false, false, false, true, false, false] rfl rfl rfl (by rfl) rfl rfl (by rfl) ent38 (by rfl) (Hp1.out _) ?_
        rintro e wW195 ⟨rfl, hb⟩
        have hkW195 := held_next hkW194 hb
        have MQ13 := Lib.hid (MA13.out.call hb); clear MA13
        have MA13 := MQ13; clear MQ13
        refine ⟨_, rfl, fun _ => hkW195, ?_⟩
        clear hb
        (try simp only [sI, sS, sZ])
        refine wpBut_r1 (i := 8) (by kernel_rfl) ?_
        refine go_call 8 37 #[true, true, true, true, true, true, true, true, true, false, false, false, false, true, false, false] rfl rfl rfl (by rfl) rfl rfl (by rfl) ent43 (by rfl) (Ho1.out _) ?_
        rintro e wW196 ⟨rfl, hb⟩
        have hkW196 := held_next hkW195 hb
        have MQ13 := Lib.hid (MA13.out.call hb); clear MA13
        have MA13 := MQ13; clear MQ13
        refine ⟨_, rfl, fun _ => hkW196, ?_⟩
        clear hb
        (try simp only [sI, sS, sZ])
        refine wpBut_r1 (i := 9) (by kernel_rfl) ?_
        refine go_call 9 38 #[true, true, true, true, true, true, true, true, true, true, false, false, false, true, false, false] rfl rfl rfl (by rfl) rfl rfl (by rfl) ent45 (by rfl) (Hrr.out _) ?_
        rintro e wW197 ⟨rfl, hb⟩
        have hkW197 := held_next hkW196 hb
        have MQ13 := Lib.hid (MA13.out.call hb); clear MA13
        have MA13 := MQ13; clear MQ13
        refine ⟨_, rfl, fun _ => hkW197, ?_⟩
        clear hb
        (try simp only [sI, sS, sZ])
        refine go_take2 10 28 #[true, true, true, true, true, true, true, true, true, true, true, false, false, true, false, false] (v := ?uv46) rfl rfl rfl (by kernel_rfl) (Or.inl ⟨by rfl, ?uy46⟩) (hkW197) ?urest46
        case uy46 => (intro _ _; go_simp; try with_reducible rfl)
        (try simp only [sI, sS, sZ])
        refine go_take2 11 39 #[true, true, true, true, true, true, true, true, true, true, true, true, false, true, false, false] (v := ?uv47) rfl rfl rfl (by kernel_rfl) (Or.inl ⟨by rfl, ?uy47⟩) (hkW197) ?urest47
        case uy47 => (intro _ _; go_simp; try with_reducible rfl)
        (try simp only [sI, sS, sZ])
        refine go_take2 12 40 #[true, true, true, true, true, true, true, true, true, true, true, true, true, true, false, false] (v := ?uv48) rfl rfl rfl (by kernel_rfl) (Or.inl ⟨by rfl, ?uy48⟩) (hkW197) ?urest48
        case uy48 => (intro _ _; go_simp; try with_reducible rfl)
        (try simp only [sI, sS, sZ])
        refine wpBut_r1 (i := 14) (by kernel_rfl) ?_
        obtain ⟨Zq, hZ, mZ⟩ := MA13.out
        refine go_store2 14 #[true, true, true, true, true, true, true, true, true, true, true, true, true, true, true, false] rfl rfl rfl (by rfl) 40 _ _ rfl _ _ rfl rfl 40 Zq mZ (by rw [r22_size]; kernel_rfl) (hZ.trans (r22_size ..).symm) (row_one _ _ _) ?_
        intro wW198 hw2
        have hkW198 := below_setRow (hkW197) _ (r22 R3) HA13.out
        rw [← hw2] at hkW198
        clear MA13
        have MQ := mZ.setRow (r22 R3); rw [← hw2] at MQ; have MA13 := Lib.hid MQ; clear MQ mZ hZ hw2
        refine ⟨fun _ => hkW198, ?_⟩
        (try simp only [sI, sS, sZ])
        refine go_take2 15 9 #[true, true, true, true, true, true, true, true, true, true, true, true, true, true, true, true] (v := ?uv49) rfl rfl rfl (by kernel_rfl) (Or.inl ⟨by rfl, ?uy49⟩) (hkW198) ?urest49
        case uy49 => (intro _ _; go_simp; try with_reducible rfl)
        (try simp only [sI, sS, sZ])
        exact wpBut_done (by kernel_rfl) (NoPanic.normal (HQ.out (_) _ ⟨HA13.out, MA13.out, (hkW198)⟩))
        refine go_alloc 13 8 #[true, true, true, true, true, false, true, false, false, false, false, false, false, true, false, false] rfl rfl rfl (by rfl) 40 rfl _ al40 ?_
        intro wW193 hw2
        have hkW193 := (hkW192).alloc (hkW192).size (.cells z40 40)
        rw [← hw2] at hkW193
        have MQ := HasN.new (wW192) z40 40 22 (by kernel_rfl); rw [← hw2] at MQ; have MA13 := Lib.hid MQ; clear MQ
        have HA13 := Lib.hid (show W19.heap.size ≤ _ from (hkW192).size)
        clear hw2
        refine ⟨fun _ => hkW193, ?_⟩
        (try simp only [sI, sS, sZ])
        refine wpBut_r1 (i := 5) (by kernel_rfl) ?_
        refine go_call 5 34 #[true, true, true, true, true, true, true, false, false, false, false, false, false, true, false, false] rfl rfl rfl (by rfl) rfl rfl (by rfl) ent32 (by rfl) (Ht2.out _) ?_
        rintro e wW194 ⟨rfl, hb⟩
        have hkW194 := held_next hkW193 hb
        have MQ13 := Lib.hid (MA13.out.call hb); clear MA13
        have MA13 := MQ13; clear MQ13
        refine ⟨_, rfl, fun _ => hkW194, ?_⟩
        clear hb
        (try simp only [sI, sS, sZ])
        refine wpBut_r1 (i := 7) (by kernel_rfl) ?_
        refine go_call 7 36 #[true, true, true, true, true, true, true, true, false, false, false, false, false, true, false, false] rfl rfl rfl (by rfl) rfl rfl (by rfl) ent38 (by rfl) (Hp1.out _) ?_
        rintro e wW195 ⟨rfl, hb⟩
        have hkW195 := held_next hkW194 hb
        have MQ13 := Lib.hid (MA13.out.call hb); clear MA13
        have MA13 := MQ13; clear MQ13
        refine ⟨_, rfl, fun _ => hkW195, ?_⟩
        clear hb
        (try simp only [sI, sS, sZ])
        refine wpBut_r1 (i := 8) (by kernel_rfl) ?_
        refine go_call 8 37 #[true, true, true, true, true, true, true, true, true, false, false, false, false, true, false, false] rfl rfl rfl (by rfl) rfl rfl (by rfl) ent43 (by rfl) (Ho1.out _) ?_
        rintro e wW196 ⟨rfl, hb⟩
        have hkW196 := held_next hkW195 hb
        have MQ13 := Lib.hid (MA13.out.call hb); clear MA13
        have MA13 := MQ13; clear MQ13
        refine ⟨_, rfl, fun _ => hkW196, ?_⟩
        clear hb
        (try simp only [sI, sS, sZ])
        refine wpBut_r1 (i := 9) (by kernel_rfl) ?_
        refine go_call 9 38 #[true, true, true, true, true, true, true, true, true, true, false, false, false, true, false, false] rfl rfl rfl (by rfl) rfl rfl (by rfl) ent45 (by rfl) (Hrr.out _) ?_
        rintro e wW197 ⟨rfl, hb⟩
        have hkW197 := held_next hkW196 hb
        have MQ13 := Lib.hid (MA13.out.call hb); clear MA13
        have MA13 := MQ13; clear MQ13
        refine ⟨_, rfl, fun _ => hkW197, ?_⟩
        clear hb
        (try simp only [sI, sS, sZ])
        refine go_take2 10 28 #[true, true, true, true, true, true, true, true, true, true, true, false, false, true, false, false] (v := ?uv50) rfl rfl rfl (by kernel_rfl) (Or.inl ⟨by rfl, ?uy50⟩) (hkW197) ?urest50
        case uy50 => (intro _ _; go_simp; try with_reducible rfl)
        (try simp only [sI, sS, sZ])
        refine go_take2 11 39 #[true, true, true, true, true, true, true, true, true, true, true, true, false, true, false, false] (v := ?uv51) rfl rfl rfl (by kernel_rfl) (Or.inl ⟨by rfl, ?uy51⟩) (hkW197) ?urest51
        case uy51 => (intro _ _; go_simp; try with_reducible rfl)
        (try simp only [sI, sS, sZ])
        refine go_take2 12 40 #[true, true, true, true, true, true, true, true, true, true, true, true, true, true, false, false] (v := ?uv52) rfl rfl rfl (by kernel_rfl) (Or.inl ⟨by rfl, ?uy52⟩) (hkW197) ?urest52
        case uy52 => (intro _ _; go_simp; try with_reducible rfl)
        (try simp only [sI, sS, sZ])
        refine wpBut_r1 (i := 14) (by kernel_rfl) ?_
        obtain ⟨Zq, hZ, mZ⟩ := MA13.out
        refine go_store2 14 #[true, true, true, true, true, true, true, true, true, true, true, true, true, true, true, false] rfl rfl rfl (by rfl) 40 _ _ rfl _ _ rfl rfl 40 Zq mZ (by rw [r22_size]; kernel_rfl) (hZ.trans (r22_size ..).symm) (row_one _ _ _) ?_
        intro wW198 hw2
        have hkW198 := below_setRow (hkW197) _ (r22 R3) HA13.out
        rw [← hw2] at hkW198
        clear MA13
        have MQ := mZ.setRow (r22 R3); rw [← hw2] at MQ; have MA13 := Lib.hid MQ; clear MQ mZ hZ hw2
        refine ⟨fun _ => hkW198, ?_⟩
        (try simp only [sI, sS, sZ])
        refine go_take2 15 9 #[true, true, true, true, true, true, true, true, true, true, true, true, true, true, true, true] (v := ?uv53) rfl rfl rfl (by kernel_rfl) (Or.inl ⟨by rfl, ?uy53⟩) (hkW198) ?urest53
        case uy53 => (intro _ _; go_simp; try with_reducible rfl)
        (try simp only [sI, sS, sZ])
        exact wpBut_done (by kernel_rfl) (NoPanic.normal (HQ.out (_) _ ⟨HA13.out, MA13.out, (hkW198)⟩))
        refine go_alloc 13 8 #[true, true, true, false, true, false, true, false, false, false, false, false, false, true, false, false] rfl rfl rfl (by rfl) 40 rfl _ al40 ?_
        intro wW192 hw2
        have hkW192 := (hkW191).alloc (hkW191).size (.cells z40 40)
        rw [← hw2] at hkW192
        have MQ := HasN.new (wW191) z40 40 22 (by kernel_rfl); rw [← hw2] at MQ; have MA13 := Lib.hid MQ; clear MQ
        have HA13 := Lib.hid (show W19.heap.size ≤ _ from (hkW191).size)
        clear hw2
        refine ⟨fun _ => hkW192, ?_⟩
        (try simp only [sI, sS, sZ])
        refine wpBut_r1 (i := 3) (by kernel_rfl) ?_
        refine go_call 3 32 #[true, true, true, true, true, false, true, false, false, false, false, false, false, true, false, false] rfl rfl rfl (by rfl) rfl rfl (by rfl) ent89 (by rfl) (rslope_any _) ?_
        rintro e wW193 ⟨rfl, hb⟩
        have hkW193 := held_next hkW192 hb
        have MQ13 := Lib.hid (MA13.out.call hb); clear MA13
        have MA13 := MQ13; clear MQ13
        refine ⟨_, rfl, fun _ => hkW193, ?_⟩
        clear hb
        (try simp only [sI, sS, sZ])
        refine wpBut_r1 (i := 5) (by kernel_rfl) ?_
        refine go_call 5 34 #[true, true, true, true, true, true, true, false, false, false, false, false, false, true, false, false] rfl rfl rfl (by rfl) rfl rfl (by rfl) ent32 (by rfl) (Ht2.out _) ?_
        rintro e wW194 ⟨rfl, hb⟩
        have hkW194 := held_next hkW193 hb
        have MQ13 := Lib.hid (MA13.out.call hb); clear MA13
        have MA13 := MQ13; clear MQ13
        refine ⟨_, rfl, fun _ => hkW194, ?_⟩
        clear hb
        (try simp only [sI, sS, sZ])
        refine wpBut_r1 (i := 7) (by kernel_rfl) ?_
        refine go_call 7 36 #[true, true, true, true, true, true, true, true, false, false, false, false, false, true, false, false] rfl rfl rfl (by rfl) rfl rfl (by rfl) ent38 (by rfl) (Hp1.out _) ?_
        rintro e wW195 ⟨rfl, hb⟩
        have hkW195 := held_next hkW194 hb
        have MQ13 := Lib.hid (MA13.out.call hb); clear MA13
        have MA13 := MQ13; clear MQ13
        refine ⟨_, rfl, fun _ => hkW195, ?_⟩
        clear hb
        (try simp only [sI, sS, sZ])
        refine wpBut_r1 (i := 8) (by kernel_rfl) ?_
        refine go_call 8 37 #[true, true, true, true, true, true, true, true, true, false, false, false, false, true, false, false] rfl rfl rfl (by rfl) rfl rfl (by rfl) ent43 (by rfl) (Ho1.out _) ?_
        rintro e wW196 ⟨rfl, hb⟩
        have hkW196 := held_next hkW195 hb
        have MQ13 := Lib.hid (MA13.out.call hb); clear MA13
        have MA13 := MQ13; clear MQ13
        refine ⟨_, rfl, fun _ => hkW196, ?_⟩
        clear hb
        (try simp only [sI, sS, sZ])
        refine wpBut_r1 (i := 9) (by kernel_rfl) ?_
        refine go_call 9 38 #[true, true, true, true, true, true, true, true, true, true, false, false, false, true, false, false] rfl rfl rfl (by rfl) rfl rfl (by rfl) ent45 (by rfl) (Hrr.out _) ?_
        rintro e wW197 ⟨rfl, hb⟩
        have hkW197 := held_next hkW196 hb
        have MQ13 := Lib.hid (MA13.out.call hb); clear MA13
        have MA13 := MQ13; clear MQ13
        refine ⟨_, rfl, fun _ => hkW197, ?_⟩
        clear hb
        (try simp only [sI, sS, sZ])
        refine go_take2 10 28 #[true, true, true, true, true, true, true, true, true, true, true, false, false, true, false, false] (v := ?uv54) rfl rfl rfl (by kernel_rfl) (Or.inl ⟨by rfl, ?uy54⟩) (hkW197) ?urest54
        case uy54 => (intro _ _; go_simp; try with_reducible rfl)
        (try simp only [sI, sS, sZ])
        refine go_take2 11 39 #[true, true, true, true, true, true, true, true, true, true, true, true, false, true, false, false] (v := ?uv55) rfl rfl rfl (by kernel_rfl) (Or.inl ⟨by rfl, ?uy55⟩) (hkW197) ?urest55
        case uy55 => (intro _ _; go_simp; try with_reducible rfl)
        (try simp only [sI, sS, sZ])
        refine go_take2 12 40 #[true, true, true, true, true, true, true, true, true, true, true, true, true, true, false, false] (v := ?uv56) rfl rfl rfl (by kernel_rfl) (Or.inl ⟨by rfl, ?uy56⟩) (hkW197) ?urest56
        case uy56 => (intro _ _; go_simp; try with_reducible rfl)
        (try simp only [sI, sS, sZ])
        refine wpBut_r1 (i := 14) (by kernel_rfl) ?_
        obtain ⟨Zq, hZ, mZ⟩ := MA13.out
        refine go_store2 14 #[true, true, true, true, true, true, true, true, true, true, true, true, true, true, true, false] rfl rfl rfl (by rfl) 40 _ _ rfl _ _ rfl rfl 40 Zq mZ (by rw [r22_size]; kernel_rfl) (hZ.trans (r22_size ..).symm) (row_one _ _ _) ?_
        intro wW198 hw2
        have hkW198 := below_setRow (hkW197) _ (r22 R3) HA13.out
        rw [← hw2] at hkW198
        clear MA13
        have MQ := mZ.setRow (r22 R3); rw [← hw2] at MQ; have MA13 := Lib.hid MQ; clear MQ mZ hZ hw2
        refine ⟨fun _ => hkW198, ?_⟩
        (try simp only [sI, sS, sZ])
        refine go_take2 15 9 #[true, true, true, true, true, true, true, true, true, true, true, true, true, true, true, true] (v := ?uv57) rfl rfl rfl (by kernel_rfl) (Or.inl ⟨by rfl, ?uy57⟩) (hkW198) ?urest57
        case uy57 => (intro _ _; go_simp; try with_reducible rfl)
        (try simp only [sI, sS, sZ])
        exact wpBut_done (by kernel_rfl) (NoPanic.normal (HQ.out (_) _ ⟨HA13.out, MA13.out, (hkW198)⟩))
        refine go_alloc 13 8 #[true, true, false, false, true, false, true, false, false, false, false, false, false, true, false, false] rfl rfl rfl (by rfl) 40 rfl _ al40 ?_
        intro wW191 hw2
        have hkW191 := ((below_dr W19)).alloc ((below_dr W19)).size (.cells z40 40)
        rw [← hw2] at hkW191
        have MQ := HasN.new (W19.drew) z40 40 22 (by kernel_rfl); rw [← hw2] at MQ; have MA13 := Lib.hid MQ; clear MQ
        have HA13 := Lib.hid (show W19.heap.size ≤ _ from ((below_dr W19)).size)
        clear hw2
        refine ⟨fun _ => hkW191, ?_⟩
        (try simp only [sI, sS, sZ])
        refine wpBut_r1 (i := 2) (by kernel_rfl) ?_
        refine go_call 2 31 #[true, true, true, false, true, false, true, false, false, false, false, false, false, true, false, false] rfl rfl rfl (by rfl) rfl rfl (by rfl) ent40 (by rfl) (Hm1.out _) ?_
        rintro e wW192 ⟨rfl, hb⟩
        have hkW192 := held_next hkW191 hb
        have MQ13 := Lib.hid (MA13.out.call hb); clear MA13
        have MA13 := MQ13; clear MQ13
        refine ⟨_, rfl, fun _ => hkW192, ?_⟩
        clear hb
        (try simp only [sI, sS, sZ])
        refine wpBut_r1 (i := 3) (by kernel_rfl) ?_
        refine go_call 3 32 #[true, true, true, true, true, false, true, false, false, false, false, false, false, true, false, false] rfl rfl rfl (by rfl) rfl rfl (by rfl) ent89 (by rfl) (rslope_any _) ?_
        rintro e wW193 ⟨rfl, hb⟩
        have hkW193 := held_next hkW192 hb
        have MQ13 := Lib.hid (MA13.out.call hb); clear MA13
        have MA13 := MQ13; clear MQ13
        refine ⟨_, rfl, fun _ => hkW193, ?_⟩
        clear hb
        (try simp only [sI, sS, sZ])
        refine wpBut_r1 (i := 5) (by kernel_rfl) ?_
        refine go_call 5 34 #[true, true, true, true, true, true, true, false, false, false, false, false, false, true, false, false] rfl rfl rfl (by rfl) rfl rfl (by rfl) ent32 (by rfl) (Ht2.out _) ?_
        rintro e wW194 ⟨rfl, hb⟩
        have hkW194 := held_next hkW193 hb
        have MQ13 := Lib.hid (MA13.out.call hb); clear MA13
        have MA13 := MQ13; clear MQ13
        refine ⟨_, rfl, fun _ => hkW194, ?_⟩
        clear hb
        (try simp only [sI, sS, sZ])
        refine wpBut_r1 (i := 7) (by kernel_rfl) ?_
        refine go_call 7 36 #[true, true, true, true, true, true, true, true, false, false, false, false, false, true, false, false] rfl rfl rfl (by rfl) rfl rfl (by rfl) ent38 (by rfl) (Hp1.out _) ?_
        rintro e wW195 ⟨rfl, hb⟩
        have hkW195 := held_next hkW194 hb
        have MQ13 := Lib.hid (MA13.out.call hb); clear MA13
        have MA13 := MQ13; clear MQ13
        refine ⟨_, rfl, fun _ => hkW195, ?_⟩
        clear hb
        (try simp only [sI, sS, sZ])
        refine wpBut_r1 (i := 8) (by kernel_rfl) ?_
        refine go_call 8 37 #[true, true, true, true, true, true, true, true, true, false, false, false, false, true, false, false] rfl rfl rfl (by rfl) rfl rfl (by rfl) ent43 (by rfl) (Ho1.out _) ?_
        rintro e wW196 ⟨rfl, hb⟩
        have hkW196 := held_next hkW195 hb
        have MQ13 := Lib.hid (MA13.out.call hb); clear MA13
        have MA13 := MQ13; clear MQ13
        refine ⟨_, rfl, fun _ => hkW196, ?_⟩
        clear hb
        (try simp only [sI, sS, sZ])
        refine wpBut_r1 (i := 9) (by kernel_rfl) ?_
        refine go_call 9 38 #[true, true, true, true, true, true, true, true, true, true, false, false, false, true, false, false] rfl rfl rfl (by rfl) rfl rfl (by rfl) ent45 (by rfl) (Hrr.out _) ?_
        rintro e wW197 ⟨rfl, hb⟩
        have hkW197 := held_next hkW196 hb
        have MQ13 := Lib.hid (MA13.out.call hb); clear MA13
        have MA13 := MQ13; clear MQ13
        refine ⟨_, rfl, fun _ => hkW197, ?_⟩
        clear hb
        (try simp only [sI, sS, sZ])
        refine go_take2 10 28 #[true, true, true, true, true, true, true, true, true, true, true, false, false, true, false, false] (v := ?uv58) rfl rfl rfl (by kernel_rfl) (Or.inl ⟨by rfl, ?uy58⟩) (hkW197) ?urest58
        case uy58 => (intro _ _; go_simp; try with_reducible rfl)
        (try simp only [sI, sS, sZ])
        refine go_take2 11 39 #[true, true, true, true, true, true, true, true, true, true, true, true, false, true, false, false] (v := ?uv59) rfl rfl rfl (by kernel_rfl) (Or.inl ⟨by rfl, ?uy59⟩) (hkW197) ?urest59
        case uy59 => (intro _ _; go_simp; try with_reducible rfl)
        (try simp only [sI, sS, sZ])
        refine go_take2 12 40 #[true, true, true, true, true, true, true, true, true, true, true, true, true, true, false, false] (v := ?uv60) rfl rfl rfl (by kernel_rfl) (Or.inl ⟨by rfl, ?uy60⟩) (hkW197) ?urest60
        case uy60 => (intro _ _; go_simp; try with_reducible rfl)
        (try simp only [sI, sS, sZ])
        refine wpBut_r1 (i := 14) (by kernel_rfl) ?_
        obtain ⟨Zq, hZ, mZ⟩ := MA13.out
        refine go_store2 14 #[true, true, true, true, true, true, true, true, true, true, true, true, true, true, true, false] rfl rfl rfl (by rfl) 40 _ _ rfl _ _ rfl rfl 40 Zq mZ (by rw [r22_size]; kernel_rfl) (hZ.trans (r22_size ..).symm) (row_one _ _ _) ?_
        intro wW198 hw2
        have hkW198 := below_setRow (hkW197) _ (r22 R3) HA13.out
        rw [← hw2] at hkW198
        clear MA13
        have MQ := mZ.setRow (r22 R3); rw [← hw2] at MQ; have MA13 := Lib.hid MQ; clear MQ mZ hZ hw2
        refine ⟨fun _ => hkW198, ?_⟩
        (try simp only [sI, sS, sZ])
        refine go_take2 15 9 #[true, true, true, true, true, true, true, true, true, true, true, true, true, true, true, true] (v := ?uv61) rfl rfl rfl (by kernel_rfl) (Or.inl ⟨by rfl, ?uy61⟩) (hkW198) ?urest61
        case uy61 => (intro _ _; go_simp; try with_reducible rfl)
        (try simp only [sI, sS, sZ])
        exact wpBut_done (by kernel_rfl) (NoPanic.normal (HQ.out (_) _ ⟨HA13.out, MA13.out, (hkW198)⟩))
      · rintro W19 B8 vw19 hW19 ⟨hBq0, mBq0, hbw⟩
        simp only [Act.put, List.setIfInBounds_toArray, List.set_cons_succ, List.set_cons_zero] at  hBq0  mBq0 ⊢
        have kq := M1.out; rw [← hW19] at kq; clear M1; have M1 := Lib.hid kq; clear kq
        have kq := M2.out; rw [← hW19] at kq; clear M2; have M2 := Lib.hid kq; clear kq
        have kq := M5.out; rw [← hW19] at kq; clear M5; have M5 := Lib.hid kq; clear kq
        have kq := M6.out; rw [← hW19] at kq; clear M6; have M6 := Lib.hid kq; clear kq
        have kq := M7.out; rw [← hW19] at kq; clear M7; have M7 := Lib.hid kq; clear kq
        have kq := HB.out; rw [← hW19] at kq; clear HB; have HB := Lib.hid kq; clear kq
        clear hW19
        have hltM1_19 := M1.out.lt
        have hltM2_19 := M2.out.lt
        have hltM5_19 := M5.out.lt
        have hltM6_19 := M6.out.lt
        have hltM7_19 := M7.out.lt
        replace M1 := Lib.hid (M1.out.call hbw)
        replace M2 := Lib.hid (M2.out.call hbw)
        replace M5 := Lib.hid (M5.out.call hbw)
        replace M6 := Lib.hid (M6.out.call hbw)
        replace M7 := Lib.hid (M7.out.call hbw)
        replace HB := Lib.hid (held_next HB.out hbw)
        have M8 := Lib.hid mBq0; clear mBq0
        clear hbw
        clear M7
        clear Hint Ht1 Hm1 Ht2 Hp1 Ho1 Hrr
        repeat ((fail_if_success (with_reducible (show wpList _ _ _ _ _ _))); go_step)
        cases ok
        · refine wpList_step (fun K hK => ?_)
          go_simp
          (try go_bits)
          refine hK _ _ ?_
          clear hK K
          refine wpList_step (fun K hK => ?_)
          go_simp
          (try go_bits)
          refine hK _ _ ?_
          clear hK K
          refine wpList_step (fun K hK => ?_)
          go_simp
          (try go_bits)
          refine hK _ _ ?_
          clear hK K
          refine wpList_step (fun K hK => ?_)
          go_simp
          (try go_bits)
          refine hK _ _ ?_
          clear hK K
          refine wpList_step (fun K hK => ?_)
          go_simp
          (try go_bits)
          refine hK _ _ ?_
          clear hK K
          refine wpList_step (fun K hK => ?_)
          go_simp
          (try go_bits)
          refine hK _ _ ?_
          clear hK K
          refine wpList_step (fun K hK => ?_)
          go_simp
          (try go_bits)
          refine hK _ _ ?_
          clear hK K
          refine wpList_step (fun K hK => ?_)
          go_simp
          (try go_bits)
          refine hK _ _ ?_
          clear hK K
          refine wpList_step (fun K hK => ?_)
          go_simp
          (try go_bits)
          refine hK _ _ ?_
          clear hK K
          refine wpList_step (fun K hK => ?_)
          go_simp
          (try go_bits)
          refine hK _ _ ?_
          clear hK K
          refine wpList_step (fun K hK => ?_)
          go_simp
          (try go_bits)
          refine hK _ _ ?_
          clear hK K
          refine wpList_nil ?_
          repeat ((fail_if_success (with_reducible (show wpList _ _ _ _ _ _))); go_step)
          refine wpList_call (by rfl) rfl rfl (by rfl) ent88 (by rfl) (Horg.out _) 52 rfl ?_
          rintro e uw4 ⟨rfl, hb⟩
          replace M1 := Lib.hid (M1.out.call hb)
          replace M2 := Lib.hid (M2.out.call hb)
          replace M5 := Lib.hid (M5.out.call hb)
          replace M6 := Lib.hid (M6.out.call hb)
          replace M8 := Lib.hid (M8.out.call hb)
          replace HB := Lib.hid (held_next HB.out hb)
          refine ⟨_, rfl, ?_⟩
          clear hb
          (try simp only [Act.put, sI, sS, sZ])
          first | (obtain ⟨Zq, hZ, mZ⟩ := M2.out) | (obtain ⟨Zq, hZ, mZ⟩ := M2.out.toN (rp_size ..))
          refine wpList_store2 (by rfl) 57 _ _ rfl rfl (w.heap.size + 1) (rp 0 1 1 0) rfl rfl 57 Zq mZ (by rw [rp_size]; kernel_rfl) (hZ.trans (rp_size ..).symm) (rp_one _ _ _ _) ?_
          intro yw20 hw2
          have kq := M1.out.setRow_other (w.heap.size + 1) (rp 0 1 1 0) (by omega); rw [← hw2] at kq; clear M1; have M1 := Lib.hid kq; clear kq
          have kq := M5.out.setRow_other (w.heap.size + 1) (rp 0 1 1 0) (by omega); rw [← hw2] at kq; clear M5; have M5 := Lib.hid kq; clear kq
          have kq := M6.out.setRow_other (w.heap.size + 1) (rp 0 1 1 0) (by omega); rw [← hw2] at kq; clear M6; have M6 := Lib.hid kq; clear kq
          have kq := M8.out.setRow_other (w.heap.size + 1) (rp 0 1 1 0) (by omega); rw [← hw2] at kq; clear M8; have M8 := Lib.hid kq; clear kq
          have kq := mZ.setRow (rp 0 1 1 0); rw [← hw2] at kq; clear M2; have M2 := Lib.hid kq; clear kq mZ hZ
          have kq := below_setRow HB.out (w.heap.size + 1) (rp 0 1 1 0) (by omega); rw [← hw2] at kq; clear HB; have HB := Lib.hid kq; clear kq hw2
          refine wpList_step (fun K hK => ?_)
          go_simp
          (try go_bits)
          refine hK _ _ ?_
          clear hK K
          refine wpList_nil ?_
          go_wp2_with fail
          have hb := Hcof.out.trans (bes_no1 C false n0 Hok.out.symm)
          exact bodyPost_ret (v := .tuple #[.agg (rp 0 1 1 0), .bool false]) (results_cell_tmp_row (fn := Try.f48) (p := 2) (t2 := 3) (ty := 57) (t := 57) (by rfl) _ _ (w.heap.size + 1) _ _ _ rfl M2.out Try.underlying57 rfl (by rw [rp_size]; kernel_rfl)) rfl ⟨by rw [hb, Nat.zero_mul, Nat.zero_mod], HB.out⟩
        · by_cases hz : R3 = 0
          · have HZ := Lib.hid hz; clear hz
            have heq := fun w => r22_same 0 (PPr_22 0 PP_pos) w
            rw [HZ.out] at M8
            refine wpList_step (fun K hK => ?_)
            go_simp
            (try go_bits)
            refine hK _ _ ?_
            clear hK K
            refine wpList_step (fun K hK => ?_)
            go_simp
            (try go_bits)
            refine hK _ _ ?_
            clear hK K
            refine wpList_step (fun K hK => ?_)
            go_simp
            (try go_bits)
            refine hK _ _ ?_
            clear hK K
            refine wpList_step (fun K hK => ?_)
            go_simp
            (try go_bits)
            refine hK _ _ ?_
            clear hK K
            refine wpList_step (fun K hK => ?_)
            go_simp
            (try go_bits)
            refine hK _ _ ?_
            clear hK K
            refine wpList_step (fun K hK => ?_)
            go_simp
            (try go_bits)
            refine hK _ _ ?_
            clear hK K
            refine wpList_load (by rfl) 40 _ rfl (B8) rfl 40 (r22 0) M8.out Try.underlying40 rfl (by rw [r22_size]; kernel_rfl) 47 rfl ?_
            (try simp only [Act.put, sI, sS, sZ])
            refine wpList_built (by rfl) 40 _ rfl _ (by rfl) (r22 0) (bd40z) 48 rfl ?_
            (try simp only [Act.put, sI, sS, sZ])
            refine wpList_step (fun K hK => ?_)
            go_simp
            (try go_bits)
            refine hK _ _ ?_
            clear hK K
            refine wpList_step (fun K hK => ?_)
            go_simp
            (try go_bits)
            refine hK _ _ ?_
            clear hK K
            refine wpList_step (fun K hK => ?_)
            go_simp
            (try go_bits)
            refine hK _ _ ?_
            clear hK K
            refine wpList_nil ?_
            clear heq
            repeat ((fail_if_success (with_reducible (show wpList _ _ _ _ _ _))); go_step)
            refine wpList_call (by rfl) rfl rfl (by rfl) ent88 (by rfl) (Horg.out _) 52 rfl ?_
            rintro e uw4 ⟨rfl, hb⟩
            replace M1 := Lib.hid (M1.out.call hb)
            replace M2 := Lib.hid (M2.out.call hb)
            replace M5 := Lib.hid (M5.out.call hb)
            replace M6 := Lib.hid (M6.out.call hb)
            replace M8 := Lib.hid (M8.out.call hb)
            replace HB := Lib.hid (held_next HB.out hb)
            refine ⟨_, rfl, ?_⟩
            clear hb
            (try simp only [Act.put, sI, sS, sZ])
            first | (obtain ⟨Zq, hZ, mZ⟩ := M2.out) | (obtain ⟨Zq, hZ, mZ⟩ := M2.out.toN (rp_size ..))
            refine wpList_store2 (by rfl) 57 _ _ rfl rfl (w.heap.size + 1) (rp 0 1 1 0) rfl rfl 57 Zq mZ (by rw [rp_size]; kernel_rfl) (hZ.trans (rp_size ..).symm) (rp_one _ _ _ _) ?_
            intro yw20 hw2
            have kq := M1.out.setRow_other (w.heap.size + 1) (rp 0 1 1 0) (by omega); rw [← hw2] at kq; clear M1; have M1 := Lib.hid kq; clear kq
            have kq := M5.out.setRow_other (w.heap.size + 1) (rp 0 1 1 0) (by omega); rw [← hw2] at kq; clear M5; have M5 := Lib.hid kq; clear kq
            have kq := M6.out.setRow_other (w.heap.size + 1) (rp 0 1 1 0) (by omega); rw [← hw2] at kq; clear M6; have M6 := Lib.hid kq; clear kq
            have kq := M8.out.setRow_other (w.heap.size + 1) (rp 0 1 1 0) (by omega); rw [← hw2] at kq; clear M8; have M8 := Lib.hid kq; clear kq
            have kq := mZ.setRow (rp 0 1 1 0); rw [← hw2] at kq; clear M2; have M2 := Lib.hid kq; clear kq mZ hZ
            have kq := below_setRow HB.out (w.heap.size + 1) (rp 0 1 1 0) (by omega); rw [← hw2] at kq; clear HB; have HB := Lib.hid kq; clear kq hw2
            refine wpList_step (fun K hK => ?_)
            go_simp
            (try go_bits)
            refine hK _ _ ?_
            clear hK K
            refine wpList_nil ?_
            go_wp2_with fail
            have hb := Hcof.out.trans (bes_no2 C n0 (by rw [← HR3.out]; exact HZ.out))
            exact bodyPost_ret (v := .tuple #[.agg (rp 0 1 1 0), .bool false]) (results_cell_tmp_row (fn := Try.f48) (p := 2) (t2 := 3) (ty := 57) (t := 57) (by rfl) _ _ (w.heap.size + 1) _ _ _ rfl M2.out Try.underlying57 rfl (by rw [rp_size]; kernel_rfl)) rfl ⟨by rw [hb, Nat.zero_mul, Nat.zero_mod], HB.out⟩
          · have HZ := Lib.hid hz; clear hz
            have heq := fun w => r22_other R3 0 (PPr_22 R3 HR3l.out) (PPr_22 0 PP_pos) HZ.out w
            refine wpList_step (fun K hK => ?_)
            go_simp
            (try go_bits)
            refine hK _ _ ?_
            clear hK K
            refine wpList_step (fun K hK => ?_)
            go_simp
            (try go_bits)
            refine hK _ _ ?_
            clear hK K
            refine wpList_step (fun K hK => ?_)
            go_simp
            (try go_bits)
            refine hK _ _ ?_
            clear hK K
            refine wpList_step (fun K hK => ?_)
            go_simp
            (try go_bits)
            refine hK _ _ ?_
            clear hK K
            refine wpList_step (fun K hK => ?_)
            go_simp
            (try go_bits)
            refine hK _ _ ?_
            clear hK K
            refine wpList_step (fun K hK => ?_)
            go_simp
            (try go_bits)
            refine hK _ _ ?_
            clear hK K
            refine wpList_load (by rfl) 40 _ rfl (B8) rfl 40 (r22 R3) M8.out Try.underlying40 rfl (by rw [r22_size]; kernel_rfl) 47 rfl ?_
            (try simp only [Act.put, sI, sS, sZ])
            refine wpList_built (by rfl) 40 _ rfl _ (by rfl) (r22 0) (bd40z) 48 rfl ?_
            (try simp only [Act.put, sI, sS, sZ])
            refine wpList_step (fun K hK => ?_)
            go_simp
            (try go_bits)
            refine hK _ _ ?_
            clear hK K
            refine wpList_step (fun K hK => ?_)
            go_simp
            (try go_bits)
            refine hK _ _ ?_
            clear hK K
            refine wpList_step (fun K hK => ?_)
            go_simp
            (try go_bits)
            refine hK _ _ ?_
            clear hK K
            refine wpList_nil ?_
            clear heq
            repeat ((fail_if_success (with_reducible (show wpList _ _ _ _ _ _))); go_step)
            refine wpList_step (fun K hK => ?_)
            go_simp
            (try go_bits)
            refine hK _ _ ?_
            clear hK K
            refine wpList_step (fun K hK => ?_)
            go_simp
            (try go_bits)
            refine hK _ _ ?_
            clear hK K
            refine wpList_nil ?_
            repeat ((fail_if_success (with_reducible (show wpList _ _ _ _ _ _))); go_step)
            have hmn := fun w => rminus_any 0 R3 PP_pos HR3l.out w
            obtain ⟨x2, hx2⟩ : ∃ x, x = (0 + (PP - R3)) % PP := ⟨_, rfl⟩
            rw [← hx2] at hmn
            have hx2l : x2 < PP := by rw [hx2]; exact Nat.mod_lt _ PP_pos
            have Hmn := Lib.hid hmn; clear hmn
            have Hx2 := Lib.hid hx2; clear hx2
            have Hx2l := Lib.hid hx2l; clear hx2l
            refine wpList_built (by rfl) 40 _ rfl _ (by rfl) (r22 0) (bd40z) 55 rfl ?_
            (try simp only [Act.put, sI, sS, sZ])
            refine wpList_load (by rfl) 40 _ rfl (B8) rfl 40 (r22 R3) M8.out Try.underlying40 rfl (by rw [r22_size]; kernel_rfl) 56 rfl ?_
            (try simp only [Act.put, sI, sS, sZ])
            refine wpList_call (by rfl) rfl rfl (by rfl) ent40 (by rfl) (Hmn.out _) 57 rfl ?_
            rintro e uw4 ⟨rfl, hb⟩
            replace M1 := Lib.hid (M1.out.call hb)
            replace M2 := Lib.hid (M2.out.call hb)
            replace M5 := Lib.hid (M5.out.call hb)
            replace M6 := Lib.hid (M6.out.call hb)
            replace M8 := Lib.hid (M8.out.call hb)
            replace HB := Lib.hid (held_next HB.out hb)
            refine ⟨_, rfl, ?_⟩
            clear hb
            (try simp only [Act.put, sI, sS, sZ])
            first | (obtain ⟨Zq, hZ, mZ⟩ := M8.out) | (obtain ⟨Zq, hZ, mZ⟩ := M8.out.toN (r22_size ..))
            refine wpList_store2 (by rfl) 40 _ _ rfl rfl (B8) (r22 x2) rfl rfl 40 Zq mZ (by rw [r22_size]; kernel_rfl) (hZ.trans (r22_size ..).symm) (row_one _ _ _) ?_
            intro yw20 hw2
            have kq := M1.out.setRow_other (B8) (r22 x2) (by omega); rw [← hw2] at kq; clear M1; have M1 := Lib.hid kq; clear kq
            have kq := M2.out.setRow_other (B8) (r22 x2) (by omega); rw [← hw2] at kq; clear M2; have M2 := Lib.hid kq; clear kq
            have kq := M5.out.setRow_other (B8) (r22 x2) (by omega); rw [← hw2] at kq; clear M5; have M5 := Lib.hid kq; clear kq
            have kq := M6.out.setRow_other (B8) (r22 x2) (by omega); rw [← hw2] at kq; clear M6; have M6 := Lib.hid kq; clear kq
            have kq := mZ.setRow (r22 x2); rw [← hw2] at kq; clear M8; have M8 := Lib.hid kq; clear kq mZ hZ
            have kq := below_setRow HB.out (B8) (r22 x2) (by omega); rw [← hw2] at kq; clear HB; have HB := Lib.hid kq; clear kq hw2
            refine wpList_nil ?_
            repeat ((fail_if_success (with_reducible (show wpList _ _ _ _ _ _))); go_step)
            have htx := fun w => rtimes_any x2 n0 Hx2l.out Hlt.out w
            obtain ⟨tt, htt⟩ : ∃ t, t = x2 * n0 % PP := ⟨_, rfl⟩
            rw [← htt] at htx
            have Htx := Lib.hid htx; clear htx
            have Htt := Lib.hid htt; clear htt
            refine wp_region_noPanic ?_
            refine wp_region_goS (fun w' => Has w' (B8) (r22 x2) 40 ∧ Has w' (uw1.heap.size) (r22 n0) 40 ∧ Has w' (uw2.heap.size) (r22 1) 40) 99 9 #[false, false, false, false, false, false, false, false, false] (by kernel_rfl) rfl rfl ?_
            replace M1 := Lib.hid (M1.out.drew)
            replace M2 := Lib.hid (M2.out.drew)
            replace M5 := Lib.hid (M5.out.drew)
            replace M6 := Lib.hid (M6.out.drew)
            replace M8 := Lib.hid (M8.out.drew)
            replace HB := Lib.hid (below_drewN HB.out 1)
            obtain ⟨yw21, hwyw21⟩ : ∃ ww, ww = yw20.drew := ⟨_, rfl⟩
            rw [← hwyw21] at M1 M2 M5 M6 M8 ⊢
            have kq : Below w.heap.size w yw21 := by rw [hwyw21]; exact HB.out
            clear HB; have HB := Lib.hid kq; clear kq hwyw21
            refine go_take2 0 58 #[true, false, false, false, false, false, false, false, false] rfl rfl rfl (by kernel_rfl) (yieldsIf_load_row (by rfl) 40 _ rfl (B8) rfl 40 (r22 x2) (fun _ h => h.1) Try.underlying40 rfl (by rw [r22_size]; kernel_rfl)) (⟨M8.out, M5.out, M6.out⟩) ?_
            (try simp only [sI, sS, sZ])
            refine go_take2 1 59 #[true, true, false, false, false, false, false, false, false] rfl rfl rfl (by kernel_rfl) (yieldsIf_load_row (by rfl) 40 _ rfl (uw1.heap.size) rfl 40 (r22 n0) (fun _ h => h.2.1) Try.underlying40 rfl (by rw [r22_size]; kernel_rfl)) (⟨M8.out, M5.out, M6.out⟩) ?_
            (try simp only [sI, sS, sZ])
            refine go_take2 2 60 #[true, true, true, false, false, false, false, false, false] rfl rfl rfl (by kernel_rfl) (yieldsIf_load_row (by rfl) 40 _ rfl (uw2.heap.size) rfl 40 (r22 1) (fun _ h => h.2.2) Try.underlying40 rfl (by rw [r22_size]; kernel_rfl)) (⟨M8.out, M5.out, M6.out⟩) ?_
            (try simp only [sI, sS, sZ])
            refine go_take2 3 61 #[true, true, true, true, false, false, false, false, false] rfl rfl rfl (by kernel_rfl) (yieldsIf_load_row (by rfl) 40 _ rfl (B8) rfl 40 (r22 x2) (fun _ h => h.1) Try.underlying40 rfl (by rw [r22_size]; kernel_rfl)) (⟨M8.out, M5.out, M6.out⟩) ?_
            (try simp only [sI, sS, sZ])
            refine go_take2 4 62 #[true, true, true, true, true, false, false, false, false] rfl rfl rfl (by kernel_rfl) (yieldsIf_load_row (by rfl) 40 _ rfl (uw1.heap.size) rfl 40 (r22 n0) (fun _ h => h.2.1) Try.underlying40 rfl (by rw [r22_size]; kernel_rfl)) (⟨M8.out, M5.out, M6.out⟩) ?_
            (try simp only [sI, sS, sZ])
            refine wpBut_r1 (i := 5) (by kernel_rfl) ?_
            refine go_call 5 63 #[true, true, true, true, true, true, false, false, false] rfl rfl rfl (by rfl) rfl rfl (by rfl) ent32 (by rfl) (Htx.out _) ?_
            rintro e uw5 ⟨rfl, hb⟩
            replace M1 := Lib.hid (M1.out.call hb)
            replace M2 := Lib.hid (M2.out.call hb)
            replace M5 := Lib.hid (M5.out.call hb)
            replace M6 := Lib.hid (M6.out.call hb)
            replace M8 := Lib.hid (M8.out.call hb)
            replace HB := Lib.hid (held_next HB.out hb)
            refine ⟨_, rfl, fun _ => ⟨M8.out, M5.out, M6.out⟩, ?_⟩
            clear hb
            (try simp only [sI, sS, sZ])
            refine go_take2 6 64 #[true, true, true, true, true, true, true, false, false] rfl rfl rfl (by kernel_rfl) (yieldsIf_build (by rfl) 57 _ rfl _ (by rfl) (rp x2 n0 1 tt) (bd57 x2 n0 1 tt)) (⟨M8.out, M5.out, M6.out⟩) ?_
            (try simp only [sI, sS, sZ])
            refine wpBut_r1 (i := 7) (by kernel_rfl) ?_
            first | (obtain ⟨Zq, hZ, mZ⟩ := M2.out) | (obtain ⟨Zq, hZ, mZ⟩ := M2.out.toN (rp_size ..))
            refine go_store2 7 #[true, true, true, true, true, true, true, true, false] rfl rfl rfl (by rfl) 57 _ _ rfl (w.heap.size + 1) (rp x2 n0 1 tt) rfl rfl 57 Zq mZ (by rw [rp_size]; kernel_rfl) (hZ.trans (rp_size ..).symm) (rp_one _ _ _ _) ?_
            intro yw22 hw2
            have kq := M1.out.setRow_other (w.heap.size + 1) (rp x2 n0 1 tt) (by omega); rw [← hw2] at kq; clear M1; have M1 := Lib.hid kq; clear kq
            have kq := M5.out.setRow_other (w.heap.size + 1) (rp x2 n0 1 tt) (by omega); rw [← hw2] at kq; clear M5; have M5 := Lib.hid kq; clear kq
            have kq := M6.out.setRow_other (w.heap.size + 1) (rp x2 n0 1 tt) (by omega); rw [← hw2] at kq; clear M6; have M6 := Lib.hid kq; clear kq
            have kq := M8.out.setRow_other (w.heap.size + 1) (rp x2 n0 1 tt) (by omega); rw [← hw2] at kq; clear M8; have M8 := Lib.hid kq; clear kq
            have kq := mZ.setRow (rp x2 n0 1 tt); rw [← hw2] at kq; clear M2; have M2 := Lib.hid kq; clear kq mZ hZ
            have kq := below_setRow HB.out (w.heap.size + 1) (rp x2 n0 1 tt) (by omega); rw [← hw2] at kq; clear HB; have HB := Lib.hid kq; clear kq hw2
            refine ⟨fun _ => ⟨M8.out, M5.out, M6.out⟩, ?_⟩
            (try simp only [sI, sS, sZ])
            refine go_take2 8 3 #[true, true, true, true, true, true, true, true, true] (v := ?uv62) rfl rfl rfl (by kernel_rfl) (Or.inl ⟨by rfl, ?uy62⟩) (⟨M8.out, M5.out, M6.out⟩) ?urest62
            case uy62 => (intro _ _; go_simp; try with_reducible rfl)
            (try simp only [sI, sS, sZ])
            refine wpBut_done (by kernel_rfl) (NoPanic.normal ?_)
            go_wp2_with fail
            have hb := Hcof.out.trans (bes_odd C n0 Hok.out.symm (by rw [← HR3.out]; exact HZ.out))
            exact bodyPost_ret (v := .tuple #[.agg (rp x2 n0 1 tt), .bool true]) (results_cell_tmp_row (fn := Try.f48) (p := 2) (t2 := 3) (ty := 57) (t := 57) (by rfl) _ _ (w.heap.size + 1) _ _ _ rfl M2.out Try.underlying57 rfl (by rw [rp_size]; kernel_rfl)) rfl ⟨by rw [hb, Htt.out, Hx2.out, HR3.out, Nat.zero_mod], HB.out⟩
    · have hne : ¬ A = n0 := by have := HAl.out; omega
      have heq := fun w => k32_eq A n0 (PP_256 A HAl.out) Hl0.out w
      rw [decide_eq_false hne] at heq
      clear hne
      have hcf := Hno.out hlt
      refine wp_region_noPanic ?_
      refine wp_region_go 99 4 #[false, false, false, false] (by kernel_rfl) rfl rfl ?_
      intro W7 hW7
      have kq := M1.out; rw [← hW7] at kq; clear M1; have M1 := Lib.hid kq; clear kq
      have kq := M2.out; rw [← hW7] at kq; clear M2; have M2 := Lib.hid kq; clear kq
      have kq := M5.out; rw [← hW7] at kq; clear M5; have M5 := Lib.hid kq; clear kq
      have kq := HB.out; rw [← hW7] at kq; clear HB; have HB := Lib.hid kq; clear kq
      clear hW7
      refine go_take2 0 19 #[true, false, false, false] rfl rfl rfl (by kernel_rfl) (yieldsIf_load_row (by rfl) 40 _ rfl (uw1.heap.size) rfl 40 (r22 A) (fun _ h => M5.out.below h M5.out.lt) Try.underlying40 rfl (by rw [r22_size]; kernel_rfl)) ((below_dr W7)) ?_
      (try simp only [sI, sS, sZ])
      refine go_take2 2 21 #[true, false, true, false] rfl rfl rfl (by kernel_rfl) (yieldsIf_load_row (by rfl) 24 _ rfl (w.heap.size) rfl 24 (k32 n0) (fun _ h => M1.out.below h M1.out.lt) Try.underlying24 rfl (by rw [k32_size]; kernel_rfl)) ((below_dr W7)) ?_
      (try simp only [sI, sS, sZ])
      refine wpBut_r1 (i := 1) (by kernel_rfl) ?_
      refine go_call 1 20 #[true, true, true, false] rfl rfl rfl (by rfl) rfl rfl (by rfl) ent74 (by rfl) (Hrk.out _) ?_
      rintro e wW71 ⟨rfl, hb⟩
      have hkW71 := held_next (below_dr W7) hb
      refine ⟨_, rfl, fun _ => hkW71, ?_⟩
      clear hb
      (try simp only [sI, sS, sZ])
      refine go_take2 3 22 #[true, true, true, true] (v := ?uv32) rfl rfl rfl (by kernel_rfl) (Or.inl ⟨by rfl, ?uy32⟩) (hkW71) ?urest32
      case uy32 => (intro _ _; go_simp; try with_reducible rfl)
      (try simp only [sI, sS, sZ])
      refine wpBut_done (by kernel_rfl) (NoPanic.normal ?_)
      replace M1 := Lib.hid (M1.out.call hkW71)
      replace M2 := Lib.hid (M2.out.call hkW71)
      replace M5 := Lib.hid (M5.out.call hkW71)
      replace HB := Lib.hid (held_next HB.out hkW71)
      clear heq
      repeat ((fail_if_success (with_reducible (show wpList _ _ _ _ _ _))); go_step)
      refine wpList_call (by rfl) rfl rfl (by rfl) ent88 (by rfl) (Horg.out _) 23 rfl ?_
      rintro e uw2 ⟨rfl, hb⟩
      replace M1 := Lib.hid (M1.out.call hb)
      replace M2 := Lib.hid (M2.out.call hb)
      replace M5 := Lib.hid (M5.out.call hb)
      replace HB := Lib.hid (held_next HB.out hb)
      refine ⟨_, rfl, ?_⟩
      clear hb
      (try simp only [Act.put, sI, sS, sZ])
      first | (obtain ⟨Zq, hZ, mZ⟩ := M2.out) | (obtain ⟨Zq, hZ, mZ⟩ := M2.out.toN (rp_size ..))
      refine wpList_store2 (by rfl) 57 _ _ rfl rfl (w.heap.size + 1) (rp 0 1 1 0) rfl rfl 57 Zq mZ (by rw [rp_size]; kernel_rfl) (hZ.trans (rp_size ..).symm) (rp_one _ _ _ _) ?_
      intro yw8 hw2
      have kq := M1.out.setRow_other (w.heap.size + 1) (rp 0 1 1 0) (by omega); rw [← hw2] at kq; clear M1; have M1 := Lib.hid kq; clear kq
      have kq := M5.out.setRow_other (w.heap.size + 1) (rp 0 1 1 0) (by omega); rw [← hw2] at kq; clear M5; have M5 := Lib.hid kq; clear kq
      have kq := mZ.setRow (rp 0 1 1 0); rw [← hw2] at kq; clear M2; have M2 := Lib.hid kq; clear kq mZ hZ
      have kq := below_setRow HB.out (w.heap.size + 1) (rp 0 1 1 0) (by omega); rw [← hw2] at kq; clear HB; have HB := Lib.hid kq; clear kq hw2
      refine wpList_step (fun K hK => ?_)
      go_simp
      (try go_bits)
      refine hK _ _ ?_
      clear hK K
      refine wpList_nil ?_
      go_wp2_with fail
      exact bodyPost_ret (v := .tuple #[.agg (rp 0 1 1 0), .bool false]) (results_cell_tmp_row (fn := Try.f48) (p := 2) (t2 := 3) (ty := 57) (t := 57) (by rfl) _ _ (w.heap.size + 1) _ _ _ rfl M2.out Try.underlying57 rfl (by rw [rp_size]; kernel_rfl)) rfl ⟨by rw [hcf, Nat.zero_mul, Nat.zero_mod], HB.out⟩
end Go.Proofs.Ytjiagjonlcadiaa
