/- The laws' helpers of chapter 03: is, alive. -/
import Derived.Test.YtjiagjonlcadiaaFldM
import Derived.Test.YtjiagjonlcadiaaRefH
namespace Go.Proofs.Ytjiagjonlcadiaa
open Go.RowKit Go.Lib

theorem n256_32 : 256 ^ 32 = 115792089237316195423570985008687907853269984665640564039457584007913129639936 := by decide +kernel
theorem k32_eq (x y : Nat) (hx : x < 115792089237316195423570985008687907853269984665640564039457584007913129639936) (hy : y < 115792089237316195423570985008687907853269984665640564039457584007913129639936) (w : World) : (Op.equalIn 10000 24 (.agg (k32 x)) (.agg (k32 y))).run Try.prog w = .ok (decide (x = y)) w := by
  rw [← eqr_dg 256 32 x y (by rw [n256_32]; exact hx) (by rw [n256_32]; exact hy)]
  exact run_equalIn_row w 9998 24 5 32 .u8 Try.underlying24 Try.underlying5 sz_u8 _ _
theorem k32_same (x : Nat) (hx : x < 115792089237316195423570985008687907853269984665640564039457584007913129639936) (w : World) : (Op.equalIn 10000 24 (.agg (k32 x)) (.agg (k32 x))).run Try.prog w = .ok true w := by
  rw [k32_eq x x hx hx w, decide_eq_true rfl]
theorem PP_256 (b : Nat) (h : b < PP) : b < 115792089237316195423570985008687907853269984665640564039457584007913129639936 := by
  have : PP < 115792089237316195423570985008687907853269984665640564039457584007913129639936 := by decide +kernel
  omega

set_option maxRecDepth 100000 in
set_option linter.unusedSimpArgs false in
set_option maxHeartbeats 4000000 in
theorem lis_yes (a b : Nat) (ha : a < 115792089237316195423570985008687907853269984665640564039457584007913129639936) (hb0 : b < PP) (hab : a % PP = b) (w : World) :
    Calls Try.prog 29 #[.agg (e4 a), .agg (r22 b)] w fun e w' => e = .returned (.bool true) ∧ Below w.heap.size w w' := by
  have hk1 := fun w => key_any a ha w
  rw [hab] at hk1
  have hk2 := fun w => rkey_any b (PP_256 b hb0) w
  have heq := fun w => k32_same b (PP_256 b hb0) w
  have Hk1 := Lib.hid hk1; clear hk1
  have Hk2 := Lib.hid hk2; clear hk2
  clear hab ha hb0
  go_enter Try.func29, Try.ntmps29
  repeat ((fail_if_success (with_reducible (show wpList _ _ _ _ _ _))); go_step)
  refine wpList_step (fun K hK => ?_)
  go_simp
  (try go_bits)
  refine hK _ _ ?_
  clear hK K
  refine wpList_step (fun K hK => ?_)
  go_simp
  (try go_bits)
  refine hK _ _ ?_
  clear hK K
  refine wpList_step (fun K hK => ?_)
  go_simp
  (try go_bits)
  refine hK _ _ ?_
  clear hK K
  refine wpList_nil ?_
  have M2 := Lib.hid ((Has.new w  (e4 a) 36).alloc (.cells (r22 b) 40))
  have M3 := Lib.hid (Has.new1 w (.cells (e4 a) 36) (r22 b) 40)
  have HB := Lib.hid (below_2 w (.cells (e4 a) 36) (.cells (r22 b) 40))
  repeat ((fail_if_success (with_reducible (show wpList _ _ _ _ _ _))); go_step)
  refine wp_region_noPanic ?_
  refine wp_region_go 99 6 #[false, false, false, false, false, false] (by kernel_rfl) rfl rfl ?_
  intro W1 hW1
  have kq := M2.out; rw [← hW1] at kq; clear M2; have M2 := Lib.hid kq; clear kq
  have kq := M3.out; rw [← hW1] at kq; clear M3; have M3 := Lib.hid kq; clear kq
  have kq := HB.out; rw [← hW1] at kq; clear HB; have HB := Lib.hid kq; clear kq
  clear hW1
  refine go_take2 0 5 #[true, false, false, false, false, false] rfl rfl rfl (by kernel_rfl) (yieldsIf_load_row (by rfl) 36 _ rfl (w.heap.size) rfl 36 (e4 a) (fun _ h => M2.out.below h M2.out.lt) Try.underlying36 rfl (by rw [e4_size]; kernel_rfl)) ((below_dr W1)) ?_
  (try simp only [sI, sS, sZ])
  refine go_take2 2 7 #[true, false, true, false, false, false] rfl rfl rfl (by kernel_rfl) (yieldsIf_load_row (by rfl) 40 _ rfl (w.heap.size + 1) rfl 40 (r22 b) (fun _ h => M3.out.below h M3.out.lt) Try.underlying40 rfl (by rw [r22_size]; kernel_rfl)) ((below_dr W1)) ?_
  (try simp only [sI, sS, sZ])
  refine wpBut_r1 (i := 1) (by kernel_rfl) ?_
  refine go_call 1 6 #[true, true, true, false, false, false] rfl rfl rfl (by rfl) rfl rfl (by rfl) ent73 (by rfl) (Hk1.out _) ?_
  rintro e wW11 ⟨rfl, hb⟩
  have hkW11 := held_next (below_dr W1) hb
  refine ⟨_, rfl, fun _ => hkW11, ?_⟩
  clear hb
  (try simp only [sI, sS, sZ])
  refine wpBut_r1 (i := 3) (by kernel_rfl) ?_
  refine go_call 3 8 #[true, true, true, true, false, false] rfl rfl rfl (by rfl) rfl rfl (by rfl) ent74 (by rfl) (Hk2.out _) ?_
  rintro e wW12 ⟨rfl, hb⟩
  have hkW12 := held_next hkW11 hb
  refine ⟨_, rfl, fun _ => hkW12, ?_⟩
  clear hb
  (try simp only [sI, sS, sZ])
  refine go_take2 4 9 #[true, true, true, true, true, false] (v := ?uv1) rfl rfl rfl (by kernel_rfl) (Or.inl ⟨by rfl, ?uy1⟩) (hkW12) ?urest1
  case uy1 => (intro _ _; go_simp; try with_reducible rfl)
  (try simp only [sI, sS, sZ])
  refine go_take2 5 4 #[true, true, true, true, true, true] (v := ?uv2) rfl rfl rfl (by kernel_rfl) (Or.inl ⟨by rfl, ?uy2⟩) (hkW12) ?urest2
  case uy2 => (intro _ _; go_simp; try with_reducible rfl)
  (try simp only [sI, sS, sZ])
  refine wpBut_done (by kernel_rfl) (NoPanic.normal ?_)
  replace M2 := Lib.hid (M2.out.call hkW12)
  replace M3 := Lib.hid (M3.out.call hkW12)
  replace HB := Lib.hid (held_next HB.out hkW12)
  go_wp2_with fail
  go_ret
  exact ⟨rfl, HB.out⟩

set_option maxRecDepth 100000 in
set_option linter.unusedSimpArgs false in
set_option maxHeartbeats 4000000 in
theorem law3_alive (w : World) : Calls Try.prog 28 #[] w fun e w' => e = .returned (.bool true) ∧ Below w.heap.size w w' := by
  have hneg := fun w => fint_neg (-1) (by omega) (by omega) w
  rw [show ((-1) % (PP : Int)).toNat = PP - 1 by decide +kernel] at hneg
  have hkey := fun x hx w => key_any x hx w
  have hseven := fun w => fint_nn 7 (by decide) w
  have hov := fun w => over_any 7 7 (by decide) (by decide) w
  have h7 : 7 * pwm 7 (PP - 2) % PP = 1 := by
    have := over_undoes 1 7 (by decide +kernel)
    rw [Nat.one_mul] at this
    rw [Nat.mul_comm]; rw [Nat.mod_mul_mod] at this
    rw [this]; decide +kernel
  rw [h7] at hov
  have hone : (#[.int .u8 1, .int .u8 0, .int .u8 0, .int .u8 0, .int .u8 0, .int .u8 0, .int .u8 0, .int .u8 0, .int .u8 0, .int .u8 0, .int .u8 0, .int .u8 0, .int .u8 0, .int .u8 0, .int .u8 0, .int .u8 0, .int .u8 0, .int .u8 0, .int .u8 0, .int .u8 0, .int .u8 0, .int .u8 0, .int .u8 0, .int .u8 0, .int .u8 0, .int .u8 0, .int .u8 0, .int .u8 0, .int .u8 0, .int .u8 0, .int .u8 0, .int .u8 0] : Array Value) = k32 1 := by kernel_rfl
  have heq := fun w => k32_same 1 (by decide) w
  have hc0 : dg 256 (PP - 1) 0 = 236 := by decide +kernel
  have hc31 : dg 256 (PP - 1) 31 = 127 := by decide +kernel
  obtain ⟨pm, hpm⟩ : ∃ pm, pm = PP - 1 := ⟨_, rfl⟩
  rw [← hpm] at hneg hc0 hc31
  clear hpm h7
  have Hneg := Lib.hid hneg; clear hneg
  have Hkey := Lib.hid hkey; clear hkey
  have Hseven := Lib.hid hseven; clear hseven
  have Hov := Lib.hid hov; clear hov
  have Hone := Lib.hid hone; clear hone
  have Hc0 := Lib.hid hc0; clear hc0
  have Hc31 := Lib.hid hc31; clear hc31
  go_enter Try.func28, Try.ntmps28
  repeat ((fail_if_success (with_reducible (show wpList _ _ _ _ _ _))); go_step)
  refine wpList_step (fun K hK => ?_)
  go_simp
  (try go_bits)
  refine hK _ _ ?_
  clear hK K
  refine wpList_nil ?_
  have HB := Lib.hid (Below.refl w.heap.size w)
  repeat ((fail_if_success (with_reducible (show wpList _ _ _ _ _ _))); go_step)
  refine wpList_call (by rfl) rfl rfl (by rfl) ent34 (by rfl) (Hneg.out _) 2 rfl ?_
  rintro e uw1 ⟨m1, hm1, hm1r, rfl, hb⟩
  replace HB := Lib.hid (held_next HB.out hb)
  refine ⟨_, rfl, ?_⟩
  clear hb
  (try simp only [Act.put, sI, sS, sZ])
  refine wpList_call (by rfl) rfl rfl (by rfl) ent73 (by rfl) (Hkey.out m1 hm1 _) 3 rfl ?_
  rintro e uw2 ⟨rfl, hb⟩
  replace HB := Lib.hid (held_next HB.out hb)
  rw [hm1r]
  refine ⟨_, rfl, ?_⟩
  clear hb
  (try simp only [Act.put, sI, sS, sZ])
  refine wpList_step (fun K hK => ?_)
  go_simp
  have M1 := Lib.hid (HasN.new uw2 (#[.int .u8 0, .int .u8 0, .int .u8 0, .int .u8 0, .int .u8 0, .int .u8 0, .int .u8 0, .int .u8 0, .int .u8 0, .int .u8 0, .int .u8 0, .int .u8 0, .int .u8 0, .int .u8 0, .int .u8 0, .int .u8 0, .int .u8 0, .int .u8 0, .int .u8 0, .int .u8 0, .int .u8 0, .int .u8 0, .int .u8 0, .int .u8 0, .int .u8 0, .int .u8 0, .int .u8 0, .int .u8 0, .int .u8 0, .int .u8 0, .int .u8 0, .int .u8 0] : Array Value) 24 32 rfl)
  have hsz := HB.out.size
  replace HB := Lib.hid (HB.out.alloc hsz (.cells (#[.int .u8 0, .int .u8 0, .int .u8 0, .int .u8 0, .int .u8 0, .int .u8 0, .int .u8 0, .int .u8 0, .int .u8 0, .int .u8 0, .int .u8 0, .int .u8 0, .int .u8 0, .int .u8 0, .int .u8 0, .int .u8 0, .int .u8 0, .int .u8 0, .int .u8 0, .int .u8 0, .int .u8 0, .int .u8 0, .int .u8 0, .int .u8 0, .int .u8 0, .int .u8 0, .int .u8 0, .int .u8 0, .int .u8 0, .int .u8 0, .int .u8 0, .int .u8 0] : Array Value) 24))
  refine hK _ _ ?_
  clear hK K
  first | (obtain ⟨Zq, hZ, mZ⟩ := M1.out) | (obtain ⟨Zq, hZ, mZ⟩ := M1.out.toN (k32_size _))
  clear M1
  have hZ' := Lib.hid hZ; clear hZ
  have mZ' := Lib.hid mZ; clear mZ
  refine wpList_store_row rfl 24 _ _ rfl (uw2.heap.size) _ rfl rfl 24 Zq mZ'.out (by rw [k32_size]; kernel_rfl) (hZ'.out.trans (k32_size _).symm) (row_one _ _ _) ?_
  (try simp only [Act.put, sI, sS, sZ])
  have M1 := Lib.hid (mZ'.out.setRow (k32 pm))
  clear mZ' hZ'
  replace HB := Lib.hid (below_setRow HB.out (uw2.heap.size) (k32 pm) (by omega))
  refine wpList_nil ?_
  have h0 := M1.out.cell 0 (by omega)
  have h31 := M1.out.cell 31 (by omega)
  rw [Hc0.out] at h0
  rw [Hc31.out] at h31
  repeat ((fail_if_success (with_reducible (show wpList _ _ _ _ _ _))); go_step)
  refine wpList_step (fun K hK => ?_)
  go_simp
  (try go_bits)
  refine hK _ _ ?_
  clear hK K
  refine wpList_step (fun K hK => ?_)
  go_simp
  (try go_bits)
  refine hK _ _ ?_
  clear hK K
  refine wpList_step (fun K hK => ?_)
  go_simp
  (try go_bits)
  refine hK _ _ ?_
  clear hK K
  refine wpList_step (fun K hK => ?_)
  go_simp
  (try go_bits)
  refine hK _ _ ?_
  clear hK K
  refine wpList_step (fun K hK => ?_)
  go_simp
  (try go_bits)
  refine hK _ _ ?_
  clear hK K
  refine wpList_step (fun K hK => ?_)
  go_simp
  (try go_bits)
  refine hK _ _ ?_
  clear hK K
  refine wpList_step (fun K hK => ?_)
  go_simp
  (try go_bits)
  refine hK _ _ ?_
  clear hK K
  refine wpList_step (fun K hK => ?_)
  go_simp
  (try go_bits)
  refine hK _ _ ?_
  clear hK K
  refine wpList_step (fun K hK => ?_)
  go_simp
  (try go_bits)
  refine hK _ _ ?_
  clear hK K
  refine wpList_call (by rfl) rfl rfl (by rfl) ent34 (by rfl) (Hseven.out _) 13 rfl ?_
  rintro e uw3 ⟨rfl, hb⟩
  replace M1 := Lib.hid (M1.out.call hb)
  replace HB := Lib.hid (held_next HB.out hb)
  refine ⟨_, rfl, ?_⟩
  clear hb
  (try simp only [Act.put, sI, sS, sZ])
  refine wpList_call (by rfl) rfl rfl (by rfl) ent34 (by rfl) (Hseven.out _) 14 rfl ?_
  rintro e uw4 ⟨rfl, hb⟩
  replace M1 := Lib.hid (M1.out.call hb)
  replace HB := Lib.hid (held_next HB.out hb)
  refine ⟨_, rfl, ?_⟩
  clear hb
  (try simp only [Act.put, sI, sS, sZ])
  refine wpList_call (by rfl) rfl rfl (by rfl) ent42 (by rfl) (Hov.out _) 15 rfl ?_
  rintro e uw5 ⟨m2, hm2, hm2r, rfl, hb⟩
  replace M1 := Lib.hid (M1.out.call hb)
  replace HB := Lib.hid (held_next HB.out hb)
  refine ⟨_, rfl, ?_⟩
  clear hb
  (try simp only [Act.put, sI, sS, sZ])
  refine wpList_call (by rfl) rfl rfl (by rfl) ent73 (by rfl) (Hkey.out m2 hm2 _) 16 rfl ?_
  rintro e uw6 ⟨rfl, hb⟩
  replace M1 := Lib.hid (M1.out.call hb)
  replace HB := Lib.hid (held_next HB.out hb)
  rw [hm2r]
  refine ⟨_, rfl, ?_⟩
  clear hb
  (try simp only [Act.put, sI, sS, sZ])
  refine wpList_step (fun K hK => ?_)
  go_simp
  (try go_bits)
  rw [Hone.out]
  refine hK _ _ ?_
  clear hK K
  refine wpList_step (fun K hK => ?_)
  go_simp
  (try go_bits)
  refine hK _ _ ?_
  clear hK K
  refine wpList_step (fun K hK => ?_)
  go_simp
  (try go_bits)
  refine hK _ _ ?_
  clear hK K
  refine wpList_step (fun K hK => ?_)
  go_simp
  (try go_bits)
  refine hK _ _ ?_
  clear hK K
  refine wpList_nil ?_
  go_wp2_with fail
  go_ret
  exact ⟨rfl, HB.out⟩
end Go.Proofs.Ytjiagjonlcadiaa
