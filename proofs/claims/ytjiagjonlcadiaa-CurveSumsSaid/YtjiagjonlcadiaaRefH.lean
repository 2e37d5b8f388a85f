/- The reference's Over, Root. -/
import Derived.Test.YtjiagjonlcadiaaRefG
import Derived.Test.YtjiagjonlcadiaaEq
namespace Go.Proofs.Ytjiagjonlcadiaa
open Go.RowKit Go.Lib

theorem two_lt : 2 % PP < PP := Nat.mod_lt _ PP_pos
theorem pm2_lt : PP - 2 % PP < 2 ^ 255 := by decide +kernel
theorem pm2 : PP - 2 % PP = PP - 2 := by decide +kernel

set_option maxRecDepth 100000 in
set_option maxHeartbeats 2000000 in
theorem rover_any (a b : Nat) (ha : a < PP) (hb : b < PP) (w : World) :
    Calls Try.prog 43 #[.agg (r22 a), .agg (r22 b)] w fun en w' => en = .returned (.agg (r22 (a * pwm b (PP - 2) % PP))) ∧ Below w.heap.size w w' := by
  have h1 := fun w => rint_nn 2 (by omega) w
  have h2 := fun w => less_any PP (2 % PP) (Nat.le_of_lt two_lt) PP_lt w
  have h3 := fun w => rpow_any b (PP - 2 % PP) hb pm2_lt w
  rw [pm2] at h2 h3
  obtain ⟨t, ht⟩ : ∃ t, t = 2 % PP := ⟨_, rfl⟩
  obtain ⟨e, he⟩ : ∃ e, e = PP - 2 := ⟨_, rfl⟩
  rw [← ht] at h1 h2
  rw [← he] at h2 h3 ⊢
  have hy := pwm_lt b e
  obtain ⟨y, hyy⟩ : ∃ y, y = pwm b e := ⟨_, rfl⟩
  rw [← hyy] at h3 hy ⊢
  have h4 := fun w => rtimes_any a y ha hy w
  obtain ⟨r, hr⟩ : ∃ r, r = a * y % PP := ⟨_, rfl⟩
  rw [← hr] at h4 ⊢
  have H1 := Lib.hid h1; clear h1
  have H2 := Lib.hid h2; clear h2
  have H3 := Lib.hid h3; clear h3
  have H4 := Lib.hid h4; clear h4
  clear hr hyy hy he ht ha hb
  go_enter Try.func43, Try.ntmps43
  go_wp2_with fail
  refine wp_region_noPanic ?_
  refine wp_region_below 7 (by kernel_rfl) ?_
  intro W0 hW0
  have M0 := Lib.hid (show Has W0 w.heap.size (r22 a) 40 by rw [hW0]; exact ((Has.new _ _ _).alloc _).alloc _)
  have M1 := Lib.hid (show Has W0 (w.heap.size + 1) (r22 b) 40 by rw [hW0]; exact (Has.new1 _ _ _ _).alloc _)
  have M2 := Lib.hid (show HasN W0 (w.heap.size + 1 + 1) 22 40 by rw [hW0]; exact HasN.new2 _ _ _ _ _ 22 rfl)
  have HB := Lib.hid (show Below w.heap.size w W0 by rw [hW0]; exact below_3 _ _ _ _)
  clear hW0
  refine wpBut_take (i := 0) rfl (by kernel_rfl) (by kernel_rfl) (by kernel_rfl) (by kernel_rfl) (by kernel_rfl) (fun _ _ _ h => h) (yieldsIf_load_row (by rfl) 40 _ rfl (w.heap.size) rfl 40 (r22 a) (fun _ h => M0.out.below h M0.out.lt) Try.underlying40 rfl (by rw [r22_size]; kernel_rfl)) ((Below.refl _ _).drew) ?_
  (try simp only [Act.put]); (try simp only [List.setIfInBounds_toArray])
  refine wpBut_take (i := 1) rfl (by kernel_rfl) (by kernel_rfl) (by kernel_rfl) (by kernel_rfl) (by kernel_rfl) (fun _ _ _ h => h) (yieldsIf_load_row (by rfl) 40 _ rfl (w.heap.size + 1) rfl 40 (r22 b) (fun _ h => M1.out.below h M1.out.lt) Try.underlying40 rfl (by rw [r22_size]; kernel_rfl)) ((Below.refl _ _).drew) ?_
  (try simp only [Act.put]); (try simp only [List.setIfInBounds_toArray])
  refine wpBut_one (i := 2) (by kernel_rfl) rfl (fun K hK => ?_)
  go_simp
  go_at_call 82
  refine (prime_any _).mono ?_
  rintro e wW01 ⟨rfl, hb⟩
  have hkW01 := held_next (Below.refl _ _).drew hb
  refine hK.out _ _ (fun _ => hkW01) ?_
  clear hK K hb
  refine wpBut_one (i := 3) (by kernel_rfl) rfl (fun K hK => ?_)
  go_simp
  go_at_call 35
  refine (H1.out _).mono ?_
  rintro e wW02 ⟨rfl, hb⟩
  have hkW02 := held_next hkW01 hb
  refine hK.out _ _ (fun _ => hkW02) ?_
  clear hK K hb
  refine wpBut_one (i := 4) (by kernel_rfl) rfl (fun K hK => ?_)
  go_simp
  go_at_call 81
  refine (H2.out _).mono ?_
  rintro e wW03 ⟨rfl, hb⟩
  have hkW03 := held_next hkW02 hb
  refine hK.out _ _ (fun _ => hkW03) ?_
  clear hK K hb
  refine wpBut_one (i := 5) (by kernel_rfl) rfl (fun K hK => ?_)
  go_simp
  go_at_call 85
  refine (H3.out _).mono ?_
  rintro e wW04 ⟨rfl, hb⟩
  have hkW04 := held_next hkW03 hb
  refine hK.out _ _ (fun _ => hkW04) ?_
  clear hK K hb
  refine wpBut_one (i := 6) (by kernel_rfl) rfl (fun K hK => ?_)
  go_simp
  go_at_call 32
  refine (H4.out _).mono ?_
  rintro e wW05 ⟨rfl, hb⟩
  have hkW05 := held_next hkW04 hb
  refine hK.out _ _ (fun _ => hkW05) ?_
  clear hK K hb
  obtain ⟨Z, hZ, mZ⟩ := M2.out.below hkW05 M2.out.lt
  have MZ := Lib.hid mZ; clear mZ
  have HZ := Lib.hid hZ; clear hZ
  refine wpBut_one (i := 7) (by kernel_rfl) rfl (fun K hK => ?_)
  rw [if_pos (by rfl)]
  refine wp_store_row 40 _ _ rfl (w.heap.size + 1 + 1) _ rfl rfl 40 Z MZ.out (by rw [r22_size]; kernel_rfl) (HZ.out.trans (r22_size _).symm) (row_one _ _ _) ?_
  refine hK.out _ _ (fun h => (h rfl).elim) ?_
  clear hK K
  (try simp only [Act.put]); (try simp only [List.setIfInBounds_toArray])
  refine wpBut_done (by kernel_rfl) (NoPanic.normal ?_)
  go_wp2_with fail
  exact bodyPost_ret (v := .agg (r22 r)) (results_cell_row (t := 40) (by rfl) _ _ (w.heap.size + 1 + 1) _ _ _ rfl (MZ.out.setRow _) Try.underlying40 rfl (by rw [r22_size]; kernel_rfl)) rfl ⟨rfl, below_setRow (HB.out.trans (hkW05.mono HB.out.size)) _ _ (by omega)⟩

end Go.Proofs.Ytjiagjonlcadiaa
