/- For every row of bytes and every number the law AuditNone returns true, and the bytes read as they did; no condition. -/
import Derived.Laws.CopyOwn
import Derived.BigRegion
import Derived.LoopN
import Derived.Laws.Bits64b
import Derived.Test.YtbgefoamhdgnaaaGreatDoorGa3
set_option maxRecDepth 100000
set_option maxHeartbeats 16000000
set_option linter.unusedVariables false
set_option linter.unusedSimpArgs false
namespace Go.Proofs.YtbgefoamhdgnaaaGreatDoor
section
open Go.RowKit Go.Lib Go.Shelf
attribute [local go_sem] Oper.semAt_some
theorem al90 (w : World) : (Instr.alloc 235 true (.tuple #[])).run Tryz.prog w = .ok (.pointer (some ⟨w.heap.size, 0, none⟩)) (w.alloc (.cells #[.pointer none] 235)) := by go_simp
theorem bd93z : Tryz.prog.built 237 [] = some (r17 0) := by kernel_rfl
theorem z24k : ((#[.int .u8 0, .int .u8 0, .int .u8 0, .int .u8 0, .int .u8 0, .int .u8 0, .int .u8 0, .int .u8 0, .int .u8 0, .int .u8 0, .int .u8 0, .int .u8 0, .int .u8 0, .int .u8 0, .int .u8 0, .int .u8 0, .int .u8 0, .int .u8 0, .int .u8 0, .int .u8 0, .int .u8 0, .int .u8 0, .int .u8 0, .int .u8 0, .int .u8 0, .int .u8 0, .int .u8 0, .int .u8 0, .int .u8 0, .int .u8 0, .int .u8 0, .int .u8 0] : Array Value)) = k32 0 := by kernel_rfl
theorem top_step (N len k : Nat) (hk : k < len) : N / 65536 ^ (len - k) * 65536 + N / 65536 ^ (len - 1 - k) % 65536 = N / 65536 ^ (len - (k + 1)) := by
 rw [show len - k = len - 1 - k + 1 by omega, show len - (k + 1) = len - 1 - k by omega, Nat.pow_succ, ← Nat.div_div_eq_div_mul]
 omega
theorem bit_step (T f j b : Nat) (hj : j < 16) (hb : f / 2 ^ j % 2 = b) : 2 * (T * 2 ^ (16 - (j + 1)) + f / 2 ^ (j + 1)) + b = T * 2 ^ (16 - j) + f / 2 ^ j := by
 rw [show 16 - j = 16 - (j + 1) + 1 by omega, Nat.pow_succ 2 (16 - (j + 1)), Nat.pow_succ 2 j, ← Nat.div_div_eq_div_mul, ← Nat.mul_assoc]
 generalize T * 2 ^ (16 - (j + 1)) = P
 generalize f / 2 ^ j = q at *
 omega
theorem bit_rest (X b : Nat) : (2 * (X % L0) + b) % L0 = (2 * X + b) % L0 := by
 rw [Nat.add_mod, Nat.mul_mod, Nat.mod_mod, ← Nat.mul_mod, ← Nat.add_mod]
theorem bit_and (f j b : Nat) (hf : f < 65536) (hb : f / 2 ^ j % 2 = b) : bits .and .u32 ((f : Int) / 2 ^ j) 1 = (b : Int) := by
 have e : ((f : Int) / 2 ^ j) = ((f / 2 ^ j : Nat) : Int) := by rw [Int.natCast_ediv, Int.natCast_pow]; rfl
 have hl : f / 2 ^ j ≤ f := Nat.div_le_self _ _
 rw [e]
 generalize f / 2 ^ j = q at *
 have h := bits_mask .u32 32 (by decide) wu32 1 (by decide) (q : Int) (by omega) (by omega)
 rw [show ((2 : Int) ^ 1 - 1) = 1 by decide] at h
 rw [h, ← hb]
 omega
def qb3 (v k : Nat) : Nat → Int := fun j => if j < k then dg 256 v j else 0
theorem mixb_0 (v : Nat) : row .u8 32 (qb3 v 0) = k32 0 := q7 _ _ _ _ fun j _ => by
 unfold qb3 dg; rw [if_neg (by omega), Nat.zero_div]; rfl
theorem mixb_32 (v : Nat) : row .u8 32 (qb3 v 32) = k32 v := q7 _ _ _ _ fun j hj => by unfold qb3; rw [if_pos hj]
theorem qcQ (v k : Nat) (x : Int) (h : x = dg 256 v k) : upd (qb3 v k) k x = qb3 v (k + 1) := by
 funext j
 unfold upd qb3
 by_cases e : j = k
 · rw [if_pos e, if_pos (by omega), h, e]
 · rw [if_neg e]
   by_cases e2 : j < k
   · rw [if_pos e2, if_pos (by omega)]
   · rw [if_neg e2, if_neg (by omega)]
def DefAt0 (W : World) (D : Nat) : Prop := W.heap[D]? = some (.deferred (some []))
section
variable {W W' : World} {D : Nat}
theorem DefAt0.other (h : DefAt0 W D) (a : Addr) (v : Value) (hb : D ≠ a.block) : DefAt0 (W.setCell a v) D := (heap_setCell_other W a D v hb).trans h
theorem DefAt0.setRow_other (h : DefAt0 W D) (g : Nat) (c : Array Value) (hg : D ≠ g) : DefAt0 (W.setRow g c) D := (Go.setRow_other W g D c hg).trans h
end
theorem divide_any (b len cap N : Nat) (hlen : len ≤ 1000) (hN : N < 65536 ^ len) (w : World) (hf : Figs w b len (dg 65536 N)) :
 Calls Tryz.prog 254 #[.slice (some ⟨b, 0, none⟩) len cap] w fun e w' => e = .returned (.agg (k32 (N % L0))) ∧ Below w.heap.size w w' := by
 have hb0 := hf.lt
 have MG := Lib.hid hf
 have HN := Lib.hid hN
 clear hf hN
 refine (callsIn_wide (n := 3)).1 (callsIn_of_wp_marks Tryz.func254 rfl trivial (wpIn_wide.2 ?_) rfl)
 simp only [Tryz.ntmps254, List.size_toArray, List.length_cons, List.length_nil, Nat.reduceAdd, Nat.reduceSub, Array.replicate_succ, Array.replicate_zero, List.push_toArray, List.append_toArray, List.nil_append, List.cons_append]
 repeat ((fail_if_success (with_reducible (show wpList _ _ _ _ _ _))); go_step)
 (refine wpList_step (fun K hK => ?_); go_simp; (try go_bits); refine hK _ _ ?_; clear hK K)
 refine wpList_nil ?_
 rw [z24k]
 have M2 := Lib.hid (Has.new w (k32 0) 36)
 have HB := Lib.hid (q8 w (.cells (k32 0) 36))
 replace MG := Lib.hid (MG.out.alloc (.cells (k32 0) 36))
 obtain ⟨yw1, hwyw1⟩ : ∃ ww, ww = w.alloc (.cells (k32 0) 36) := ⟨_, rfl⟩
 rw [← hwyw1] at MG M2 HB ⊢
 clear hwyw1
 repeat ((fail_if_success (with_reducible (show wpList _ _ _ _ _ _))); go_step)
 refine Qw (by rfl) 237 _ rfl _ (by rfl) (r17 0) (bd93z) 7 rfl ?_
 (try simp only [Act.put, sI, sS, sZ])
 have gR := M2.out.lt
 refine wpList_step (fun K hK => ?_)
 go_simp
 refine hK _ _ ?_
 clear hK K
 have hb := q8 yw1 (.cells (r17 0) 237)
 have nwMR := Has.new yw1 (r17 0) 237
 obtain ⟨yw2, hwyw2⟩ : ∃ ww, ww = yw1.alloc (.cells (r17 0) 237) := ⟨_, rfl⟩
 rw [← hwyw2] at hb nwMR ⊢
 clear hwyw2
 replace MG := Lib.hid (MG.out.call hb)
 replace M2 := Lib.hid (M2.out.call hb)
 replace HB := Lib.hid (qf HB.out hb)
 clear hb
 have MR := Lib.hid nwMR; clear nwMR
 (try simp only [Act.put, sI, sS, sZ])
 refine qE (by rfl) 235 rfl _ al90 3 rfl ?_
 intro yw3 hw2
 have hlt4 := MG.out.lt
 have hlt5 := M2.out.lt
 have hlt6 := MR.out.lt
 have hsz := HB.out.size
 replace MG := Lib.hid (MG.out.alloc (.cells #[.pointer none] 235))
 replace M2 := Lib.hid (M2.out.alloc (.cells #[.pointer none] 235))
 replace MR := Lib.hid (MR.out.alloc (.cells #[.pointer none] 235))
 have MP := Lib.hid (Has.new yw2 #[.pointer none] 235)
 replace HB := Lib.hid (HB.out.alloc hsz (.cells #[.pointer none] 235))
 rw [← hw2] at MG M2 MR MP HB; clear hw2
 (try simp only [Act.put, sI, sS, sZ])
 refine zu (by rfl) 235 _ _ rfl rfl (yw2.heap.size) (.pointer (some ⟨yw1.heap.size, 0, none⟩)) rfl rfl _ _ MP.out (by kernel_rfl) rfl rfl ?_
 intro yw7 hw2
 replace MG := Lib.hid (MG.out.other ⟨yw2.heap.size, 0, none⟩ (.pointer (some ⟨yw1.heap.size, 0, none⟩)) (show _ ≠ yw2.heap.size by omega))
 replace M2 := Lib.hid (M2.out.other ⟨yw2.heap.size, 0, none⟩ (.pointer (some ⟨yw1.heap.size, 0, none⟩)) (show _ ≠ yw2.heap.size by omega))
 replace MR := Lib.hid (MR.out.other ⟨yw2.heap.size, 0, none⟩ (.pointer (some ⟨yw1.heap.size, 0, none⟩)) (show _ ≠ yw2.heap.size by omega))
 replace MP := Lib.hid (MP.out.setAt 0 (.pointer (some ⟨yw1.heap.size, 0, none⟩)))
 replace HB := Lib.hid (HB.out.setCell (p := ⟨yw2.heap.size, 0, none⟩) (show w.heap.size ≤ yw2.heap.size by omega) (.pointer (some ⟨yw1.heap.size, 0, none⟩)))
 rw [← hw2] at MG M2 MR MP HB; clear hw2
 replace MP : RowKit.Hid (Has yw7 (yw2.heap.size) #[.pointer (some ⟨yw1.heap.size, 0, none⟩)] 235) := MP
 refine wpList_nil ?_
 have gP : yw1.heap.size < yw2.heap.size := by omega
 repeat ((fail_if_success (with_reducible (show wpList _ _ _ _ _ _))); go_step)
 have MYl := MP.out.lt
 (refine wpList_step (fun K hK => ?_); go_simp; (try go_bits); refine hK _ _ ?_; clear hK K)
 refine qm (by rfl) rfl rfl (by rfl) ent217 (by rfl) (qc7 _ _ _ _) 10 rfl ?_
 rintro e uw1 ⟨⟨rfl, hbs⟩, hb⟩
 replace MG := Lib.hid (MG.out.call hb)
 replace M2 := Lib.hid (M2.out.call hb)
 replace MR := Lib.hid (MR.out.call hb)
 replace MP := Lib.hid (MP.out.call hb)
 replace HB := Lib.hid (qf HB.out hb)
 have MS := Lib.hid hbs; clear hbs
 refine ⟨_, rfl, ?_⟩
 clear hb
 (try simp only [Act.put, sI, sS, sZ])
 refine wpList_nil ?_
 obtain ⟨BS, hBS⟩ : ∃ B, B = yw7.heap.size := ⟨_, rfl⟩
 rw [← hBS] at MS MYl ⊢
 clear hBS
 repeat ((fail_if_success (with_reducible (show wpList _ _ _ _ _ _))); go_step)
 have hlS := MS.out.lt
 have hlb := MG.out.lt
 have hsz := HB.out.size
 have hst := bkf_seq BS b len cap (dg 65536 N) (by omega) uw1 MS.out MG.out
 have hf : ∀ (k : Nat) (t : Array Value), ((#[11] : Array Tmp).zip #[Value.int .u32 (dg 65536 N (len - 1 - k))]).foldl (fun t (p, v) => t.setIfInBounds p v) t = t.setIfInBounds 11 (.int .u32 (dg 65536 N (len - 1 - k))) := fun k t => by simp
 refine range_z (gf := 251) (lb := #[.pointer (some ⟨BS, 0, none⟩)]) rfl ent251 hst (Below.refl _ _) (fun _ => rfl) (fun j hj => by rcases hj with rfl | rfl <;> omega)
  (fun s k V => uw1.heap.size ≤ s ∧ Has V yw1.heap.size (r17 (N / 65536 ^ (len - k) % L0)) 237 ∧ Has V yw2.heap.size #[.pointer (some ⟨yw1.heap.size, 0, none⟩)] 235 ∧ Has V w.heap.size (k32 0) 36 ∧ Below w.heap.size w V) ?h0 ?hz (fun k t => t.setIfInBounds 4 (.int .u32 (dg 65536 N (len - 1 - k)))) ?assign ?body ?done
 case h0 =>
  intro W1 hb hs
  refine ⟨hb.size, ?_, MP.out.below hb (by omega), M2.out.below hb (by omega), HB.out.trans (hb.mono hsz)⟩
  have := MR.out.below hb (by omega)
  rwa [Nat.sub_zero, Nat.div_eq_of_lt HN.out, Nat.zero_mod]
 case hz =>
  rintro s k A B ⟨h1, h2, h3, h4, h5⟩ hq
  exact ⟨h1, (hq.block _ (by omega)).trans h2, (hq.block _ (by omega)).trans h3, (hq.block _ (by omega)).trans h4, hq.below h5 hsz⟩
 case assign =>
  intro m l2 k V K hK
  simp only [hf, sI, sS, sZ] at hK ⊢
  gi_wp2
  exact hK
 case body =>
  rintro m l2 s k V hs hsV hk ⟨h1, h2, h3, h4, h5⟩
  obtain ⟨f, hfd⟩ : ∃ f, N / 65536 ^ (len - 1 - k) % 65536 = f := ⟨_, rfl⟩
  have lf : f < 65536 := by omega
  have htop := top_step N len k hk
  rw [hfd] at htop
  have hfd2 : dg 65536 N (len - 1 - k) = (f : Int) := by rw [Qf, hfd]
  obtain ⟨T, hT⟩ : ∃ T, T = N / 65536 ^ (len - k) := ⟨_, rfl⟩
  rw [← hT] at h2 htop
  have Htop := Lib.hid htop
  simp only [hf, hfd2, sI, sS, sZ]
  have KO := But.refl yw1.heap.size V
  clear hf hst MG M2 MR MP MS HB hfd hfd2 hT htop
  have MR := Lib.hid h2
  have MP := Lib.hid h3
  have M2 := Lib.hid h4
  have HB := Lib.hid h5
  replace KO := Lib.hid KO
  clear h2 h3 h4 h5
  repeat ((fail_if_success (with_reducible (show wpListIn _ _ _ _ _ _ _ _))); gi_step)
  refine qZ (by kernel_rfl) ?_
  (refine wpList_step (fun K hK => ?_); go_simp; (try go_bits); refine hK _ _ ?_; clear hK K)
  refine wpList_nil ?_
  repeat ((fail_if_success (with_reducible (show wpListIn _ _ _ _ _ _ _ _))); gi_step)
  gi_loopw [5] (fun i wr => ∃ j : Nat, j ≤ 16 ∧ i = .int .i64 ((j : Int) - 1) ∧ Has wr yw1.heap.size (r17 ((T * 2 ^ (16 - j) + f / 2 ^ j) % L0)) 237 ∧ Has wr yw2.heap.size #[.pointer (some ⟨yw1.heap.size, 0, none⟩)] 235 ∧ Has wr w.heap.size (k32 0) 36 ∧ But yw1.heap.size V wr ∧ Below w.heap.size w wr) (fun i _ => (RowKit.intOf i + 1).toNat)
  case atStart =>
   refine ⟨16, Nat.le_refl _, rfl, ?_, MP.out, M2.out, KO.out, HB.out⟩
   rw [show T * 2 ^ (16 - 16) + f / 2 ^ 16 = T by rw [Nat.sub_self, Nat.pow_zero, Nat.mul_one, Nat.div_eq_of_lt (show f < 2 ^ 16 by omega), Nat.add_zero]]
   exact MR.out
  case round =>
   clear MR MP M2 HB KO
   obtain ⟨j, hj, rfl, mR, mP, m2, kO, hB⟩ := hrel
   have MR := Lib.hid mR; clear mR
   have MP := Lib.hid mP; clear mP
   have M2 := Lib.hid m2; clear m2
   have KO := Lib.hid kO; clear kO
   have HB := Lib.hid hB; clear hB
   rcases Nat.eq_zero_or_pos j with hj0 | hj0
   · subst hj0
     repeat ((fail_if_success (with_reducible (show wpListIn _ _ _ _ _ _ _ _))); gi_step)
     refine qZ (by kernel_rfl) ?_
     iterate 2 (refine wpList_step (fun K hK => ?_); go_simp; (try go_bits); refine hK _ _ ?_; clear hK K)
     refine wpList_nil ?_
     repeat ((fail_if_success (with_reducible (show wpListIn _ _ _ _ _ _ _ _))); gi_step)
     have hfin := MR.out
     rw [Nat.sub_zero, Nat.pow_zero, Nat.div_one, show (2 : Nat) ^ 16 = 65536 by decide, Htop.out] at hfin
     exact ⟨⟨h1, hfin, MP.out, M2.out, HB.out⟩, KO.out.size, fun q hq => KO.out.block q (by rcases hq with ⟨_, h⟩ | rfl | rfl <;> omega) (by rcases hq with ⟨h, _⟩ | rfl | rfl <;> omega)⟩
   · obtain ⟨i, rfl⟩ : ∃ i, j = i + 1 := ⟨j - 1, by omega⟩
     rw [show ((i + 1 : Nat) : Int) - 1 = (i : Int) by omega]
     have hi16 : i < 16 := by omega
     obtain ⟨bt, hbt⟩ : ∃ bt, f / 2 ^ i % 2 = bt := ⟨_, rfl⟩
     have lbt : bt < 2 := by omega
     have hand := bit_and f i bt lf hbt
     have hwj : IntKind.i64.wrap (i : Int) = (i : Int) := by rw [IntKind.wrap_i64]; omega
     have hstep := bit_step T f i bt hi16 hbt
     obtain ⟨X, hX⟩ : ∃ X, X = T * 2 ^ (16 - (i + 1)) + f / 2 ^ (i + 1) := ⟨_, rfl⟩
     rw [← hX] at hstep MR
     have hbr := bit_rest X bt
     rw [hstep] at hbr
     clear hX hj hj0 hbt hstep
     have Hbr := Lib.hid hbr; clear hbr
     repeat ((fail_if_success (with_reducible (show wpListIn _ _ _ _ _ _ _ _))); gi_step)
     refine qZ (by kernel_rfl) ?_
     iterate 2 (refine wpList_step (fun K hK => ?_); go_simp; (try go_bits); refine hK _ _ ?_; clear hK K)
     refine wpList_nil ?_
     repeat ((fail_if_success (with_reducible (show wpListIn _ _ _ _ _ _ _ _))); gi_step)
     refine ZX ?_
     refine wpr_goS (fun w' => Has w' (yw2.heap.size) (#[.pointer (some ⟨yw1.heap.size, 0, none⟩)]) 235) 99 6 #[ff,ff,ff,ff,ff,ff] (by kernel_rfl) rfl rfl ?_
     replace MR := Lib.hid (MR.out.drew)
     replace MP := Lib.hid (MP.out.drew)
     replace M2 := Lib.hid (M2.out.drew)
     replace KO := Lib.hid (KO.out.drew)
     replace HB := Lib.hid (qT HB.out 1)
     obtain ⟨yw401, hwyw401⟩ : ∃ ww, ww = wr.drew := ⟨_, rfl⟩
     rw [← hwyw401] at MR MP M2 KO ⊢
     have kq : Below w.heap.size w yw401 := by rw [hwyw401]; exact HB.out
     clear HB; have HB := Lib.hid kq; clear kq hwyw401
     refine qi 0 16 #[tt,ff,ff,ff,ff,ff] rfl rfl rfl (by kernel_rfl) (qY (by rfl) 235 _ rfl (yw2.heap.size) rfl (.pointer (some ⟨yw1.heap.size, 0, none⟩)) _ (fun _ h => Has.one (h)) Tryz.underlying235 rfl) (MP.out) ?_
     (try simp only [sI, sS, sZ])
     refine qi 1 17 #[tt,tt,ff,ff,ff,ff] (v := ?uv1) rfl rfl rfl (by kernel_rfl) (Or.inl ⟨by rfl, ?uy1⟩) (MP.out) ?urest1
     case uy1 => (intro _ _; go_simp; try with_reducible rfl)
     (try simp only [sI, sS, sZ])
     refine qi 2 18 #[tt,tt,tt,ff,ff,ff] (v := ?uv2) rfl rfl rfl (by kernel_rfl) (Or.inl ⟨by rfl, ?uy2⟩) (MP.out) ?urest2
     case uy2 => (intro _ _; go_simp; try with_reducible rfl)
     (try simp only [sI, sS, sZ])
     refine qi 3 19 #[tt,tt,tt,tt,ff,ff] (v := ?uv3) rfl rfl rfl (by kernel_rfl) (Or.inl ⟨by rfl, ?uy3⟩) (MP.out) ?urest3
     case uy3 => (intro _ _; go_simp; try with_reducible rfl)
     (try simp only [sI, sS, sZ])
     refine qi 4 20 #[tt,tt,tt,tt,tt,ff] (v := ?uv4) rfl rfl rfl (by kernel_rfl) (Or.inl ⟨by rfl, ?uy4⟩) (MP.out) ?urest4
     case uy4 => (intro _ _; go_simp; try with_reducible rfl)
     (try simp only [sI, sS, sZ])
     refine qq (i := 5) (by kernel_rfl) ?_
     refine qM 5 21 #[tt,tt,tt,tt,tt,tt] rfl rfl rfl (by rfl) rfl rfl (by rfl) ent273 (by rfl) (bit_any yw1.heap.size (X % L0) bt (Nat.mod_lt _ (by decide)) lbt _ MR.out) ?_
     rintro e uw401 ⟨rfl, hmU, hb⟩
     replace MR := Lib.hid hmU; clear hmU
     replace MP := Lib.hid (MP.out.but hb (by omega))
     replace M2 := Lib.hid (M2.out.but hb (by omega))
     replace KO := Lib.hid (But.trans KO.out hb)
     replace HB := Lib.hid (qbK HB.out hb (by omega) HB.out.size)
     rw [Hbr.out] at MR
     clear hb
     refine ⟨_, rfl, fun _ => MP.out, ?_⟩
     (try simp only [sI, sS, sZ])
     refine qD (by kernel_rfl) (NoPanic.normal ?_)
     clear hand hwj
     repeat ((fail_if_success (with_reducible (show wpListIn _ _ _ _ _ _ _ _))); gi_step)
     refine qZ (by kernel_rfl) ?_
     iterate 3 (refine wpList_step (fun K hK => ?_); go_simp; (try go_bits); refine hK _ _ ?_; clear hK K)
     refine wpList_nil ?_
     go_roundw
     case measure => simp [RowKit.intOf]
     case rel => (repeat apply Exists.intro); exact ⟨⟨i, by omega, rfl, MR.out, MP.out, M2.out, KO.out, HB.out⟩, rfl⟩
 case done =>
  rintro s V hs hsV ⟨h1, h2, h3, h4, h5⟩ hD
  rw [Nat.sub_self, Nat.pow_zero, Nat.div_one] at h2
  obtain ⟨v, hv⟩ : ∃ v, v = N % L0 := ⟨_, rfl⟩
  rw [← hv] at h2
  have Hv := Lib.hid hv
  have hD2 : DefAt0 V uw1.heap.size := hD
  clear hf hst MG M2 MR MP MS HB HN hv hD
  have m2 := h4
  rw [← mixb_0 v] at m2
  have MR := Lib.hid h2
  have MP := Lib.hid h3
  have M2 := Lib.hid m2
  have HB := Lib.hid h5
  have MD := Lib.hid hD2
  clear h2 h3 h4 h5 m2 hD2
  repeat ((fail_if_success (with_reducible (show wpList _ _ _ _ _ _))); go_step)
  (refine wpList_step (fun K hK => ?_); go_simp; (try go_bits); refine hK _ _ ?_; clear hK K)
  refine wpList_nil ?_
  repeat ((fail_if_success (with_reducible (show wpList _ _ _ _ _ _))); go_step)
  go_loopw [22] (fun i wr => ∃ k : Nat, k ≤ 32 ∧ i = .int .i64 (k : Int) ∧ Has wr yw1.heap.size (r17 v) 237 ∧ Has wr yw2.heap.size #[.pointer (some ⟨yw1.heap.size, 0, none⟩)] 235 ∧ Has wr w.heap.size (row .u8 32 (qb3 v k)) 36 ∧ DefAt0 wr uw1.heap.size ∧ Below w.heap.size w wr) (fun i _ => (32 - (RowKit.intOf i).toNat))
  case atStart => exact ⟨0, by omega, rfl, MR.out, MP.out, M2.out, MD.out, HB.out⟩
  case round =>
   clear MR MP M2 MD HB
   obtain ⟨k, hk, rfl, mR, mP, m2, mD, hB⟩ := hrel
   have MR := Lib.hid mR; clear mR
   have MP := Lib.hid mP; clear mP
   have M2 := Lib.hid m2; clear m2
   have MD := Lib.hid mD; clear mD
   have HB := Lib.hid hB; clear hB
   rcases Nat.lt_or_ge k 32 with hlt | hge
   · have kq : (k : Int) < 32 := by omega
     obtain ⟨j, hj⟩ : ∃ j, j = k / 2 := ⟨_, rfl⟩
     have hj17 : j < 17 := by omega
     have hjb : (j : Int) < 17 := by omega
     obtain ⟨x, hx⟩ : ∃ x, v / 65536 ^ j % 65536 = x := ⟨_, rfl⟩
     have lx : x < 65536 := by omega
     have hpc := MP.out.one
     have hc1 : wr.cell? ⟨yw1.heap.size, j, none⟩ = some (.int .u32 (x : Int)) := by
      have h := MR.out
      unfold r17 at h
      rw [h.cell j hj17, Qf, hx]
     have hcw : wr.cell? ⟨w.heap.size, k, none⟩ = some (.int .u8 0) := by rw [M2.out.cell k hlt]; unfold qb3; rw [if_neg (by omega)]
     have hfz := M2.out.frozen k
     have hdt := dg_two v j
     rw [Qf, hx, Qf, Qf] at hdt
     have hq1 : (k : Int).tdiv 2 = (j : Int) := by rw [Int.tdiv_eq_ediv_of_nonneg (by omega)]; omega
     have hq2 : (k : Int) / 2 = (j : Int) := by omega
     rcases Nat.mod_two_eq_zero_or_one k with he | he
     · have hm1 : (k : Int).tmod 2 = 0 := by rw [Int.tmod_eq_emod_of_nonneg (by omega)]; omega
       have hm2 : (k : Int) % 2 = 0 := by omega
       have hk2 : k = 2 * j := by omega
       obtain ⟨y, hy⟩ : ∃ y, y = x % 256 := ⟨_, rfl⟩
       have hwx : IntKind.u8.wrap (x : Int) = (y : Int) := by rw [IntKind.wrap_u8]; omega
       have hwx2 : (x : Int) % 256 = (y : Int) := by omega
       have hup : (y : Int) = dg 256 v k := by rw [Qf, hk2]; omega
       clear hj hy hdt hk2
       have Hx := Lib.hid hx; clear hx
       have Hup := Lib.hid hup; clear hup
       have He := Lib.hid he; clear he
       repeat ((fail_if_success (with_reducible (show wpList _ _ _ _ _ _))); go_step)
       (refine wpList_step (fun K hK => ?_); go_simp; (try go_bits); refine hK _ _ ?_; clear hK K)
       refine wpList_nil ?_
       repeat ((fail_if_success (with_reducible (show wpList _ _ _ _ _ _))); go_step)
       iterate 2 (refine wpList_step (fun K hK => ?_); go_simp; (try go_bits); refine hK _ _ ?_; clear hK K)
       refine wpList_nil ?_
       repeat ((fail_if_success (with_reducible (show wpList _ _ _ _ _ _))); go_step)
       iterate 14 (refine wpList_step (fun K hK => ?_); go_simp; (try go_bits); refine hK _ _ ?_; clear hK K)
       have kq := M2.out.set (k) ((y : Int)); rw [qcQ v k _ Hup.out] at kq; clear M2; have M2 := Lib.hid kq; clear kq
       have kq := MR.out.other ⟨w.heap.size, k, none⟩ (.int .u8 ((y : Int))) (by simp <;> omega); clear MR; have MR := Lib.hid kq; clear kq
       have kq := MP.out.other ⟨w.heap.size, k, none⟩ (.int .u8 ((y : Int))) (by simp <;> omega); clear MP; have MP := Lib.hid kq; clear kq
       have kq := MD.out.other ⟨w.heap.size, k, none⟩ (.int .u8 ((y : Int))) (by simp <;> omega); clear MD; have MD := Lib.hid kq; clear kq
       replace HB := Lib.hid (HB.out.setCell (p := ⟨w.heap.size, k, none⟩) (show w.heap.size ≤ w.heap.size by omega) (.int .u8 ((y : Int))))
       obtain ⟨yw601, hwyw601⟩ : ∃ ww, ww = wr.setCell ⟨w.heap.size, k, none⟩ (.int .u8 ((y : Int))) := ⟨_, rfl⟩
       rw [← hwyw601] at MR MP M2 MD HB ⊢
       clear hwyw601
       refine wpList_nil ?_
       clear hc1 hcw hfz hpc hwx hwx2 hm1 hm2 hq1 hq2
       repeat ((fail_if_success (with_reducible (show wpList _ _ _ _ _ _))); go_step)
       iterate 2 (refine wpList_step (fun K hK => ?_); go_simp; (try go_bits); refine hK _ _ ?_; clear hK K)
       refine wpList_nil ?_
       go_roundw
       case measure => simp [RowKit.intOf]; omega
       case rel => (repeat apply Exists.intro); exact ⟨⟨k + 1, by omega, by go_num, MR.out, MP.out, M2.out, MD.out, HB.out⟩, rfl⟩
     · have hm1 : (k : Int).tmod 2 = 1 := by rw [Int.tmod_eq_emod_of_nonneg (by omega)]; omega
       have hm2 : (k : Int) % 2 = 1 := by omega
       have hk2 : k = 2 * j + 1 := by omega
       obtain ⟨y, hy⟩ : ∃ y, y = x / 256 := ⟨_, rfl⟩
       have hwx2 : (x : Int) / 256 = (y : Int) := by omega
       have hwx : IntKind.u8.wrap (y : Int) = (y : Int) := by rw [IntKind.wrap_u8]; omega
       have hwx3 : (y : Int) % 256 = (y : Int) := by omega
       have hup : (y : Int) = dg 256 v k := by rw [Qf, hk2]; omega
       clear hj hy hdt hk2
       have Hx := Lib.hid hx; clear hx
       have Hup := Lib.hid hup; clear hup
       have He := Lib.hid he; clear he
       repeat ((fail_if_success (with_reducible (show wpList _ _ _ _ _ _))); go_step)
       (refine wpList_step (fun K hK => ?_); go_simp; (try go_bits); refine hK _ _ ?_; clear hK K)
       refine wpList_nil ?_
       repeat ((fail_if_success (with_reducible (show wpList _ _ _ _ _ _))); go_step)
       iterate 2 (refine wpList_step (fun K hK => ?_); go_simp; (try go_bits); refine hK _ _ ?_; clear hK K)
       refine wpList_nil ?_
       repeat ((fail_if_success (with_reducible (show wpList _ _ _ _ _ _))); go_step)
       iterate 14 (refine wpList_step (fun K hK => ?_); go_simp; (try go_bits); refine hK _ _ ?_; clear hK K)
       have kq := M2.out.set (k) ((y : Int)); rw [qcQ v k _ Hup.out] at kq; clear M2; have M2 := Lib.hid kq; clear kq
       have kq := MR.out.other ⟨w.heap.size, k, none⟩ (.int .u8 ((y : Int))) (by simp <;> omega); clear MR; have MR := Lib.hid kq; clear kq
       have kq := MP.out.other ⟨w.heap.size, k, none⟩ (.int .u8 ((y : Int))) (by simp <;> omega); clear MP; have MP := Lib.hid kq; clear kq
       have kq := MD.out.other ⟨w.heap.size, k, none⟩ (.int .u8 ((y : Int))) (by simp <;> omega); clear MD; have MD := Lib.hid kq; clear kq
       replace HB := Lib.hid (HB.out.setCell (p := ⟨w.heap.size, k, none⟩) (show w.heap.size ≤ w.heap.size by omega) (.int .u8 ((y : Int))))
       obtain ⟨yw601, hwyw601⟩ : ∃ ww, ww = wr.setCell ⟨w.heap.size, k, none⟩ (.int .u8 ((y : Int))) := ⟨_, rfl⟩
       rw [← hwyw601] at MR MP M2 MD HB ⊢
       clear hwyw601
       refine wpList_nil ?_
       clear hc1 hcw hfz hpc hwx hwx2 hwx3 hm1 hm2 hq1 hq2
       repeat ((fail_if_success (with_reducible (show wpList _ _ _ _ _ _))); go_step)
       iterate 2 (refine wpList_step (fun K hK => ?_); go_simp; (try go_bits); refine hK _ _ ?_; clear hK K)
       refine wpList_nil ?_
       go_roundw
       case measure => simp [RowKit.intOf]; omega
       case rel => (repeat apply Exists.intro); exact ⟨⟨k + 1, by omega, by go_num, MR.out, MP.out, M2.out, MD.out, HB.out⟩, rfl⟩
   · have hk32 : k = 32 := by omega
     subst hk32
     clear hk hge
     rw [mixb_32] at M2
     repeat ((fail_if_success (with_reducible (show wpList _ _ _ _ _ _))); go_step)
     (refine wpList_step (fun K hK => ?_); go_simp; (try go_bits); refine hK _ _ ?_; clear hK K)
     refine wpList_nil ?_
     repeat ((fail_if_success (with_reducible (show wpList _ _ _ _ _ _))); go_step)
     refine qv (by rfl) 36 _ rfl (w.heap.size) rfl 36 (k32 v) M2.out Tryz.underlying36 rfl (by rw [qg]; kernel_rfl) 39 rfl ?_
     (try simp only [Act.put, sI, sS, sZ])
     first | (obtain ⟨Zq, hZ, mZ⟩ := M2.out) | (obtain ⟨Zq, hZ, mZ⟩ := M2.out.toN (qg ..))
     refine ql (by rfl) 36 _ _ rfl rfl (w.heap.size) (k32 v) rfl rfl 36 Zq mZ (by rw [qg]; kernel_rfl) (hZ.trans (qg ..).symm) (qo _ _ _) ?_
     intro yw601 hw2
     replace MR := Lib.hid (MR.out.setRow_other (w.heap.size) (k32 v) (by omega))
     replace MP := Lib.hid (MP.out.setRow_other (w.heap.size) (k32 v) (by omega))
     replace MD := Lib.hid (MD.out.setRow_other (w.heap.size) (k32 v) (by omega))
     replace M2 := Lib.hid (mZ.setRow (k32 v))
     replace HB := Lib.hid (below_setRow HB.out (w.heap.size) (k32 v) (by omega))
     rw [← hw2] at MR MP MD M2 HB; clear mZ hZ hw2
     refine wpList_nil ?_
     repeat ((fail_if_success (with_reducible (show wpList _ _ _ _ _ _))); go_step)
     refine ⟨by simp, .inl ⟨_, _, rfl, run_takeDeferred MD.out, ?_⟩⟩
     have m2' : Has (World.putObj yw601 uw1.heap.size (.deferred none)) w.heap.size (k32 v) 36 := (World.putObj_heap_other (by omega)).trans M2.out
     have hBD : Below w.heap.size w (World.putObj yw601 uw1.heap.size (.deferred none)) := HB.out.trans (belowK_b (w := w) (Nat.le_refl _) _ _ _ _ hsz MD.out rfl rfl)
     exact ⟨.agg (k32 v), results_cell_row (t := 36) (by rfl) _ _ (w.heap.size) _ _ _ rfl m2' Tryz.underlying36 rfl (by rw [qg]; kernel_rfl), by rw [Hv.out], hBD⟩
end
section
open Go.RowKit Go.Lib
theorem ent254 : _root_.Go.Enters Tryz.prog 254 := ⟨_, Tryz.func254, by kernel_rfl, by kernel_rfl⟩
theorem ent162 : _root_.Go.Enters Tryz.prog 162 := ⟨_, Tryz.func162, by kernel_rfl, by kernel_rfl⟩
theorem dgs (n K len : Nat) (h : n < 256 ^ len) (hK : K = (len + 1) / 2) : n < 65536 ^ K := by
 subst hK
 refine Nat.lt_of_lt_of_le h ?_
 rw [show (65536 : Nat) = 256 ^ 2 by decide, ← Nat.pow_mul]
 exact Nat.pow_le_pow_right (by decide) (by omega)
theorem residue_any (a : Option Addr) (len cap n : Nat) (hlen : len ≤ 64) (hn : n < 256 ^ len) (w : World) (hb : Byts w a len n) :
 Calls Tryz.prog 220 #[.slice a len cap] w fun e w' => e = .returned (.tuple #[.agg (k32 (n % L0)), .bool true]) ∧ Below w.heap.size w w' := by
 have hc : (len : Int) ≤ 64 := by omega
 obtain ⟨K, hK⟩ : ∃ K, K = (len + 1) / 2 := ⟨_, rfl⟩
 have hnK := dgs n K len hn hK
 have hK1 : K ≤ 1000 := by omega
 have hfi := fun w h => qbU a len cap n (by omega) hn w h
 have hdi := fun F w h => divide_any F K K n hK1 hnK w h
 simp only [← hK] at hfi
 have MB := Lib.hid hb
 clear hK hnK hn hb
 have Hfi := Lib.hid hfi; clear hfi
 have Hdi := Lib.hid hdi; clear hdi
 go_enter Tryz.func220, Tryz.ntmps220
 repeat ((fail_if_success (with_reducible (show wpList _ _ _ _ _ _))); go_step)
 iterate 2 (refine wpList_step (fun K hK => ?_); go_simp; (try go_bits); refine hK _ _ ?_; clear hK K)
 refine wpList_nil ?_
 have M2 := Lib.hid (HasN.new w  (#[.int .u8 0, .int .u8 0, .int .u8 0, .int .u8 0, .int .u8 0, .int .u8 0, .int .u8 0, .int .u8 0, .int .u8 0, .int .u8 0, .int .u8 0, .int .u8 0, .int .u8 0, .int .u8 0, .int .u8 0, .int .u8 0, .int .u8 0, .int .u8 0, .int .u8 0, .int .u8 0, .int .u8 0, .int .u8 0, .int .u8 0, .int .u8 0, .int .u8 0, .int .u8 0, .int .u8 0, .int .u8 0, .int .u8 0, .int .u8 0, .int .u8 0, .int .u8 0] : Array Value) 36 32 (by kernel_rfl))
 have HB := Lib.hid (q8 w (.cells (#[.int .u8 0, .int .u8 0, .int .u8 0, .int .u8 0, .int .u8 0, .int .u8 0, .int .u8 0, .int .u8 0, .int .u8 0, .int .u8 0, .int .u8 0, .int .u8 0, .int .u8 0, .int .u8 0, .int .u8 0, .int .u8 0, .int .u8 0, .int .u8 0, .int .u8 0, .int .u8 0, .int .u8 0, .int .u8 0, .int .u8 0, .int .u8 0, .int .u8 0, .int .u8 0, .int .u8 0, .int .u8 0, .int .u8 0, .int .u8 0, .int .u8 0, .int .u8 0] : Array Value) 36))
 obtain ⟨yw1, hwyw1⟩ : ∃ ww, ww = (w.alloc (.cells (#[.int .u8 0, .int .u8 0, .int .u8 0, .int .u8 0, .int .u8 0, .int .u8 0, .int .u8 0, .int .u8 0, .int .u8 0, .int .u8 0, .int .u8 0, .int .u8 0, .int .u8 0, .int .u8 0, .int .u8 0, .int .u8 0, .int .u8 0, .int .u8 0, .int .u8 0, .int .u8 0, .int .u8 0, .int .u8 0, .int .u8 0, .int .u8 0, .int .u8 0, .int .u8 0, .int .u8 0, .int .u8 0, .int .u8 0, .int .u8 0, .int .u8 0, .int .u8 0] : Array Value) 36)) := ⟨_, rfl⟩
 rw [← hwyw1] at M2 HB ⊢
 clear hwyw1
 replace MB := Lib.hid (MB.out.call HB.out)
 repeat ((fail_if_success (with_reducible (show wpList _ _ _ _ _ _))); go_step)
 iterate 3 (refine wpList_step (fun K hK => ?_); go_simp; (try go_bits); refine hK _ _ ?_; clear hK K)
 refine wpList_nil ?_
 repeat ((fail_if_success (with_reducible (show wpList _ _ _ _ _ _))); go_step)
 (refine wpList_step (fun K hK => ?_); go_simp; (try go_bits); refine hK _ _ ?_; clear hK K)
 refine qm (by rfl) rfl rfl (by rfl) ent162 (by rfl) (Hfi.out _ MB.out) 9 rfl ?_
 rintro e uw1 ⟨⟨F, hF, rfl, mF⟩, hb⟩
 replace M2 := Lib.hid (M2.out.call hb)
 replace MB := Lib.hid (MB.out.call hb)
 replace HB := Lib.hid (qf HB.out hb)
 have hfg := Lib.hid (Has.figs mF); clear mF
 refine ⟨_, rfl, ?_⟩
 clear hb
 (try simp only [Act.put, sI, sS, sZ])
 clear MB
 refine qm (by rfl) rfl rfl (by rfl) ent254 (by rfl) (Hdi.out F _ hfg.out) 10 rfl ?_
 rintro e uw2 ⟨rfl, hb⟩
 replace M2 := Lib.hid (M2.out.call hb)
 replace HB := Lib.hid (qf HB.out hb)
 clear hfg
 refine ⟨_, rfl, ?_⟩
 clear hb
 (try simp only [Act.put, sI, sS, sZ])
 first | (obtain ⟨Zq, hZ, mZ⟩ := M2.out) | (obtain ⟨Zq, hZ, mZ⟩ := M2.out.toN (qg ..))
 refine ql (by rfl) 36 _ _ rfl rfl (w.heap.size) (k32 (n % L0)) rfl rfl 36 Zq mZ (by rw [qg]; kernel_rfl) (hZ.trans (qg ..).symm) (qo _ _ _) ?_
 intro yw2 hw2
 replace M2 := Lib.hid (mZ.setRow (k32 (n % L0)))
 replace HB := Lib.hid (below_setRow HB.out (w.heap.size) (k32 (n % L0)) (by omega))
 rw [← hw2] at M2 HB; clear mZ hZ hw2
 (refine wpList_step (fun K hK => ?_); go_simp; (try go_bits); refine hK _ _ ?_; clear hK K)
 refine wpList_nil ?_
 go_wp2_with fail
 exact bodyPost_ret (v := .tuple #[.agg (k32 (n % L0)), .bool true]) (QK (fn := Tryz.f220) (p := 2) (t2 := 3) (ty := 36) (t := 36) (by rfl) _ _ (w.heap.size) _ _ _ rfl M2.out Tryz.underlying36 rfl (by rw [qg]; kernel_rfl)) rfl ⟨rfl, HB.out⟩
theorem splice17 (n : Nat) (hn : n < 65536 ^ 16) : (splice (r17 0).toList 0 (ze .u32 16 (dg 65536 n))).toArray = r17 n := by
 have e : (r17 0).toList = ze .u32 17 (dg 65536 0) := rfl
 unfold splice
 rw [e]
 apply Array.ext'
 show List.take 0 (ze .u32 17 (dg 65536 0)) ++ (ze .u32 16 (dg 65536 n) ++ List.drop (0 + (ze .u32 16 (dg 65536 n)).length) (ze .u32 17 (dg 65536 0))) = ze .u32 17 (dg 65536 n)
 rw [zQ]
 have h16 : dg 65536 n 16 = 0 := by unfold dg; rw [Nat.div_eq_of_lt hn]; rfl
 have h0 : dg 65536 0 16 = 0 := by unfold dg; rw [Nat.zero_div]; rfl
 have e2 : ∀ f : Nat → Int, List.drop 16 (ze .u32 17 f) = [Value.int .u32 (f 16)] := fun _ => rfl
 have e3 : ∀ f : Nat → Int, ze .u32 17 f = ze .u32 16 f ++ [Value.int .u32 (f 16)] := fun _ => rfl
 rw [Nat.zero_add, e2, e3 (dg 65536 n), h16, h0]
 rfl
theorem p256_32 : (256 : Nat) ^ 32 = 115792089237316195423570985008687907853269984665640564039457584007913129639936 := by decide +kernel
theorem p256_16 : (65536 : Nat) ^ 16 = 115792089237316195423570985008687907853269984665640564039457584007913129639936 := by decide +kernel
theorem kleast_any (n : Nat) (hn : n < 115792089237316195423570985008687907853269984665640564039457584007913129639936) (w : World) :
 Calls Tryz.prog 120 #[.agg (k32 n)] w fun e w' => e = .returned (.bool (decide (n < L0))) ∧ Below w.heap.size w w' := by
 have hn16 : n < 65536 ^ 16 := by rw [p256_16]; exact hn
 have hn32 : n < 256 ^ 32 := by rw [p256_32]; exact hn
 have hn17 : n < 65536 ^ 17 := Nat.lt_of_lt_of_le hn16 (Nat.pow_le_pow_right (by decide) (by decide))
 have hfi := fun a w h => qbU a 32 32 n (by decide) hn32 w h
 have hal := fun R w h => qbY R n hn17 w h
 have hdec : (!decide (L0 ≤ n)) = decide (n < L0) := by
  by_cases h : L0 ≤ n
  · rw [decide_eq_true h, decide_eq_false (by omega)]; rfl
  · rw [decide_eq_false h, decide_eq_true (by omega)]; rfl
 have hsp := splice17 n hn16
 clear hn hn16 hn32 hn17
 obtain ⟨bb, hbb⟩ : ∃ b, b = decide (L0 ≤ n) := ⟨_, rfl⟩
 rw [← hbb] at hdec
 simp only [← hbb] at hal
 clear hbb
 have Hfi := Lib.hid hfi; clear hfi
 have Hal := Lib.hid hal; clear hal
 have Hdec := Lib.hid hdec; clear hdec
 have Hsp := Lib.hid hsp; clear hsp
 go_enter Tryz.func120, Tryz.ntmps120
 repeat ((fail_if_success (with_reducible (show wpList _ _ _ _ _ _))); go_step)
 iterate 2 (refine wpList_step (fun K hK => ?_); go_simp; (try go_bits); refine hK _ _ ?_; clear hK K)
 refine wpList_nil ?_
 have M1 := Lib.hid (Has.new w  (k32 n) 36)
 have HB := Lib.hid (q8 w (.cells (k32 n) 36))
 obtain ⟨yw1, hwyw1⟩ : ∃ ww, ww = (w.alloc (.cells (k32 n) 36)) := ⟨_, rfl⟩
 rw [← hwyw1] at M1 HB ⊢
 clear hwyw1
 repeat ((fail_if_success (with_reducible (show wpList _ _ _ _ _ _))); go_step)
 refine Qw (by rfl) 237 _ rfl _ (by rfl) (r17 0) (bd93z) 4 rfl ?_
 (try simp only [Act.put, sI, sS, sZ])
 have gR := M1.out.lt
 refine wpList_step (fun K hK => ?_)
 go_simp
 refine hK _ _ ?_
 clear hK K
 have hb := q8 yw1 (.cells (r17 0) 237)
 have nwMR := Has.new yw1 (r17 0) 237
 obtain ⟨yw2, hwyw2⟩ : ∃ ww, ww = yw1.alloc (.cells (r17 0) 237) := ⟨_, rfl⟩
 rw [← hwyw2] at hb nwMR ⊢
 clear hwyw2
 replace M1 := Lib.hid (M1.out.call hb)
 replace HB := Lib.hid (qf HB.out hb)
 clear hb
 have MR := Lib.hid nwMR; clear nwMR
 (try simp only [Act.put, sI, sS, sZ])
 (refine wpList_step (fun K hK => ?_); go_simp; (try go_bits); refine hK _ _ ?_; clear hK K)
 refine wpList_nil ?_
 repeat ((fail_if_success (with_reducible (show wpList _ _ _ _ _ _))); go_step)
 refine wp_region_noPanic ?_
 refine Qn (fun _ => True) 99 6 #[ff,ff,ff,ff,ff,ff] (by kernel_rfl) rfl rfl ?_
 replace M1 := Lib.hid (M1.out.drew)
 replace MR := Lib.hid (MR.out.drew)
 replace HB := Lib.hid (qT HB.out 1)
 obtain ⟨yw3, hwyw3⟩ : ∃ ww, ww = yw2.drew := ⟨_, rfl⟩
 rw [← hwyw3] at M1 MR ⊢
 have kq : Below w.heap.size w yw3 := by rw [hwyw3]; exact HB.out
 clear HB; have HB := Lib.hid kq; clear kq hwyw3
 refine qi 0 6 #[tt,ff,ff,ff,ff,ff] (v := ?uv1) rfl rfl rfl (by kernel_rfl) (Or.inl ⟨by rfl, ?uy1⟩) (trivial) ?urest1
 case uy1 => (intro _ _; go_simp; try with_reducible rfl)
 (try simp only [sI, sS, sZ])
 refine qi 1 7 #[tt,tt,ff,ff,ff,ff] (v := ?uv2) rfl rfl rfl (by kernel_rfl) (Or.inl ⟨by rfl, ?uy2⟩) (trivial) ?urest2
 case uy2 => (intro _ _; go_simp; try with_reducible rfl)
 (try simp only [sI, sS, sZ])
 refine qi 2 8 #[tt,tt,tt,ff,ff,ff] (v := ?uv3) rfl rfl rfl (by kernel_rfl) (Or.inl ⟨by rfl, ?uy3⟩) (trivial) ?urest3
 case uy3 => (intro _ _; go_simp; try with_reducible rfl)
 (try simp only [sI, sS, sZ])
 refine qi 3 9 #[tt,tt,tt,tt,ff,ff] (v := ?uv4) rfl rfl rfl (by kernel_rfl) (Or.inl ⟨by rfl, ?uy4⟩) (trivial) ?urest4
 case uy4 => (intro _ _; go_simp; try with_reducible rfl)
 (try simp only [sI, sS, sZ])
 refine qq (i := 4) (by kernel_rfl) ?_
 refine qM 4 10 #[tt,tt,tt,tt,tt,ff] rfl rfl rfl (by rfl) rfl rfl (by rfl) ent162 (by rfl) (Hfi.out _ _ M1.out.byts) ?_
 rintro e uw1 ⟨⟨F, hF, rfl, mF⟩, hb⟩
 replace M1 := Lib.hid (M1.out.call hb)
 replace MR := Lib.hid (MR.out.call hb)
 replace HB := Lib.hid (qf HB.out hb)
 have MF := Lib.hid (Has.figs mF); clear mF
 refine ⟨_, rfl, fun _ => trivial, ?_⟩
 clear hb
 (try simp only [sI, sS, sZ])
 refine qq (i := 5) (by kernel_rfl) ?_
 refine go_any 5 #[tt,tt,tt,tt,tt,tt] rfl rfl (fun K hK => ?_)
 refine step_copy_splice rfl (.tmp 8) (.tmp 10) 208 208 rfl 127 Tryz.underlying208 (by kernel_rfl) _ _ 17 17 16 16 rfl rfl (yw1.heap.size) 0 (r17 0).toList 237 (by rw [Array.toArray_toList]; exact MR.out) (ze .u32 16 (dg 65536 n)) (by rw [zQ]; rfl) (fun _ => ⟨rfl, _, rfl, fun j v hv => ?_⟩) (by rw [zQ]; simp [zA]) (Zl _ _ _) (yw1.heap.size) uw1 (Below.refl _ _) (Nat.le_refl _) ?_
 · have hj : j < 16 := by have := (List.getElem?_eq_some_iff.1 hv).1; rwa [zQ] at this
   have h2 := MF.out.2 j hj
   have h3 : (ze .u32 16 (dg 65536 n))[j]? = some (.int .u32 (dg 65536 n j)) := by simp [ze, hj]
   rw [h3] at hv
   obtain rfl := Option.some.inj hv
   show _ = _
   rw [Addr.add_mid, Nat.zero_add]; exact h2
 · intro w4 hg4 hb4
   rw [Hsp.out] at hg4
   replace MR := Lib.hid (show Has w4 yw1.heap.size (r17 n) 237 from hg4.out)
   replace HB := Lib.hid (HB.out.trans (hb4.mono (by omega)))
   clear hg4 hb4 M1 MF
   refine hK.out _ _ (fun _ => trivial) ?_
   clear hK K
   (try simp only [Act.put, sI, sS, sZ])
   refine qD (by kernel_rfl) (NoPanic.normal ?_)
   repeat ((fail_if_success (with_reducible (show wpList _ _ _ _ _ _))); go_step)
   have hdec := Hdec.out
   (refine wpList_step (fun K hK => ?_); go_simp; (try go_bits); refine hK _ _ ?_; clear hK K)
   refine qm (by rfl) rfl rfl (by rfl) ent163 (by rfl) (Hal.out _ _ MR.out) 13 rfl ?_
   rintro e uw2 ⟨rfl, hb⟩
   replace MR := Lib.hid (MR.out.call hb)
   replace HB := Lib.hid (qf HB.out hb)
   refine ⟨_, rfl, ?_⟩
   clear hb
   (try simp only [Act.put, sI, sS, sZ])
   iterate 2 (refine wpList_step (fun K hK => ?_); go_simp; (try go_bits); refine hK _ _ ?_; clear hK K)
   refine wpList_nil ?_
   go_wp2_with fail
   go_ret
   exact ⟨rfl, HB.out⟩
end
section
open Go.RowKit Go.Sx
def leN : List UInt8 → Nat
 | [] => 0
 | b :: l => b.toNat + 256 * leN l
theorem qbB (l : List UInt8) : leN l < 256 ^ l.length := by
 induction l with
 | nil => decide
 | cons b l ih =>
  have := b.toNat_lt
  rw [leN, List.length_cons, Nat.pow_succ]; omega
theorem leN_dg (l : List UInt8) : ∀ i, i < l.length → dg 256 (leN l) i = ((l.getD i 0).toNat : Int) := by
 induction l with
 | nil => intro i hi; cases hi
 | cons b l ih =>
  intro i hi
  have hb := b.toNat_lt
  cases i with
  | zero => unfold dg leN; rw [Nat.pow_zero, Nat.div_one]; simp
  | succ i =>
   have := ih i (by simpa using hi)
   unfold dg at this ⊢
   rw [leN, Nat.pow_succ, Nat.mul_comm (256 ^ i), ← Nat.div_div_eq_div_mul, show (b.toNat + 256 * leN l) / 256 = leN l by omega]
   rw [this]; simp
def qU (n : Nat) : List UInt8 := (List.range 32).map fun i => UInt8.ofNat (n / 256 ^ i % 256)
theorem qC (n : Nat) : (qU n).length = 32 := by simp [qU]
theorem qaN (n : Nat) : k32 n = (Lib.byteCells (qU n)).toArray := by
 unfold k32 row
 congr 1
 unfold ze Lib.byteCells qU
 rw [List.map_map]
 apply List.map_congr_left
 intro i hi
 simp [dg]
theorem leN_inj (l m : List UInt8) (hl : l.length = m.length) (h : leN l = leN m) : l = m := by
 refine List.ext_getElem hl fun i h1 h2 => ?_
 have e1 := leN_dg l i h1
 have e2 := leN_dg m i h2
 rw [h, e2] at e1
 simp only [List.getD, List.getElem?_eq_getElem h1, List.getElem?_eq_getElem h2, Option.getD_some] at e1
 exact UInt8.toNat_inj.1 (by omega)
theorem Zw (l : List UInt8) (h : l.length = 32) : (Lib.byteCells l).toArray = k32 (leN l) := by
 rw [qaN]
 congr 2
 refine List.ext_getElem (by rw [h, qC]) fun i h1 h2 => ?_
 have e := leN_dg l i h1
 unfold dg at e
 have e' : leN l / 256 ^ i % 256 = (l.getD i 0).toNat := by omega
 simp only [qU, List.getElem_map, List.getElem_range, e']
 simp [List.getD, h1]
theorem byts_of {w : World} {v : Value} {l : List UInt8} (h : Rd w v (Lib.byteCells l)) : ∃ a c, v = .slice a l.length c ∧ Byts w a l.length (leN l) := by
 obtain ⟨a, c, hv, h⟩ := h
 rw [Lib.byteCells_length] at hv
 refine ⟨a, c, hv, ?_⟩
 by_cases hl : l = []
 · left; rw [hl]; rfl
 · right
   obtain ⟨b, o, h1, h2, h3⟩ := h (by intro e; apply hl; have := congrArg List.length e; rw [Lib.byteCells_length] at this; exact List.eq_nil_of_length_eq_zero this)
   refine ⟨b, o, h1, h2, fun i hi => ?_⟩
   rw [h3 i _ (qbX l i hi), leN_dg l i hi]
def Parts (w : World) (v : Value) (bs : List UInt8) : Prop := ∃ (pb po kc : Nat) (vs : List Value) (xss : List (List Value)), v = .slice (some ⟨pb, po, none⟩) xss.length kc ∧ xss.flatten = Lib.byteCells bs ∧ vs.length = xss.length ∧ pb < w.heap.size ∧
 (∀ (i : Nat) (u : Value), vs[i]? = some u → w.cell? ⟨pb, po + i, none⟩ = some u) ∧ (∀ (i : Nat) (v : Value) (xs : List Value), vs[i]? = some v → xss[i]? = some xs → Rd w v xs) ∧ xss.length ≤ 1000
theorem Parts.below {w w' : World} {v : Value} {bs : List UInt8} (h : Parts w v bs) (hb : Below w.heap.size w w') : Parts w' v bs := by
 obtain ⟨pb, po, kc, vs, xss, h1, h2, h3, h4, h5, h6, h7⟩ := h
 exact ⟨pb, po, kc, vs, xss, h1, h2, h3, Nat.lt_of_lt_of_le h4 hb.size, fun i u hu => (hb.cell (p := ⟨pb, po + i, none⟩) h4).trans (h5 i u hu), fun i v xs hv hx => (h6 i v xs hv hx).below hb, h7⟩
theorem Parts.made {M : Bks} {B w : World} {L : List Ent} (hs : St M B w L) (k : Nat) {b : Nat} {vs : List Value} {t : TypeId} (xss : List (List Value)) {bs : List UInt8} (n : Nat) (hk : L[k]? = some (cl b vs.toArray t)) (hn : xss.length = n) (hl : vs.length = xss.length) (hx : xss.flatten = Lib.byteCells bs)
 (hr : ∀ (i : Nat) (v : Value) (xs : List Value), vs[i]? = some v → xss[i]? = some xs → Rd w v xs) (h7 : xss.length ≤ 1000) : Parts w (.slice (some ⟨b, 0, none⟩) n n) bs := by
 subst hn
 refine ⟨b, 0, xss.length, vs, xss, rfl, hx, hl, hs.lt (List.mem_of_getElem? hk) rfl, fun i u hu => ?_, hr, h7⟩
 rw [hs.cell hk, Nat.zero_add]; simpa using hu
theorem long_p {w : World} {v : Value} {bs : List UInt8} (h : Parts w v bs) (hn : bs.length ≤ 1000000) : Calls Tryz.prog 219 ([v] : List Value).toArray w fun e w' => e = .returned (qcn (zE bs)) ∧ Below w.heap.size w w' := by
 obtain ⟨pb, po, kc, vs, xss, rfl, h2, h3, h4, h5, h6, h7⟩ := h
 exact long_any pb po kc vs xss bs h2 h3 w h4 h5 h6 hn h7
theorem concat_p {w : World} {v : Value} {bs : List UInt8} (h : Parts w v bs) (hn : bs.length ≤ 1000000) : Calls Tryz.prog 122 ([v] : List Value).toArray w fun e w' => ∃ r, e = .returned (sv r bs.length) ∧ Rw 1 bs.length r (Lib.byteCells bs) ∧ qbp w w' r (Lib.byteCells bs) 5 ∧ Below w.heap.size w w' := by
 obtain ⟨pb, po, kc, vs, xss, rfl, h2, h3, h4, h5, h6, h7⟩ := h
 have := qc5 pb po kc vs xss h3 w h4 h5 h6 (fun xs hxs u hu => by
  have : u ∈ xss.flatten := List.mem_flatten.2 ⟨xs, hxs, hu⟩
  rw [h2] at this
  simp only [Lib.byteCells, List.mem_map] at this
  obtain ⟨_, _, rfl⟩ := this; rfl) (by rw [h2, Lib.byteCells_length]; omega) h7
 rwa [h2, Lib.byteCells_length] at this
end
end Go.Proofs.YtbgefoamhdgnaaaGreatDoor
namespace Go.Proofs.YtbgefoamhdgnaaaGreatDoor.Nm
section
def pm (m : Nat) : Nat → Nat → Nat → Nat
 | 0, _, _ => 1 % m
 | f + 1, b, e => if e % 2 = 1 then pm m f (b * b % m) (e / 2) * b % m else pm m f (b * b % m) (e / 2)
theorem zJ (b m e : Nat) : (b % m) ^ e % m = b ^ e % m := (Nat.pow_mod b e m).symm
theorem pm_eq (m f : Nat) : ∀ b e, e < 2 ^ f → pm m f b e = b ^ e % m := by
 induction f with
 | zero => intro b e h; have : e = 0 := by simpa using h
           subst this; simp [pm]
 | succ f ih =>
  intro b e h
  have h2 : e / 2 < 2 ^ f := by rw [Nat.pow_succ] at h; omega
  have e1 : (b * b % m) ^ (e / 2) % m = b ^ (2 * (e / 2)) % m := by
   rw [zJ, Nat.pow_mul, Nat.pow_two]
  unfold pm
  rw [ih _ _ h2, e1]
  split
  · rename_i ho
    have : e = 2 * (e / 2) + 1 := by omega
    conv => rhs; rw [this, Nat.pow_succ]
    rw [Nat.mod_mul_mod]
  · rename_i ho
    have : e = 2 * (e / 2) := by omega
    conv => rhs; rw [this]
def Pr (q : Nat) : Prop := 1 < q ∧ ∀ a b, q ∣ a * b → q ∣ a ∨ q ∣ b
theorem pr_of_divs {q : Nat} (h1 : 1 < q) (h : ∀ d, d ∣ q → d = 1 ∨ d = q) : Pr q := by
 refine ⟨h1, fun a b hab => ?_⟩
 rcases h (Nat.gcd q a) (Nat.gcd_dvd_left q a) with hg | hg
 · exact Or.inr (Nat.Coprime.dvd_of_dvd_mul_left hg hab)
 · exact Or.inl (hg ▸ Nat.gcd_dvd_right q a)
theorem Pr.divs {q : Nat} (h : Pr q) {d : Nat} (hd : d ∣ q) : d = 1 ∨ d = q := by
 obtain ⟨h1, h⟩ := h
 obtain ⟨e, he⟩ := hd
 have h0 : q ∣ d * e := he ▸ Nat.dvd_refl q
 rcases h d e h0 with hh | hh
 · right; exact Nat.dvd_antisymm ⟨e, he⟩ hh
 · left
   have : e = q := Nat.dvd_antisymm ⟨d, by rw [he, Nat.mul_comm]⟩ hh
   subst this
   have : d * e = 1 * e := by omega
   exact Nat.eq_of_mul_eq_mul_right (by omega) this
def noDiv (n : Nat) : Nat → Nat → Bool
 | 0, _ => true
 | f + 1, d => n % d != 0 && noDiv n f (d + 1)
theorem noDiv_spec (n : Nat) : ∀ f d, noDiv n f d = true → ∀ k, d ≤ k → k < d + f → ¬ k ∣ n := by
 intro f
 induction f with
 | zero => intro d _ k h1 h2; omega
 | succ f ih =>
  intro d h k h1 h2
  simp only [noDiv, Bool.and_eq_true, bne_iff_ne] at h
  by_cases hk : k = d
  · subst hk; intro hd; exact h.1 (Nat.mod_eq_zero_of_dvd hd)
  · exact ih (d + 1) h.2 k (by omega) (by omega)
theorem qR {n f : Nat} (h1 : 1 < n) (hf : n < (f + 2) * (f + 2)) (h : noDiv n f 2 = true) : Pr n := by
 have key := noDiv_spec n f 2 h
 refine pr_of_divs h1 fun d hd => ?_
 obtain ⟨e, he⟩ := hd
 have he0 : 0 < e := by
  rcases Nat.eq_zero_or_pos e with h0 | h0
  · subst h0; omega
  · exact h0
 have hd0 : 0 < d := by
  rcases Nat.eq_zero_or_pos d with h0 | h0
  · subst h0; omega
  · exact h0
 by_cases hd1 : d = 1
 · exact Or.inl hd1
 by_cases he1 : e = 1
 · right; subst he1; omega
 exfalso
 by_cases hdl : d < f + 2
 · exact key d (by omega) (by omega) ⟨e, he⟩
 · by_cases hel : e < f + 2
   · exact key e (by omega) (by omega) ⟨d, by rw [he, Nat.mul_comm]⟩
   · have : (f + 2) * (f + 2) ≤ d * e := Nat.mul_le_mul (by omega) (by omega)
     omega
def prod : List Nat → Nat
 | [] => 1
 | q :: l => q * prod l
theorem qdm (l : List Nat) (hl : ∀ q ∈ l, Pr q) (k : Nat) (hk : k ∣ prod l) (h1 : k ≠ 1) : ∃ q ∈ l, q ∣ k := by
 induction l generalizing k with
 | nil => exact absurd (Nat.dvd_one.1 hk) h1
 | cons q l ih =>
  rcases (hl q (by simp)).divs (Nat.gcd_dvd_right k q) with hg | hg
  · have : k ∣ prod l := Nat.Coprime.dvd_of_dvd_mul_left hg hk
    obtain ⟨r, hr, hrk⟩ := ih (fun r hr => hl r (by simp [hr])) k this h1
    exact ⟨r, by simp [hr], hrk⟩
  · exact ⟨q, by simp, hg ▸ Nat.gcd_dvd_left k q⟩
theorem least_of (p : Nat → Prop) (n : Nat) (hn : p n) : ∃ m, p m ∧ ∀ k, k < m → ¬ p k := by
 induction n using Nat.strongRecOn with
 | _ n ih =>
  by_cases h : ∃ k, k < n ∧ p k
  · obtain ⟨k, hk, hpk⟩ := h
    exact ih k hk hpk
  · exact ⟨n, hn, fun k hk hp => h ⟨k, hk, hp⟩⟩
theorem pigeon (N : Nat) : ∀ f : Nat → Nat, (∀ i, i < N → f i < N) → (∀ i j, i < N → j < N → f i = f j → i = j) → ∀ y, y < N → ∃ i, i < N ∧ f i = y := by
 induction N with
 | zero => intro f _ _ y hy; omega
 | succ N ih =>
  intro f hr hi y hy
  have hr' : ∀ i, i < N → (if f i = N then f N else f i) < N := by
   intro i hiN
   split
   · rename_i h
     have h1 := hr N (by omega)
     have h2 : f N ≠ N := fun h3 => by have := hi i N (by omega) (by omega) (by omega); omega
     omega
   · have := hr i (by omega); omega
  have hi' : ∀ i j, i < N → j < N → (if f i = N then f N else f i) = (if f j = N then f N else f j) → i = j := by
   intro i j h1 h2 h
   split at h <;> split at h
   · exact hi i j (by omega) (by omega) (by omega)
   · have := hi N j (by omega) (by omega) h; omega
   · have := hi i N (by omega) (by omega) h; omega
   · exact hi i j (by omega) (by omega) h
  have H := ih (fun i => if f i = N then f N else f i) hr' hi'
  by_cases hv : y = f N
  · exact ⟨N, by omega, hv.symm⟩
  by_cases hyN : y = N
  · subst hyN
    have hfN : f y < y := by have := hr y (by omega); omega
    obtain ⟨i, hiN, he⟩ := H (f y) hfN
    split at he
    · exact ⟨i, by omega, by assumption⟩
    · have := hi i y (by omega) (by omega) he; omega
  · obtain ⟨i, hiN, he⟩ := H y (by omega)
    split at he
    · exact absurd he.symm hv
    · exact ⟨i, by omega, he⟩
theorem qcO {n x y : Nat} (h : x % n = 1) (h' : (x * y) % n = 1) : y % n = 1 := by
 have : (x % n * y) % n = 1 := by rw [Nat.mod_mul_mod]; exact h'
 rw [h, Nat.one_mul] at this
 exact this
structure Gen (n g : Nat) : Prop where
 one : 1 < n
 flt : g ^ (n - 1) % n = 1
 all : ∀ a, 0 < a → a < n → ∃ i, i < n - 1 ∧ g ^ i % n = a
theorem lucas {n g : Nat} (l : List Nat) (h1 : 1 < n) (hl : ∀ q ∈ l, Pr q) (hp : prod l = n - 1) (hg : g ^ (n - 1) % n = 1)
 (hq : ∀ q ∈ l, g ^ ((n - 1) / q) % n ≠ 1) : Gen n g := by
 -- the order
 obtain ⟨m, ⟨hm0, hm1⟩, hmin⟩ := least_of (fun m => 0 < m ∧ g ^ m % n = 1) (n - 1) ⟨by omega, hg⟩
 have hpowmul : ∀ k, g ^ (m * k) % n = 1 := by
  intro k
  rw [Nat.pow_mul, Nat.pow_mod, hm1, Nat.one_pow, Nat.mod_eq_of_lt h1]
 have hdiv : ∀ k, g ^ k % n = 1 → m ∣ k := by
  intro k hk
  have e1 : g ^ k = g ^ (m * (k / m)) * g ^ (k % m) := by rw [← Nat.pow_add, Nat.div_add_mod]
  have e2 : g ^ (k % m) % n = 1 := qcO (hpowmul (k / m)) (by rw [← e1]; exact hk)
  have hlt := Nat.mod_lt k hm0
  by_cases hz : k % m = 0
  · exact Nat.dvd_of_mod_eq_zero hz
  · exact absurd ⟨by omega, e2⟩ (hmin _ hlt)
 have hmn : m = n - 1 := by
  obtain ⟨k, hk⟩ := hdiv _ hg
  by_cases hk1 : k = 1
  · subst hk1; omega
  obtain ⟨q, hql, c, hc⟩ := qdm l hl k ⟨m, by rw [hp, hk, Nat.mul_comm]⟩ hk1
  exfalso
  have hq1 := (hl q hql).1
  have : (n - 1) / q = m * c := by
   rw [hk, hc, show m * (q * c) = q * (m * c) by ac_rfl]
   exact Nat.mul_div_cancel_left _ (by omega)
  exact hq q hql (by rw [this]; exact hpowmul c)
 subst hmn
 have hinv : ∀ i, i ≤ n - 1 → (g ^ i * g ^ (n - 1 - i)) % n = 1 := by
  intro i hi
  rw [← Nat.pow_add, show i + (n - 1 - i) = n - 1 by omega]; exact hg
 have hnz : ∀ i, i < n - 1 → 0 < g ^ i % n := by
  intro i hi
  rcases Nat.eq_zero_or_pos (g ^ i % n) with h0 | h0
  · have := hinv i (by omega)
    rw [← Nat.mod_mul_mod, h0, Nat.zero_mul, Nat.zero_mod] at this
    omega
  · exact h0
 have hinj : ∀ i j, i < j → j < n - 1 → g ^ i % n = g ^ j % n → False := by
  intro i j hij hj he
  have h2 : (g ^ j * g ^ (n - 1 - i)) % n = 1 := by
   rw [← Nat.mod_mul_mod, ← he, Nat.mod_mul_mod]; exact hinv i (by omega)
  have e1 : g ^ j * g ^ (n - 1 - i) = g ^ (n - 1) * g ^ (j - i) := by
   rw [← Nat.pow_add, ← Nat.pow_add]; congr 1; omega
  rw [e1] at h2
  exact hmin (j - i) (by omega) ⟨by omega, qcO hg h2⟩
 refine ⟨h1, hg, fun a ha0 han => ?_⟩
 obtain ⟨i, hi, he⟩ := pigeon (n - 1) (fun i => g ^ i % n - 1) (fun i hi => by
  have := hnz i hi; have := Nat.mod_lt (g ^ i) (show 0 < n by omega); omega) (fun i j hi hj h => by
  have h1 := hnz i hi
  have h2 := hnz j hj
  have h3 : g ^ i % n = g ^ j % n := by omega
  rcases Nat.lt_trichotomy i j with hh | hh | hh
  · exact (hinj i j hh hj h3).elim
  · exact hh
  · exact (hinj j i hh hi h3.symm).elim) (a - 1) (by omega)
 exact ⟨i, hi, by have := hnz i hi; omega⟩
theorem Gen.pr {n g : Nat} (h : Gen n g) : Pr n := by
 obtain ⟨h1, hg, hall⟩ := h
 refine ⟨h1, fun a b hab => ?_⟩
 by_cases ha : a % n = 0
 · exact Or.inl (Nat.dvd_of_mod_eq_zero ha)
 right
 obtain ⟨i, hi, he⟩ := hall (a % n) (by omega) (Nat.mod_lt _ (by omega))
 have hb : (g ^ (n - 1 - i) * a) % n = 1 := by
  rw [Nat.mul_comm, ← Nat.mod_mul_mod, ← he, Nat.mod_mul_mod, ← Nat.pow_add, show i + (n - 1 - i) = n - 1 by omega]; exact hg
 have h2 : (g ^ (n - 1 - i) * a * b) % n = 0 := by
  rw [Nat.mul_assoc]; exact Nat.mod_eq_zero_of_dvd (Nat.dvd_trans hab ⟨g ^ (n - 1 - i), by ac_rfl⟩)
 rw [← Nat.mod_mul_mod, hb, Nat.one_mul] at h2
 exact Nat.dvd_of_mod_eq_zero h2
theorem Gen.little {n g : Nat} (h : Gen n g) (a : Nat) (ha : a % n ≠ 0) : a ^ (n - 1) % n = 1 := by
 obtain ⟨h1, hg, hall⟩ := h
 obtain ⟨i, _, he⟩ := hall (a % n) (by omega) (Nat.mod_lt _ (by omega))
 rw [← zJ, ← he, zJ, ← Nat.pow_mul, Nat.mul_comm, Nat.pow_mul, ← zJ, hg, Nat.one_pow, Nat.mod_eq_of_lt h1]
theorem zB {n g : Nat} (l : List Nat) (h1 : 1 < n) (hn : n < 2 ^ 256) (hl : ∀ q ∈ l, Pr q) (hp : prod l = n - 1) (hg : pm n 256 g (n - 1) = 1)
 (hq : l.all (fun q => pm n 256 g ((n - 1) / q) != 1) = true) : Gen n g := by
 refine lucas l h1 hl hp (by rw [← pm_eq n 256 g (n - 1) (by omega)]; exact hg) fun q hql => ?_
 have := List.all_eq_true.1 hq q hql
 have hlt : (n - 1) / q < 2 ^ 256 := Nat.lt_of_le_of_lt (Nat.div_le_self _ _) (by omega)
 rw [pm_eq n 256 g _ hlt] at this
 simpa using this
theorem qat : Pr 2 := qR (f := 0) (by decide) (by decide) (by decide +kernel)
theorem pr_3 : Pr 3 := qR (f := 0) (by decide) (by decide) (by decide +kernel)
theorem pr_65147 : Pr 65147 := qR (f := 254) (by decide) (by decide) (by decide +kernel)
theorem pr_353 : Pr 353 := qR (f := 17) (by decide) (by decide) (by decide +kernel)
theorem pr_57467 : Pr 57467 := qR (f := 238) (by decide) (by decide) (by decide +kernel)
theorem pr_132049 : Pr 132049 := qR (f := 362) (by decide) (by decide) (by decide +kernel)
theorem pr_1923133 : Pr 1923133 := qR (f := 1385) (by decide) (by decide) (by decide +kernel)
theorem pr_31 : Pr 31 := qR (f := 4) (by decide) (by decide) (by decide +kernel)
theorem pr_107 : Pr 107 := qR (f := 9) (by decide) (by decide) (by decide +kernel)
theorem pr_223 : Pr 223 := qR (f := 13) (by decide) (by decide) (by decide +kernel)
theorem pr_4153 : Pr 4153 := qR (f := 63) (by decide) (by decide) (by decide +kernel)
theorem pr_430751 : Pr 430751 := qR (f := 655) (by decide) (by decide) (by decide +kernel)
theorem gen_31757755568855353 : Gen 31757755568855353 10 := by
 refine zB [2, 2, 2, 3, 31, 107, 223, 4153, 430751] (by decide) (by decide) ?_ (by decide +kernel) (by decide +kernel) (by decide +kernel)
 intro q hq
 simp only [List.mem_cons, List.not_mem_nil, or_false] at hq
 rcases hq with rfl | rfl | rfl | rfl | rfl | rfl | rfl | rfl | rfl
 · exact qat
 · exact qat
 · exact qat
 · exact pr_3
 · exact pr_31
 · exact pr_107
 · exact pr_223
 · exact pr_4153
 · exact pr_430751
theorem qaa : Pr 31757755568855353 := gen_31757755568855353.pr
theorem pr_5 : Pr 5 := qR (f := 1) (by decide) (by decide) (by decide +kernel)
theorem pr_75707 : Pr 75707 := qR (f := 274) (by decide) (by decide) (by decide +kernel)
theorem pr_13 : Pr 13 := qR (f := 2) (by decide) (by decide) (by decide +kernel)
theorem pr_2437 : Pr 2437 := qR (f := 48) (by decide) (by decide) (by decide +kernel)
theorem pr_569003 : Pr 569003 := qR (f := 753) (by decide) (by decide) (by decide +kernel)
theorem gen_2773320623 : Gen 2773320623 5 := by
 refine zB [2, 2437, 569003] (by decide) (by decide) ?_ (by decide +kernel) (by decide +kernel) (by decide +kernel)
 intro q hq
 simp only [List.mem_cons, List.not_mem_nil, or_false] at hq
 rcases hq with rfl | rfl | rfl
 · exact qat
 · exact pr_2437
 · exact pr_569003
theorem qdh : Pr 2773320623 := gen_2773320623.pr
theorem gen_72106336199 : Gen 72106336199 7 := by
 refine zB [2, 13, 2773320623] (by decide) (by decide) ?_ (by decide +kernel) (by decide +kernel) (by decide +kernel)
 intro q hq
 simp only [List.mem_cons, List.not_mem_nil, or_false] at hq
 rcases hq with rfl | rfl | rfl
 · exact qat
 · exact pr_13
 · exact qdh
theorem qcD : Pr 72106336199 := gen_72106336199.pr
theorem pr_7 : Pr 7 := qR (f := 1) (by decide) (by decide) (by decide +kernel)
theorem pr_19 : Pr 19 := qR (f := 3) (by decide) (by decide) (by decide +kernel)
theorem pr_47 : Pr 47 := qR (f := 5) (by decide) (by decide) (by decide +kernel)
theorem pr_127 : Pr 127 := qR (f := 10) (by decide) (by decide) (by decide +kernel)
theorem pr_103 : Pr 103 := qR (f := 9) (by decide) (by decide) (by decide +kernel)
theorem pr_991 : Pr 991 := qR (f := 30) (by decide) (by decide) (by decide +kernel)
theorem gen_8574133 : Gen 8574133 2 := by
 refine zB [2, 2, 3, 7, 103, 991] (by decide) (by decide) ?_ (by decide +kernel) (by decide +kernel) (by decide +kernel)
 intro q hq
 simp only [List.mem_cons, List.not_mem_nil, or_false] at hq
 rcases hq with rfl | rfl | rfl | rfl | rfl | rfl
 · exact qat
 · exact qat
 · exact pr_3
 · exact pr_7
 · exact pr_103
 · exact pr_991
theorem pr_8574133 : Pr 8574133 := gen_8574133.pr
theorem gen_1919519569386763 : Gen 1919519569386763 2 := by
 refine zB [2, 3, 7, 19, 47, 47, 127, 8574133] (by decide) (by decide) ?_ (by decide +kernel) (by decide +kernel) (by decide +kernel)
 intro q hq
 simp only [List.mem_cons, List.not_mem_nil, or_false] at hq
 rcases hq with rfl | rfl | rfl | rfl | rfl | rfl | rfl | rfl
 · exact qat
 · exact pr_3
 · exact pr_7
 · exact pr_19
 · exact pr_47
 · exact pr_47
 · exact pr_127
 · exact pr_8574133
theorem qau : Pr 1919519569386763 := gen_1919519569386763.pr
theorem gen_75445702479781427272750846543864801 : Gen 75445702479781427272750846543864801 7 := by
 refine zB [2, 2, 2, 2, 2, 3, 3, 5, 5, 75707, 72106336199, 1919519569386763] (by decide) (by decide) ?_ (by decide +kernel) (by decide +kernel) (by decide +kernel)
 intro q hq
 simp only [List.mem_cons, List.not_mem_nil, or_false] at hq
 rcases hq with rfl | rfl | rfl | rfl | rfl | rfl | rfl | rfl | rfl | rfl | rfl | rfl
 · exact qat
 · exact qat
 · exact qat
 · exact qat
 · exact qat
 · exact pr_3
 · exact pr_3
 · exact pr_5
 · exact pr_5
 · exact pr_75707
 · exact qcD
 · exact qau
theorem QL : Pr 75445702479781427272750846543864801 := gen_75445702479781427272750846543864801.pr
theorem gen_74058212732561358302231226437062788676166966415465897661863160754340907 : Gen 74058212732561358302231226437062788676166966415465897661863160754340907 2 := by
 refine zB [2, 3, 353, 57467, 132049, 1923133, 31757755568855353, 75445702479781427272750846543864801] (by decide) (by decide) ?_ (by decide +kernel) (by decide +kernel) (by decide +kernel)
 intro q hq
 simp only [List.mem_cons, List.not_mem_nil, or_false] at hq
 rcases hq with rfl | rfl | rfl | rfl | rfl | rfl | rfl | rfl
 · exact qat
 · exact pr_3
 · exact pr_353
 · exact pr_57467
 · exact pr_132049
 · exact pr_1923133
 · exact qaa
 · exact QL
theorem qS : Pr 74058212732561358302231226437062788676166966415465897661863160754340907 := gen_74058212732561358302231226437062788676166966415465897661863160754340907.pr
theorem gen_P : Gen 57896044618658097711785492504343953926634992332820282019728792003956564819949 2 := by
 refine zB [2, 2, 3, 65147, 74058212732561358302231226437062788676166966415465897661863160754340907] (by decide) (by decide) ?_ (by decide +kernel) (by decide +kernel) (by decide +kernel)
 intro q hq
 simp only [List.mem_cons, List.not_mem_nil, or_false] at hq
 rcases hq with rfl | rfl | rfl | rfl | rfl
 · exact qat
 · exact qat
 · exact pr_3
 · exact pr_65147
 · exact qS
theorem pr_P : Pr 57896044618658097711785492504343953926634992332820282019728792003956564819949 := gen_P.pr
end
end Go.Proofs.YtbgefoamhdgnaaaGreatDoor.Nm
namespace Go.Proofs.YtbgefoamhdgnaaaGreatDoor
section
structure Fld (n : Nat) [NeZero n] (d : Fin n) (i : Fin n) (inv : Fin n → Fin n) : Prop where
 dom : ∀ a b : Fin n, a * b = 0 → a = 0 ∨ b = 0
 one : (1 : Fin n) ≠ 0
 two : (1 : Fin n) + 1 ≠ 0
 root : i * i = -1
 non : ∀ s t : Fin n, s * s = d * (t * t) → t = 0
 inv : ∀ a : Fin n, a ≠ 0 → a * inv a = 1
variable {n : Nat} [NeZero n] {d i : Fin n} {inv : Fin n → Fin n}
def On (d x y : Fin n) : Prop := y * y - x * x = 1 + d * x * x * y * y
theorem Fld.eps (F : Fld n d i inv) (x1 y1 x2 y2 e : Fin n) (h1 : On d x1 y1) (h2 : On d x2 y2) (he : e = d * x1 * x2 * y1 * y2) : e * e ≠ 1 := by
 intro hee
 unfold On at h1 h2
 have hr := F.root
 have hp : (i * x1 + e * y1) * (i * x1 + e * y1) = d * ((x1 * y1 * (i * x2 + y2)) * (x1 * y1 * (i * x2 + y2))) := by grind
 have hm : (i * x1 - e * y1) * (i * x1 - e * y1) = d * ((x1 * y1 * (i * x2 - y2)) * (x1 * y1 * (i * x2 - y2))) := by grind
 have tp := F.non _ _ hp
 have tm := F.non _ _ hm
 have hy : (1 + 1) * (x1 * y1 * y2) = 0 := by grind
 have hz : x1 * y1 * y2 = 0 := (F.dom _ _ hy).resolve_left F.two
 have h0 : e = 0 := by grind
 apply F.one
 grind
theorem Fld.plus_ne (F : Fld n d i inv) (x1 y1 x2 y2 : Fin n) (h1 : On d x1 y1) (h2 : On d x2 y2) : 1 + d * x1 * x2 * y1 * y2 ≠ 0 := by
 intro h
 refine F.eps x1 y1 x2 y2 _ h1 h2 rfl ?_
 grind
theorem Fld.minus_ne (F : Fld n d i inv) (x1 y1 x2 y2 : Fin n) (h1 : On d x1 y1) (h2 : On d x2 y2) : 1 - d * x1 * x2 * y1 * y2 ≠ 0 := by
 intro h
 refine F.eps x1 y1 x2 y2 _ h1 h2 rfl ?_
 grind
def sx (inv : Fin n → Fin n) (d x1 y1 x2 y2 : Fin n) : Fin n := (x1 * y2 + x2 * y1) * inv (1 + d * x1 * x2 * y1 * y2)
def sy (inv : Fin n → Fin n) (d x1 y1 x2 y2 : Fin n) : Fin n := (y1 * y2 + x1 * x2) * inv (1 - d * x1 * x2 * y1 * y2)
theorem Fld.cancel (F : Fld n d i inv) (a b c : Fin n) (hc : c ≠ 0) (h : a * c = b * c) : a = b := by
 have h0 : (a - b) * c = 0 := by grind
 have := (F.dom _ _ h0).resolve_right hc
 grind
theorem Fld.sx_eq (F : Fld n d i inv) (x1 y1 x2 y2 : Fin n) (h1 : On d x1 y1) (h2 : On d x2 y2) : sx inv d x1 y1 x2 y2 * (1 + d * x1 * x2 * y1 * y2) = x1 * y2 + x2 * y1 := by
 have := F.inv _ (F.plus_ne x1 y1 x2 y2 h1 h2)
 unfold sx; grind
theorem Fld.sy_eq (F : Fld n d i inv) (x1 y1 x2 y2 : Fin n) (h1 : On d x1 y1) (h2 : On d x2 y2) : sy inv d x1 y1 x2 y2 * (1 - d * x1 * x2 * y1 * y2) = y1 * y2 + x1 * x2 := by
 have := F.inv _ (F.minus_ne x1 y1 x2 y2 h1 h2)
 unfold sy; grind
theorem on_poly (x1 y1 x2 y2 : Fin n) (h1 : On d x1 y1) (h2 : On d x2 y2) :
 (y1 * y2 + x1 * x2) * (y1 * y2 + x1 * x2) * ((1 + d * x1 * x2 * y1 * y2) * (1 + d * x1 * x2 * y1 * y2)) - (x1 * y2 + x2 * y1) * (x1 * y2 + x2 * y1) * ((1 - d * x1 * x2 * y1 * y2) * (1 - d * x1 * x2 * y1 * y2))
  = (1 + d * x1 * x2 * y1 * y2) * (1 + d * x1 * x2 * y1 * y2) * ((1 - d * x1 * x2 * y1 * y2) * (1 - d * x1 * x2 * y1 * y2)) + d * ((x1 * y2 + x2 * y1) * (x1 * y2 + x2 * y1)) * ((y1 * y2 + x1 * x2) * (y1 * y2 + x1 * x2)) := by
 unfold On at h1 h2
 grind
theorem Fld.on_sum (F : Fld n d i inv) (x1 y1 x2 y2 : Fin n) (h1 : On d x1 y1) (h2 : On d x2 y2) : On d (sx inv d x1 y1 x2 y2) (sy inv d x1 y1 x2 y2) := by
 have hp := F.plus_ne x1 y1 x2 y2 h1 h2
 have hm := F.minus_ne x1 y1 x2 y2 h1 h2
 have ex := F.sx_eq x1 y1 x2 y2 h1 h2
 have ey := F.sy_eq x1 y1 x2 y2 h1 h2
 have hq := on_poly x1 y1 x2 y2 h1 h2
 generalize sx inv d x1 y1 x2 y2 = X at *
 generalize sy inv d x1 y1 x2 y2 = Y at *
 generalize 1 + d * x1 * x2 * y1 * y2 = P at *
 generalize 1 - d * x1 * x2 * y1 * y2 = M at *
 rw [← ex, ← ey] at hq
 have hpm : P * P * (M * M) ≠ 0 := by
  intro h
  rcases F.dom _ _ h with h | h <;> rcases F.dom _ _ h with h | h <;> contradiction
 unfold On
 refine F.cancel _ _ (P * P * (M * M)) hpm ?_
 grind
theorem x_poly (x1 y1 x2 y2 x3 y3 : Fin n) (h1 : On d x1 y1) (h2 : On d x2 y2) (h3 : On d x3 y3) :
 ((x1*y2+x2*y1)*(1-d*x1*x2*y1*y2)*y3 + x3*((y1*y2+x1*x2)*(1+d*x1*x2*y1*y2))) * ((1+d*x2*x3*y2*y3)*(1-d*x2*x3*y2*y3) + d*x1*y1*((x2*y3+x3*y2)*(y2*y3+x2*x3)))
 = (x1*((y2*y3+x2*x3)*(1+d*x2*x3*y2*y3)) + (x2*y3+x3*y2)*(1-d*x2*x3*y2*y3)*y1) * ((1+d*x1*x2*y1*y2)*(1-d*x1*x2*y1*y2) + d*x3*y3*((x1*y2+x2*y1)*(y1*y2+x1*x2))) := by
 unfold On at h1 h2 h3
 grind
theorem y_poly (x1 y1 x2 y2 x3 y3 : Fin n) (h1 : On d x1 y1) (h2 : On d x2 y2) (h3 : On d x3 y3) :
 ((y1*y2+x1*x2)*(1+d*x1*x2*y1*y2)*y3 + x3*((x1*y2+x2*y1)*(1-d*x1*x2*y1*y2))) * ((1+d*x2*x3*y2*y3)*(1-d*x2*x3*y2*y3) - d*x1*y1*((x2*y3+x3*y2)*(y2*y3+x2*x3)))
 = (y1*((y2*y3+x2*x3)*(1+d*x2*x3*y2*y3)) + (x2*y3+x3*y2)*(1-d*x2*x3*y2*y3)*x1) * ((1+d*x1*x2*y1*y2)*(1-d*x1*x2*y1*y2) - d*x3*y3*((x1*y2+x2*y1)*(y1*y2+x1*x2))) := by
 unfold On at h1 h2 h3
 grind
theorem frac_xl (x12 y12 x3 y3 P M Nx Ny X : Fin n) (hx : x12 * P = Nx) (hy : y12 * M = Ny) (h : X * (1 + d * x12 * x3 * y12 * y3) = x12 * y3 + x3 * y12) : X * (P * M + d * x3 * y3 * (Nx * Ny)) = Nx * M * y3 + x3 * (Ny * P) := by
 grind
theorem frac_xr (x23 y23 x1 y1 P M Nx Ny X : Fin n) (hx : x23 * P = Nx) (hy : y23 * M = Ny) (h : X * (1 + d * x1 * x23 * y1 * y23) = x1 * y23 + x23 * y1) : X * (P * M + d * x1 * y1 * (Nx * Ny)) = x1 * (Ny * P) + Nx * M * y1 := by
 grind
theorem frac_yl (x12 y12 x3 y3 P M Nx Ny Y : Fin n) (hx : x12 * P = Nx) (hy : y12 * M = Ny) (h : Y * (1 - d * x12 * x3 * y12 * y3) = y12 * y3 + x12 * x3) : Y * (P * M - d * x3 * y3 * (Nx * Ny)) = Ny * P * y3 + x3 * (Nx * M) := by
 grind
theorem frac_yr (x23 y23 x1 y1 P M Nx Ny Y : Fin n) (hx : x23 * P = Nx) (hy : y23 * M = Ny) (h : Y * (1 - d * x1 * x23 * y1 * y23) = y1 * y23 + x1 * x23) : Y * (P * M - d * x1 * y1 * (Nx * Ny)) = y1 * (Ny * P) + Nx * M * x1 := by
 grind
theorem den_pl (x12 y12 x3 y3 P M Nx Ny : Fin n) (hx : x12 * P = Nx) (hy : y12 * M = Ny) : P * M + d * x3 * y3 * (Nx * Ny) = P * M * (1 + d * x12 * x3 * y12 * y3) := by grind
theorem den_ml (x12 y12 x3 y3 P M Nx Ny : Fin n) (hx : x12 * P = Nx) (hy : y12 * M = Ny) : P * M - d * x3 * y3 * (Nx * Ny) = P * M * (1 - d * x12 * x3 * y12 * y3) := by grind
theorem den_pr (x23 y23 x1 y1 P M Nx Ny : Fin n) (hx : x23 * P = Nx) (hy : y23 * M = Ny) : P * M + d * x1 * y1 * (Nx * Ny) = P * M * (1 + d * x1 * x23 * y1 * y23) := by grind
theorem den_mr (x23 y23 x1 y1 P M Nx Ny : Fin n) (hx : x23 * P = Nx) (hy : y23 * M = Ny) : P * M - d * x1 * y1 * (Nx * Ny) = P * M * (1 - d * x1 * x23 * y1 * y23) := by grind
theorem Fld.mul_ne (F : Fld n d i inv) {a b : Fin n} (ha : a ≠ 0) (hb : b ≠ 0) : a * b ≠ 0 := fun h => (F.dom _ _ h).elim ha hb
theorem Fld.cross (F : Fld n d i inv) (X X' DL DR NL NR : Fin n) (hl : X * DL = NL) (hr : X' * DR = NR) (h : NL * DR = NR * DL) (h1 : DL ≠ 0) (h2 : DR ≠ 0) : X = X' := by
 refine F.cancel _ _ (DL * DR) (F.mul_ne h1 h2) ?_
 grind
theorem Fld.assoc_x (F : Fld n d i inv) (x1 y1 x2 y2 x3 y3 : Fin n) (h1 : On d x1 y1) (h2 : On d x2 y2) (h3 : On d x3 y3) :
 sx inv d (sx inv d x1 y1 x2 y2) (sy inv d x1 y1 x2 y2) x3 y3 = sx inv d x1 y1 (sx inv d x2 y2 x3 y3) (sy inv d x2 y2 x3 y3) := by
 have o12 := F.on_sum x1 y1 x2 y2 h1 h2
 have o23 := F.on_sum x2 y2 x3 y3 h2 h3
 have el := F.sx_eq _ _ x3 y3 o12 h3
 have er := F.sx_eq x1 y1 _ _ h1 o23
 have dl := F.plus_ne _ _ x3 y3 o12 h3
 have dr := F.plus_ne x1 y1 _ _ h1 o23
 have ax := F.sx_eq x1 y1 x2 y2 h1 h2
 have ay := F.sy_eq x1 y1 x2 y2 h1 h2
 have bx := F.sx_eq x2 y2 x3 y3 h2 h3
 have by' := F.sy_eq x2 y2 x3 y3 h2 h3
 have p12 := F.plus_ne x1 y1 x2 y2 h1 h2
 have m12 := F.minus_ne x1 y1 x2 y2 h1 h2
 have p23 := F.plus_ne x2 y2 x3 y3 h2 h3
 have m23 := F.minus_ne x2 y2 x3 y3 h2 h3
 have hq := x_poly x1 y1 x2 y2 x3 y3 h1 h2 h3
 refine F.cross _ _ _ _ _ _ (frac_xl _ _ x3 y3 _ _ _ _ _ ax ay el) (frac_xr _ _ x1 y1 _ _ _ _ _ bx by' er) hq ?_ ?_
 · rw [den_pl _ _ x3 y3 _ _ _ _ ax ay]; exact F.mul_ne (F.mul_ne p12 m12) dl
 · rw [den_pr _ _ x1 y1 _ _ _ _ bx by']; exact F.mul_ne (F.mul_ne p23 m23) dr
theorem Fld.assoc_y (F : Fld n d i inv) (x1 y1 x2 y2 x3 y3 : Fin n) (h1 : On d x1 y1) (h2 : On d x2 y2) (h3 : On d x3 y3) :
 sy inv d (sx inv d x1 y1 x2 y2) (sy inv d x1 y1 x2 y2) x3 y3 = sy inv d x1 y1 (sx inv d x2 y2 x3 y3) (sy inv d x2 y2 x3 y3) := by
 have o12 := F.on_sum x1 y1 x2 y2 h1 h2
 have o23 := F.on_sum x2 y2 x3 y3 h2 h3
 have el := F.sy_eq _ _ x3 y3 o12 h3
 have er := F.sy_eq x1 y1 _ _ h1 o23
 have dl := F.minus_ne _ _ x3 y3 o12 h3
 have dr := F.minus_ne x1 y1 _ _ h1 o23
 have ax := F.sx_eq x1 y1 x2 y2 h1 h2
 have ay := F.sy_eq x1 y1 x2 y2 h1 h2
 have bx := F.sx_eq x2 y2 x3 y3 h2 h3
 have by' := F.sy_eq x2 y2 x3 y3 h2 h3
 have p12 := F.plus_ne x1 y1 x2 y2 h1 h2
 have m12 := F.minus_ne x1 y1 x2 y2 h1 h2
 have p23 := F.plus_ne x2 y2 x3 y3 h2 h3
 have m23 := F.minus_ne x2 y2 x3 y3 h2 h3
 have hq := y_poly x1 y1 x2 y2 x3 y3 h1 h2 h3
 refine F.cross _ _ _ _ _ _ (frac_yl _ _ x3 y3 _ _ _ _ _ ax ay el) (frac_yr _ _ x1 y1 _ _ _ _ _ bx by' er) hq ?_ ?_
 · rw [den_ml _ _ x3 y3 _ _ _ _ ax ay]; exact F.mul_ne (F.mul_ne p12 m12) dl
 · rw [den_mr _ _ x1 y1 _ _ _ _ bx by']; exact F.mul_ne (F.mul_ne p23 m23) dr
def QD (inv : Fin n → Fin n) (d : Fin n) (p q : Fin n × Fin n) : Fin n × Fin n := (sx inv d p.1 p.2 q.1 q.2, sy inv d p.1 p.2 q.1 q.2)
def OnP (d : Fin n) (p : Fin n × Fin n) : Prop := On d p.1 p.2
theorem qa3 : OnP d ((0, 1) : Fin n × Fin n) := by unfold OnP On; grind
theorem Fld.on_add (F : Fld n d i inv) (p q : Fin n × Fin n) (hp : OnP d p) (hq : OnP d q) : OnP d (QD inv d p q) := F.on_sum _ _ _ _ hp hq
theorem Fld.add_assoc (F : Fld n d i inv) (p q r : Fin n × Fin n) (hp : OnP d p) (hq : OnP d q) (hr : OnP d r) : QD inv d (QD inv d p q) r = QD inv d p (QD inv d q r) := by
 unfold QD
 exact Prod.ext (F.assoc_x _ _ _ _ _ _ hp hq hr) (F.assoc_y _ _ _ _ _ _ hp hq hr)
theorem qdQ (p q : Fin n × Fin n) : QD inv d p q = QD inv d q p := by
 unfold QD sx sy
 have e1 : d * p.1 * q.1 * p.2 * q.2 = d * q.1 * p.1 * q.2 * p.2 := by grind
 have e2 : p.1 * q.2 + q.1 * p.2 = q.1 * p.2 + p.1 * q.2 := by grind
 have e3 : p.2 * q.2 + p.1 * q.1 = q.2 * p.2 + q.1 * p.1 := by grind
 rw [e1, e2, e3]
theorem Fld.add_zero (F : Fld n d i inv) (p : Fin n × Fin n) (hp : OnP d p) : QD inv d p (0, 1) = p := by
 have hx := F.sx_eq p.1 p.2 0 1 hp qa3
 have hy := F.sy_eq p.1 p.2 0 1 hp qa3
 unfold QD
 refine Prod.ext ?_ ?_
 · show sx inv d p.1 p.2 0 1 = p.1; grind
 · show sy inv d p.1 p.2 0 1 = p.2; grind
theorem on_neg (p : Fin n × Fin n) (hp : OnP d p) : OnP d (-p.1, p.2) := by
 unfold OnP On at *
 show p.2 * p.2 - -p.1 * -p.1 = 1 + d * -p.1 * -p.1 * p.2 * p.2
 grind
theorem Fld.add_neg (F : Fld n d i inv) (p : Fin n × Fin n) (hp : OnP d p) : QD inv d p (-p.1, p.2) = (0, 1) := by
 have hn := on_neg p hp
 have hx := F.sx_eq p.1 p.2 (-p.1) p.2 hp hn
 have hy := F.sy_eq p.1 p.2 (-p.1) p.2 hp hn
 have h1 := F.plus_ne p.1 p.2 (-p.1) p.2 hp hn
 have h2 := F.minus_ne p.1 p.2 (-p.1) p.2 hp hn
 have ho : p.2 * p.2 - p.1 * p.1 = 1 + d * p.1 * p.1 * p.2 * p.2 := hp
 unfold QD
 refine Prod.ext ?_ ?_
 · show sx inv d p.1 p.2 (-p.1) p.2 = 0
   exact F.cancel _ _ _ h1 (by grind)
 · show sy inv d p.1 p.2 (-p.1) p.2 = 1
   exact F.cancel _ _ _ h2 (by grind)
def qV (inv : Fin n → Fin n) (d : Fin n) (p : Fin n × Fin n) : Nat → Fin n × Fin n
 | 0 => (0, 1)
 | k + 1 => QD inv d (qV inv d p k) p
theorem Fld.on_mul (F : Fld n d i inv) (p : Fin n × Fin n) (hp : OnP d p) (k : Nat) : OnP d (qV inv d p k) := by
 induction k with
 | zero => exact qa3
 | succ k ih => exact F.on_add _ _ ih hp
theorem Fld.zero_add (F : Fld n d i inv) (p : Fin n × Fin n) (hp : OnP d p) : QD inv d (0, 1) p = p := by rw [qdQ, F.add_zero p hp]
theorem Fld.mul_add (F : Fld n d i inv) (p : Fin n × Fin n) (hp : OnP d p) (a b : Nat) : qV inv d p (a + b) = QD inv d (qV inv d p a) (qV inv d p b) := by
 induction b with
 | zero => rw [Nat.add_zero]; exact (F.add_zero _ (F.on_mul p hp a)).symm
 | succ b ih =>
  show QD inv d (qV inv d p (a + b)) p = QD inv d (qV inv d p a) (QD inv d (qV inv d p b) p)
  rw [ih, F.add_assoc _ _ _ (F.on_mul p hp a) (F.on_mul p hp b) hp]
theorem Fld.mul_mul (F : Fld n d i inv) (p : Fin n × Fin n) (hp : OnP d p) (a b : Nat) : qV inv d (qV inv d p a) b = qV inv d p (a * b) := by
 induction b with
 | zero => rfl
 | succ b ih =>
  show QD inv d (qV inv d (qV inv d p a) b) (qV inv d p a) = qV inv d p (a * (b + 1))
  rw [ih, ← F.mul_add p hp, Nat.mul_succ]
end
section
open Go.RowKit Go.Lib
theorem add_step (S D F G x y c r q : Int) (h : S + c * D = F + G) (hr : x + y + c = r + 18446744073709551616 * q) : (S + r * D) + q * (D * 18446744073709551616) = (F + x * D) + (G + y * D) := by
 have : x = r + 18446744073709551616 * q - c - y := by omega
 subst this; grind
theorem sub_step (S D F G x y c r q : Int) (h : S = F - G + c * D) (hr : x - y - c = r - 18446744073709551616 * q) : (S + r * D) = (F + x * D) - (G + y * D) + q * (D * 18446744073709551616) := by
 have : x = r - 18446744073709551616 * q + c + y := by omega
 subst this h; grind
theorem plus_any (a b : Nat) (ha : a < 115792089237316195423570985008687907853269984665640564039457584007913129639936) (hb : b < 115792089237316195423570985008687907853269984665640564039457584007913129639936) (w : World) :
 Calls Tryz.prog 211 #[.agg (e4 a), .agg (e4 b)] w (ElP ((a + b) % PP) w) := by
 obtain ⟨r, hr⟩ : ∃ r, r = (a + b) % PP := ⟨_, rfl⟩
 rw [← hr]
 have Ha := Lib.hid ha; clear ha
 have Hb := Lib.hid hb; clear hb
 have Hr := Lib.hid hr; clear hr
 go_enter Tryz.func211, Tryz.ntmps211
 go_wp2_with fail
 go_loopw [5, 7] (fun s i wr => ∃ (k : Nat) (h : Nat → Int) (c : Int), k ≤ 4 ∧ i = .int .i64 k ∧ s = .int .u64 c ∧ 0 ≤ c ∧ c ≤ 1 ∧ (∀ j, j < k → 0 ≤ h j ∧ h j < 18446744073709551616) ∧ (∀ j, k ≤ j → h j = dg 18446744073709551616 a j) ∧ qp 18446744073709551616 h k + c * 18446744073709551616 ^ k = qp 18446744073709551616 (dg 18446744073709551616 a) k + qp 18446744073709551616 (dg 18446744073709551616 b) k ∧ Has wr w.heap.size (row .u64 4 h) 180 ∧ Has wr (w.heap.size + 1) (e4 b) 180 ∧ HasN wr (w.heap.size + 1 + 1) 4 180 ∧ Below w.heap.size w wr) (fun _ i _ => 4 - (RowKit.intOf i).toNat)
 case atStart => exact ⟨0, dg 18446744073709551616 a, 0, by omega, rfl, rfl, by omega, by omega, fun j hj => by omega, fun _ _ => rfl, by simp [qp], ((Has.new _ _ _).alloc _).alloc _, (Has.new1 _ _ _ _).alloc _, HasN.new2 _ _ _ _ _ 4 rfl, Qz _ _ _ _⟩
 case round =>
  obtain ⟨k, h, c, hk, rfl, rfl, c0, c1, hd, hg, hs, m0, m1, m2, hB⟩ := hrel
  have M0 := Lib.hid m0; clear m0
  have M1 := Lib.hid m1; clear m1
  have M2 := Lib.hid m2; clear m2
  have Hd := Lib.hid hd; clear hd
  have Hg := Lib.hid hg; clear hg
  have Hs := Lib.hid hs; clear hs
  by_cases hlt : k < 4
  · have h1 := M0.out.cell k hlt
    have h2 := M1.out.cell k hlt
    have hfz := M0.out.frozen k
    have x0 := qbr a k
    have x1 := qaR a k
    have y0 := qbr b k
    have y1 := qaR b k
    rw [Hg.out k (Nat.le_refl _)] at h1
    obtain ⟨x, hx⟩ : ∃ x, x = dg 18446744073709551616 a k := ⟨_, rfl⟩
    obtain ⟨y, hy⟩ : ∃ y, y = dg 18446744073709551616 b k := ⟨_, rfl⟩
    rw [← hx] at h1 x0 x1
    rw [← hy] at h2 y0 y1
    have ka := fun w => add64 x y c x0 y0 c0 c1 w
    obtain ⟨s, hss⟩ : ∃ s, s = (x + y + c) % 18446744073709551616 := ⟨_, rfl⟩
    obtain ⟨d, hdd⟩ : ∃ d, d = (x + y + c) / 18446744073709551616 := ⟨_, rfl⟩
    rw [← hss, ← hdd] at ka
    have s0 : 0 ≤ s := by omega
    have s1 : s < 18446744073709551616 := by omega
    have d0 : 0 ≤ d := by omega
    have d1 : d ≤ 1 := by omega
    have hsum : x + y + c = s + 18446744073709551616 * d := by omega
    have Hx := Lib.hid hx; clear hx
    have Hy := Lib.hid hy; clear hy
    have Hsum := Lib.hid hsum; clear hsum
    clear hss hdd
    go_wp2_with fail
    go_region
    go_wp2_with fail
    go_roundw
    case measure => simp [RowKit.intOf]; omega
    case rel =>
     refine ⟨k + 1, upd h k s, d, by omega, by go_num, rfl, d0, d1, ?_, ?_, ?_, M0.out.set _ _, M1.out.other _ _ (by simp <;> omega), M2.out.other _ _ (by simp <;> omega), by first | exact hB.setCell (Nat.le_refl _) _ | exact (hB.setCell (Nat.le_refl _) _).drew⟩
     · intro j hj
       by_cases e : j = k
       · subst e; rw [qr]; exact ⟨s0, s1⟩
       · rw [qt _ _ _ _ e]; exact Hd.out j (by omega)
     · intro j hj; rw [qt _ _ _ _ (by omega)]; exact Hg.out j (by omega)
     · simp only [qp]
       rw [qQ _ _ _ _ _ (Nat.le_refl _), qr, ← Hx.out, ← Hy.out, Int.pow_succ]
       exact add_step _ _ _ _ _ _ _ _ _ Hs.out Hsum.out
  · obtain rfl : k = 4 := by omega
    obtain ⟨A', hA', hrow, hsum⟩ := qbV h Hd.out
    have hs4 := Hs.out
    rw [hsum, qcr a Ha.out, qcr b Hb.out, qbR] at hs4
    have m0 := M0.out
    rw [hrow] at m0
    obtain ⟨o', rfl⟩ := Int.eq_ofNat_of_zero_le c0
    have hf := fun w => fold_any A' o' hA' (by omega) w
    rw [show (A' + o' * 115792089237316195423570985008687907853269984665640564039457584007913129639936) % PP = r by rw [Hr.out]; congr 1; omega] at hf
    have M0 := Lib.hid m0; clear m0
    have Hf := Lib.hid hf; clear hf
    clear hrow hsum hs4 hA'
    go_wp2_with (refine wpList_load_row rfl 180 _ rfl (w.heap.size) rfl 180 (e4 A') (0, 0) _ M0.out Tryz.underlying180 rfl (by rw [qd]; kernel_rfl) ?_)
    refine (Hf.out _).mono ?_
    rintro e w1 ⟨m, hm, hmr, rfl, b1⟩
    obtain ⟨Z, hZ, mz⟩ := M2.out.call b1
    have HBB := Lib.hid (below_setRow (qf hB b1) (w.heap.size + 1 + 1) (e4 m) (by omega))
    have Mz := Lib.hid mz; clear mz
    have HZ := Lib.hid hZ; clear hZ
    have Hm := Lib.hid hm; clear hm
    have Hmr := Lib.hid hmr; clear hmr
    clear b1
    go_wp2_with (refine wpList_store_row rfl 180 _ _ rfl (w.heap.size + 1 + 1) _ rfl rfl 180 Z Mz.out (by rw [qd]; kernel_rfl) (HZ.out.trans (qd _).symm) (qo _ _ _) ?_)
    exact bodyPost_ret (v := .agg (e4 m)) (results_cell_row (t := 180) (by rfl) _ _ (w.heap.size + 1 + 1) _ _ _ rfl (Mz.out.setRow _) Tryz.underlying180 rfl (by rw [qd]; kernel_rfl)) rfl ⟨m, Hm.out, Hmr.out, rfl, HBB.out⟩
end
section
open Go.RowKit Go.Lib
theorem bor_sum (x y c : Int) (hx : 0 ≤ x) (hx' : x < 18446744073709551616) (hy : 0 ≤ y) (hy' : y < 18446744073709551616) (hc : 0 ≤ c) (hc' : c ≤ 1) :
 ∃ s d : Int, (x - y - c) % 18446744073709551616 = s ∧ bor x (y + c) = d ∧ 0 ≤ s ∧ s < 18446744073709551616 ∧ 0 ≤ d ∧ d ≤ 1 ∧ x - y - c = s - 18446744073709551616 * d := by
 refine ⟨_, _, rfl, rfl, by omega, by omega, (bor_01 _ _).1, (bor_01 _ _).2, ?_⟩
 unfold bor
 split <;> omega
def qaI (c A : Nat) : Nat := if c = 0 then 0 else if A < 38 then 2 else 1
theorem rounds_down (A A' d : Nat) (hd : d ≤ 1) (h : A' + 38 = A + d * 115792089237316195423570985008687907853269984665640564039457584007913129639936) (hA' : A' < 115792089237316195423570985008687907853269984665640564039457584007913129639936) : qaI d A' < qaI 1 A := by
 unfold qaI
 rw [if_neg (show ¬ (1 = 0) by decide)]
 by_cases h0 : d = 0
 · rw [if_pos h0]; split <;> omega
 · rw [if_neg h0, if_neg (by omega), if_pos (by omega)]; omega
theorem minus_mod (A A' d : Nat) (h : A' + 38 = A + d * 115792089237316195423570985008687907853269984665640564039457584007913129639936) : ((A' : Int) - d * 115792089237316195423570985008687907853269984665640564039457584007913129639936) % (PP : Int) = ((A : Int) - 1 * 115792089237316195423570985008687907853269984665640564039457584007913129639936) % (PP : Int) := by
 have e : (115792089237316195423570985008687907853269984665640564039457584007913129639936 : Int) = 38 + 2 * (PP : Int) := by decide +kernel
 have e2 : (A' : Int) - d * 115792089237316195423570985008687907853269984665640564039457584007913129639936 = ((A : Int) - 1 * 115792089237316195423570985008687907853269984665640564039457584007913129639936) + (PP : Int) * 2 := by omega
 rw [e2, Int.add_mul_emod_self_left]
theorem minus_res (a b : Nat) : (((a : Int) - b) % (PP : Int)).toNat = (a % PP + (PP - b % PP)) % PP := by
 have hp := qG
 have hb := Nat.mod_lt b hp
 have e1 := Nat.div_add_mod a PP
 have e2 := Nat.div_add_mod b PP
 generalize a % PP = x at *
 generalize b % PP = y at *
 generalize a / PP = qa at *
 generalize b / PP = qb at *
 have : (a : Int) - b = ((x + (PP - y) : Nat) : Int) + (PP : Int) * ((qa : Int) - qb - 1) := by
  rw [← e1, ← e2, Int.natCast_add, Int.natCast_add, Int.natCast_add, Int.natCast_mul, Int.natCast_mul, Int.natCast_sub (by omega), Int.mul_sub, Int.mul_sub]
  omega
 rw [this, Int.add_mul_emod_self_left, ← Int.natCast_emod, Int.toNat_natCast]
theorem zq (a b : Nat) (ha : a < 115792089237316195423570985008687907853269984665640564039457584007913129639936) (hb : b < 115792089237316195423570985008687907853269984665640564039457584007913129639936) (w : World) :
 Calls Tryz.prog 174 #[.agg (e4 a), .agg (e4 b)] w (ElP ((a % PP + (PP - b % PP)) % PP) w) := by
 rw [← minus_res]
 obtain ⟨r, hr⟩ : ∃ r, r = ((a : Int) - b) % (PP : Int) := ⟨_, rfl⟩
 rw [← hr]
 have Ha := Lib.hid ha; clear ha
 have Hb := Lib.hid hb; clear hb
 have Hr := Lib.hid hr; clear hr
 go_enter Tryz.func174, Tryz.ntmps174
 go_wp2_with fail
 go_loopw [5, 9] (fun s i wr => ∃ (k : Nat) (h : Nat → Int) (c : Int), k ≤ 4 ∧ i = .int .i64 k ∧ s = .int .u64 c ∧ 0 ≤ c ∧ c ≤ 1 ∧ (∀ j, j < k → 0 ≤ h j ∧ h j < 18446744073709551616) ∧ (∀ j, k ≤ j → h j = dg 18446744073709551616 a j) ∧ qp 18446744073709551616 h k = qp 18446744073709551616 (dg 18446744073709551616 a) k - qp 18446744073709551616 (dg 18446744073709551616 b) k + c * 18446744073709551616 ^ k ∧ Has wr w.heap.size (row .u64 4 h) 180 ∧ Has wr (w.heap.size + 1) (e4 b) 180 ∧ HasN wr (w.heap.size + 1 + 1) 4 180 ∧ Below w.heap.size w wr) (fun _ i _ => 4 - (RowKit.intOf i).toNat)
 case atStart => exact ⟨0, dg 18446744073709551616 a, 0, by omega, rfl, rfl, by omega, by omega, fun j hj => by omega, fun _ _ => rfl, by simp [qp], ((Has.new _ _ _).alloc _).alloc _, (Has.new1 _ _ _ _).alloc _, HasN.new2 _ _ _ _ _ 4 rfl, Qz _ _ _ _⟩
 case round =>
  obtain ⟨k, h, c, hk, rfl, rfl, c0, c1, hd, hg, hs, m0, m1, m2, hB⟩ := hrel
  have M0 := Lib.hid m0; clear m0
  have M1 := Lib.hid m1; clear m1
  have M2 := Lib.hid m2; clear m2
  have Hd := Lib.hid hd; clear hd
  have Hg := Lib.hid hg; clear hg
  have Hs := Lib.hid hs; clear hs
  by_cases hlt : k < 4
  · have h1 := M0.out.cell k hlt
    have h2 := M1.out.cell k hlt
    have hfz := M0.out.frozen k
    have x0 := qbr a k
    have x1 := qaR a k
    have y0 := qbr b k
    have y1 := qaR b k
    rw [Hg.out k (Nat.le_refl _)] at h1
    obtain ⟨x, hx⟩ : ∃ x, x = dg 18446744073709551616 a k := ⟨_, rfl⟩
    obtain ⟨y, hy⟩ : ∃ y, y = dg 18446744073709551616 b k := ⟨_, rfl⟩
    rw [← hx] at h1 x0 x1
    rw [← hy] at h2 y0 y1
    have ka := fun w => sub64 x y c x0 y0 y1 c0 c1 w
    obtain ⟨s, d, hss, hdd, s0, s1, d0, d1, hsum⟩ := bor_sum x y c x0 x1 y0 y1 c0 c1
    rw [hss, hdd] at ka
    have Hx := Lib.hid hx; clear hx
    have Hy := Lib.hid hy; clear hy
    have Hsum := Lib.hid hsum; clear hsum
    clear hss hdd
    go_wp2_with fail
    go_region
    go_wp2_with fail
    go_roundw
    case measure => simp [RowKit.intOf]; omega
    case rel =>
     refine ⟨k + 1, upd h k s, d, by omega, by go_num, rfl, d0, d1, ?_, ?_, ?_, M0.out.set _ _, M1.out.other _ _ (by simp <;> omega), M2.out.other _ _ (by simp <;> omega), by first | exact hB.setCell (Nat.le_refl _) _ | exact (hB.setCell (Nat.le_refl _) _).drew⟩
     · intro j hj
       by_cases e : j = k
       · subst e; rw [qr]; exact ⟨s0, s1⟩
       · rw [qt _ _ _ _ e]; exact Hd.out j (by omega)
     · intro j hj; rw [qt _ _ _ _ (by omega)]; exact Hg.out j (by omega)
     · simp only [qp]
       rw [qQ _ _ _ _ _ (Nat.le_refl _), qr, ← Hx.out, ← Hy.out, Int.pow_succ]
       exact sub_step _ _ _ _ _ _ _ _ _ Hs.out Hsum.out
  · obtain rfl : k = 4 := by omega
    obtain ⟨A', hA', hrow, hsum⟩ := qbV h Hd.out
    have hs4 := Hs.out
    rw [hsum, qcr a Ha.out, qcr b Hb.out, qbR] at hs4
    have m0 := M0.out
    rw [hrow] at m0
    obtain ⟨o', rfl⟩ := Int.eq_ofNat_of_zero_le c0
    have hres : ((A' : Int) - o' * 115792089237316195423570985008687907853269984665640564039457584007913129639936) % (PP : Int) = r := by rw [Hr.out]; congr 1; omega
    have M1' := Lib.hid ((M1.out.toN (qd _)))
    have M0 := Lib.hid m0; clear m0
    have Hres := Lib.hid hres; clear hres
    have HA' := Lib.hid hA'; clear hA'
    clear hrow hsum hs4 Ha Hb Hr M1
    go_wp2_with fail
    obtain ⟨w2, rfl⟩ : ∃ w2 : World, w2 = wr := ⟨_, rfl⟩
    go_loopg [5] (qaI o' A') (fun gk s wr => ∃ A c : Nat, gk = qaI c A ∧ A < 115792089237316195423570985008687907853269984665640564039457584007913129639936 ∧ c ≤ 1 ∧ s = .int .u64 c ∧ ((A : Int) - c * 115792089237316195423570985008687907853269984665640564039457584007913129639936) % (PP : Int) = r ∧ Has wr w.heap.size (e4 A) 180 ∧ HasN wr (w.heap.size + 1 + 1) 4 180 ∧ Below w.heap.size w wr)
    case atStart => exact ⟨A', o', rfl, HA'.out, by omega, rfl, Hres.out, M0.out, M2.out, hB⟩
    case round =>
     clear M0 M2 hB Hres HA' M1'
     obtain ⟨A, c, hgk, hA, hc, rfl, hres, m0, m2, hB⟩ := hrel
     have M0 := Lib.hid m0; clear m0
     have M2 := Lib.hid m2; clear m2
     have Hgk := Lib.hid hgk; clear hgk
     have Hres := Lib.hid hres; clear hres
     have HA := Lib.hid hA; clear hA
     by_cases hz : 0 < c
     · obtain rfl : c = 1 := by omega
       have h1 := M0.out.cell 0 (by omega)
       have hfz := M0.out.frozen 0
       have x0 := qbr A 0
       have x1 := qaR A 0
       obtain ⟨x, hx⟩ : ∃ x, x = dg 18446744073709551616 A 0 := ⟨_, rfl⟩
       rw [← hx] at h1 x0 x1
       have ka := fun w => sub64_0 x 38 x0 (by omega) (by omega) w
       obtain ⟨s, d, hss, hdd, s0, s1, d0, d1, hsum⟩ := bor_sum x 38 0 x0 x1 (by omega) (by omega) (by omega) (by omega)
       rw [Int.sub_zero] at hss
       rw [Int.add_zero] at hdd
       rw [hss, hdd] at ka
       have m0' := M0.out.set 0 s
       have m2' := M2.out.other ⟨w.heap.size, 0, none⟩ (.int .u64 s) (by simp <;> omega)
       have hB' := hB.setCell (p := ⟨w.heap.size, 0, none⟩) (Nat.le_refl _) (.int .u64 s)
       have Hx := Lib.hid hx; clear hx
       have Hsum := Lib.hid hsum; clear hsum
       have M0' := Lib.hid m0'; clear m0'
       have M2' := Lib.hid m2'; clear m2'
       have HB' := Lib.hid hB'; clear hB'
       clear hss hdd
       go_wp2_with fail
       clear M0 M2 hB
       obtain ⟨w3, rfl⟩ : ∃ w3 : World, w3 = wr := ⟨_, rfl⟩
       go_loopw [7, 8] (fun u i wr => ∃ (k : Nat) (h : Nat → Int) (dd : Int), 1 ≤ k ∧ k ≤ 4 ∧ i = .int .i64 k ∧ u = .int .u64 dd ∧ 0 ≤ dd ∧ dd ≤ 1 ∧ (∀ j, j < k → 0 ≤ h j ∧ h j < 18446744073709551616) ∧ (∀ j, k ≤ j → h j = dg 18446744073709551616 A j) ∧ qp 18446744073709551616 h k = qp 18446744073709551616 (dg 18446744073709551616 A) k - 38 + dd * 18446744073709551616 ^ k ∧ Has wr w.heap.size (row .u64 4 h) 180 ∧ HasN wr (w.heap.size + 1 + 1) 4 180 ∧ Below w.heap.size w wr) (fun _ i _ => 4 - (RowKit.intOf i).toNat)
       case atStart =>
        refine ⟨1, upd (dg 18446744073709551616 A) 0 s, d, by omega, by omega, rfl, rfl, d0, d1, ?_, ?_, ?_, M0'.out, M2'.out, HB'.out⟩
        · intro j hj
          obtain rfl : j = 0 := by omega
          rw [qr]; exact ⟨s0, s1⟩
        · intro j hj; rw [qt _ _ _ _ (by omega)]
        · have := Hsum.out
          simp only [qp, qr, Int.pow_zero, Int.mul_one, Int.zero_add, Int.pow_one]
          rw [← Hx.out]; omega
       case round =>
        clear M0' M2' HB'
        obtain ⟨k, h, dd, hk1, hk, rfl, rfl, dd0, dd1, hd, hg, hs, m0, m2, hB⟩ := hrel
        have M0 := Lib.hid m0; clear m0
        have M2 := Lib.hid m2; clear m2
        have Hd := Lib.hid hd; clear hd
        have Hg := Lib.hid hg; clear hg
        have Hs := Lib.hid hs; clear hs
        by_cases hlt : k < 4
        · have h1 := M0.out.cell k hlt
          have hfz := M0.out.frozen k
          have y0 := qbr A k
          have y1 := qaR A k
          rw [Hg.out k (Nat.le_refl _)] at h1
          obtain ⟨y, hy⟩ : ∃ y, y = dg 18446744073709551616 A k := ⟨_, rfl⟩
          rw [← hy] at h1 y0 y1
          have kb := fun w => sub64 y 0 dd y0 (by omega) (by omega) dd0 dd1 w
          obtain ⟨s', d', hss, hdd, s0', s1', d0', d1', hsum'⟩ := bor_sum y 0 dd y0 y1 (by omega) (by omega) dd0 dd1
          rw [hss, hdd] at kb
          have Hy := Lib.hid hy; clear hy
          have Hsum' := Lib.hid hsum'; clear hsum'
          clear hss hdd ka
          go_wp2_with fail
          go_roundw
          case measure => simp [RowKit.intOf]; omega
          case rel =>
           refine ⟨k + 1, upd h k s', d', by omega, by omega, by go_num, rfl, d0', d1', ?_, ?_, ?_, M0.out.set _ _, M2.out.other _ _ (by simp <;> omega), by first | exact hB.setCell (Nat.le_refl _) _ | exact (hB.setCell (Nat.le_refl _) _).drew⟩
           · intro j hj
             by_cases e : j = k
             · subst e; rw [qr]; exact ⟨s0', s1'⟩
             · rw [qt _ _ _ _ e]; exact Hd.out j (by omega)
           · intro j hj; rw [qt _ _ _ _ (by omega)]; exact Hg.out j (by omega)
           · have := sub_step _ _ _ 38 _ 0 _ _ _ Hs.out Hsum'.out
             simp only [qp]
             rw [qQ _ _ _ _ _ (Nat.le_refl _), qr, ← Hy.out, Int.pow_succ, this]
             omega
        · obtain rfl : k = 4 := by omega
          obtain ⟨A2, hA2, hrow, hsum2⟩ := qbV h Hd.out
          have hs4 := Hs.out
          rw [hsum2, qcr A HA.out, qbR] at hs4
          have m0 := M0.out
          rw [hrow] at m0
          obtain ⟨o2, rfl⟩ := Int.eq_ofNat_of_zero_le dd0
          have hnum : A2 + 38 = A + o2 * 115792089237316195423570985008687907853269984665640564039457584007913129639936 := by omega
          have hres2 : ((A2 : Int) - o2 * 115792089237316195423570985008687907853269984665640564039457584007913129639936) % (PP : Int) = r := by rw [minus_mod A A2 o2 hnum]; exact Hres.out
          have hms : qaI o2 A2 < gk := by rw [Hgk.out]; exact rounds_down A A2 o2 (by omega) hnum hA2
          have M0 := Lib.hid m0; clear m0
          have Hres2 := Lib.hid hres2; clear hres2
          have HA2 := Lib.hid hA2; clear hA2
          have Hms := Lib.hid hms; clear hms
          clear hrow hsum2 hs4 ka hnum
          go_wp2_with fail
          go_roundg (qaI o2 A2)
          case measure => exact Hms.out
          case rel => exact ⟨A2, o2, rfl, HA2.out, by omega, rfl, Hres2.out, M0.out, M2.out, hB⟩
     · obtain rfl : c = 0 := by omega
       obtain ⟨Z, hZ, mz⟩ := M2.out
       have hfin : A % PP = r.toNat := by
        have := Hres.out
        rw [← this]
        have e : ((A : Int) - ((0 : Nat) : Int) * 115792089237316195423570985008687907853269984665640564039457584007913129639936) = (A : Int) := by omega
        rw [e, ← Int.natCast_emod, Int.toNat_natCast]
       have HBB := Lib.hid (below_setRow hB (w.heap.size + 1 + 1) (e4 A) (by omega))
       have Mz := Lib.hid mz; clear mz
       have HZ := Lib.hid hZ; clear hZ
       have Hfin := Lib.hid hfin; clear hfin
       clear Hgk Hres
       go_wp2_with (first | (refine wpList_load_row rfl 180 _ rfl (w.heap.size) rfl 180 (e4 A) (0, 0) _ M0.out Tryz.underlying180 rfl (by rw [qd]; kernel_rfl) ?_) | (refine wpList_store_row rfl 180 _ _ rfl (w.heap.size + 1 + 1) _ rfl rfl 180 Z Mz.out (by rw [qd]; kernel_rfl) (HZ.out.trans (qd _).symm) (qo _ _ _) ?_))
       exact bodyPost_ret (v := .agg (e4 A)) (results_cell_row (t := 180) (by rfl) _ _ (w.heap.size + 1 + 1) _ _ _ rfl (Mz.out.setRow _) Tryz.underlying180 rfl (by rw [qd]; kernel_rfl)) rfl ⟨A, HA.out, Hfin.out, rfl, HBB.out⟩
end
section
open Go.RowKit Go.Lib
theorem mul_step (x y wd cr : Int) (hx : 0 ≤ x) (hx' : x < 18446744073709551616) (hy : 0 ≤ y) (hy' : y < 18446744073709551616) (hw : 0 ≤ wd) (hw' : wd < 18446744073709551616) (hc : 0 ≤ cr) (hc' : cr < 18446744073709551616) :
 ∃ hi lo s1 c1 s2 c2 : Int, x * y / 18446744073709551616 = hi ∧ x * y % 18446744073709551616 = lo ∧ (lo + wd) % 18446744073709551616 = s1 ∧ (lo + wd) / 18446744073709551616 = c1 ∧ (s1 + cr) % 18446744073709551616 = s2 ∧ (s1 + cr) / 18446744073709551616 = c2 ∧
  0 ≤ hi ∧ hi < 18446744073709551616 ∧ 0 ≤ lo ∧ lo < 18446744073709551616 ∧ 0 ≤ s1 ∧ s1 < 18446744073709551616 ∧ 0 ≤ c1 ∧ c1 ≤ 1 ∧ 0 ≤ s2 ∧ s2 < 18446744073709551616 ∧ 0 ≤ c2 ∧ c2 ≤ 1 ∧ hi + c1 < 18446744073709551616 ∧ hi + c1 + c2 < 18446744073709551616 ∧
  s2 + 18446744073709551616 * (hi + c1 + c2) = x * y + wd + cr := by
 have hp : x * y ≤ 18446744073709551615 * 18446744073709551615 := Int.mul_le_mul (by omega) (by omega) hy (by decide)
 have hp0 : 0 ≤ x * y := Int.mul_nonneg hx hy
 generalize x * y = p at *
 exact ⟨_, _, _, _, _, _, rfl, rfl, rfl, rfl, rfl, rfl, by omega, by omega, by omega, by omega, by omega, by omega, by omega, by omega, by omega, by omega, by omega, by omega, by omega, by omega, by omega⟩
theorem qdt (B : Int) (f : Nat → Int) (n : Nat) : qp B f (n + 1) = qp B f n + f n * B ^ n := rfl
theorem mul_add (H G D X b y cr wd s2 k' Bk : Int) (h : H + cr * (D * Bk) = G + X * D * b) (hs : s2 + 18446744073709551616 * k' = X * y + wd + cr) : H + (s2 - wd) * (D * Bk) + k' * (D * (Bk * 18446744073709551616)) = G + X * D * (b + y * Bk) := by
 have : s2 = X * y + wd + cr - 18446744073709551616 * k' := by omega
 subst this; grind
theorem low_add (S D F G x y c r q : Int) (h : S + c * D = F + 38 * G) (hr : r + 18446744073709551616 * q = y * 38 + x + c) : (S + r * D) + q * (D * 18446744073709551616) = (F + x * D) + 38 * (G + y * D) := by
 have : r = y * 38 + x + c - 18446744073709551616 * q := by omega
 subst this; grind
theorem lh_mod (A o L H m : Nat) (h : A + o * 115792089237316195423570985008687907853269984665640564039457584007913129639936 = L + 38 * H) (hm : m = L + 115792089237316195423570985008687907853269984665640564039457584007913129639936 * H) : (A + o * 115792089237316195423570985008687907853269984665640564039457584007913129639936) % PP = m % PP := by
 have e : 115792089237316195423570985008687907853269984665640564039457584007913129639936 = 38 + 2 * PP := by decide +kernel
 rw [h, hm, e, Nat.add_mul, ← Nat.add_assoc, show 2 * PP * H = PP * (2 * H) by ac_rfl, Nat.add_mul_mod_self_left]
theorem qB (a b : Nat) (ha : a < 115792089237316195423570985008687907853269984665640564039457584007913129639936) (hb : b < 115792089237316195423570985008687907853269984665640564039457584007913129639936) (w : World) :
 Calls Tryz.prog 210 #[.agg (e4 a), .agg (e4 b)] w (ElP (a * b % PP) w) := by
 obtain ⟨r, hr⟩ : ∃ r, r = a * b % PP := ⟨_, rfl⟩
 rw [← hr]
 have Ha := Lib.hid ha; clear ha
 have Hb := Lib.hid hb; clear hb
 have Hr := Lib.hid hr; clear hr
 go_enter Tryz.func210, Tryz.ntmps210
 have M0 := Lib.hid (((Has.new w (e4 a) 180).alloc (.cells (e4 b) 180)).alloc (.cells (#[.int .u64 0, .int .u64 0, .int .u64 0, .int .u64 0] : Array Value) 180) |>.alloc (.cells (#[.int .u64 0, .int .u64 0, .int .u64 0, .int .u64 0, .int .u64 0, .int .u64 0, .int .u64 0, .int .u64 0] : Array Value) 172))
 go_wp2_with (refine wpList_load_row rfl 180 _ rfl (w.heap.size) rfl 180 (e4 a) (0, 0) _ M0.out Tryz.underlying180 rfl (by rw [qd]; kernel_rfl) ?_)
 clear M0
 go_loopw [21] (fun i wr => ∃ (k : Nat) (h : Nat → Int), k ≤ 4 ∧ i = .int .i64 k ∧ (∀ j, 0 ≤ h j ∧ h j < 18446744073709551616) ∧ (∀ j, k + 4 ≤ j → h j = 0) ∧ qp 18446744073709551616 h (k + 4) = qp 18446744073709551616 (dg 18446744073709551616 a) k * b ∧ Has wr w.heap.size (e4 a) 180 ∧ Has wr (w.heap.size + 1) (e4 b) 180 ∧ HasN wr (w.heap.size + 1 + 1) 4 180 ∧ Has wr (w.heap.size + 1 + 1 + 1) (row .u64 8 h) 172 ∧ Below w.heap.size w wr) (fun i _ => 4 - (RowKit.intOf i).toNat)
 case atStart => exact ⟨0, fun _ => 0, by omega, rfl, fun j => by simp, fun _ _ => rfl, by rw [Q8 _ _ _ (fun _ _ => rfl)]; simp [qp], ((Has.new _ _ _).alloc _ |>.alloc _).alloc _, ((Has.new1 _ _ _ _).alloc _).alloc _, (HasN.new2 _ _ _ _ _ 4 rfl).alloc _, Has.new3 _ _ _ _ _ _, qbn _ _ _ _ _⟩
 case round =>
  obtain ⟨i, g, hi, rfl, hd, hz, hs, m0, m1, m2, m3, hB⟩ := hrel
  have M0 := Lib.hid m0; clear m0
  have M1 := Lib.hid m1; clear m1
  have M2 := Lib.hid m2; clear m2
  have M3 := Lib.hid m3; clear m3
  have Hd := Lib.hid hd; clear hd
  have Hz := Lib.hid hz; clear hz
  have Hs := Lib.hid hs; clear hs
  by_cases hlt : i < 4
  · have hix := fun w => QU w 180 131 4 .u64 Tryz.underlying180 Tryz.underlying131 sz_u64 (dg 18446744073709551616 a) i hlt
    have x0 := qbr a i
    have x1 := qaR a i
    obtain ⟨x, hx⟩ : ∃ x, x = dg 18446744073709551616 a i := ⟨_, rfl⟩
    rw [← hx] at hix x0 x1
    rw [show row .u64 4 (dg 18446744073709551616 a) = e4 a from rfl] at hix
    have Hx := Lib.hid hx; clear hx
    go_wp2_with (refine wpList_load_row rfl 180 _ rfl (w.heap.size + 1) rfl 180 (e4 b) (0, 0) _ M1.out Tryz.underlying180 rfl (by rw [qd]; kernel_rfl) ?_)
    obtain ⟨w2, rfl⟩ : ∃ w2 : World, w2 = wr := ⟨_, rfl⟩
    go_loopw [8, 26] (fun u s wr => ∃ (k : Nat) (h : Nat → Int) (cr : Int), k ≤ 4 ∧ s = .int .i64 k ∧ u = .int .u64 cr ∧ 0 ≤ cr ∧ cr < 18446744073709551616 ∧ (∀ j, 0 ≤ h j ∧ h j < 18446744073709551616) ∧ (∀ j, i + 4 ≤ j → h j = 0) ∧ qp 18446744073709551616 h (i + 4) + cr * (18446744073709551616 ^ i * 18446744073709551616 ^ k) = qp 18446744073709551616 g (i + 4) + x * 18446744073709551616 ^ i * qp 18446744073709551616 (dg 18446744073709551616 b) k ∧ Has wr w.heap.size (e4 a) 180 ∧ Has wr (w.heap.size + 1) (e4 b) 180 ∧ HasN wr (w.heap.size + 1 + 1) 4 180 ∧ Has wr (w.heap.size + 1 + 1 + 1) (row .u64 8 h) 172 ∧ Below w.heap.size w wr) (fun _ s _ => 4 - (RowKit.intOf s).toNat)
    case atStart => exact ⟨0, g, 0, by omega, rfl, rfl, by omega, by omega, Hd.out, Hz.out, by rw [show qp 18446744073709551616 (dg 18446744073709551616 b) 0 = 0 from rfl]; simp, M0.out, M1.out, M2.out, M3.out, hB⟩
    case round =>
     clear M0 M1 M2 M3 hB
     obtain ⟨k, h, cr, hk, rfl, rfl, cr0, cr1, hd, hz, hs, m0, m1, m2, m3, hB⟩ := hrel
     have He := Lib.hid hd; clear hd
     have Hy := Lib.hid hz; clear hz
     have Ht := Lib.hid hs; clear hs
     have M0 := Lib.hid m0; clear m0
     have M1 := Lib.hid m1; clear m1
     have M2 := Lib.hid m2; clear m2
     have M3 := Lib.hid m3; clear m3
     by_cases hlk : k < 4
     · have hiy := fun w => QU w 180 131 4 .u64 Tryz.underlying180 Tryz.underlying131 sz_u64 (dg 18446744073709551616 b) k hlk
       have y0 := qbr b k
       have y1 := qaR b k
       have h3 := M3.out.cell (i + k) (by omega)
       have hfz := M3.out.frozen (i + k)
       have z0 := (He.out (i + k)).1
       have z1 := (He.out (i + k)).2
       obtain ⟨y, hy⟩ : ∃ y, y = dg 18446744073709551616 b k := ⟨_, rfl⟩
       obtain ⟨wd, hwd⟩ : ∃ z, z = h (i + k) := ⟨_, rfl⟩
       rw [← hy] at hiy y0 y1
       rw [← hwd] at h3 z0 z1
       rw [show row .u64 4 (dg 18446744073709551616 b) = e4 b from rfl] at hiy
       have hm := fun w => mul64 x y x0 x1 y0 y1 w
       obtain ⟨hi', lo, s1, c1, s2, c2, e1, e2, e3, e4', e5, e6, b1, b2, b3, b4, b5, b6, b7, b8, b9, b10, b11, b12, b13, b14, hsum⟩ := mul_step x y wd cr x0 x1 y0 y1 z0 z1 cr0 cr1
       have ka := fun w => qbo lo wd b3 z0 w
       have kb := fun w => qbo s1 cr b5 cr0 w
       rw [e1, e2] at hm
       rw [e3, e4'] at ka
       rw [e5, e6] at kb
       have HyK := Lib.hid hy; clear hy
       have Hwd := Lib.hid hwd; clear hwd
       have Hm := Lib.hid hm; clear hm
       have Hsum := Lib.hid hsum; clear hsum
       clear e1 e2 e3 e4' e5 e6
       go_wp2_with fail
       refine (Hm.out _).mono ?_
       rintro e w3 ⟨rfl, rfl⟩
       go_wp2_with fail
       go_roundw
       case measure => simp [RowKit.intOf]; omega
       case rel =>
        refine ⟨k + 1, upd h (i + k) s2, hi' + c1 + c2, by omega, by go_num, rfl, by omega, b14, ?_, ?_, ?_, M0.out.other _ _ (by simp <;> omega), M1.out.other _ _ (by simp <;> omega), M2.out.other _ _ (by simp <;> omega), M3.out.set _ _, by first | exact hB.setCell (by simp <;> omega) _ | exact (hB.setCell (by simp <;> omega) _).drew⟩
        · intro j
          by_cases e : j = i + k
          · subst e; rw [qr]; exact ⟨b9, b10⟩
          · rw [qt _ _ _ _ e]; exact He.out j
        · intro j hj; rw [qt _ _ _ _ (by omega)]; exact Hy.out j hj
        · rw [Qm _ _ _ _ _ (by omega), ← Hwd.out, Int.pow_add]
          simp only [qp]
          rw [← HyK.out, Int.pow_succ]
          exact mul_add _ _ _ _ _ _ _ _ _ _ _ Ht.out Hsum.out
     · obtain rfl : k = 4 := by omega
       have h3 := M3.out.cell (i + 4) (by omega)
       have hfz := M3.out.frozen (i + 4)
       clear hix
       go_wp2_with fail
       go_roundw
       case measure => simp [RowKit.intOf]; omega
       case rel =>
        refine ⟨i + 1, upd h (i + 4) cr, by omega, by go_num, ?_, ?_, ?_, M0.out.other _ _ (by simp <;> omega), M1.out.other _ _ (by simp <;> omega), M2.out.other _ _ (by simp <;> omega), M3.out.set _ _, by first | exact hB.setCell (by simp <;> omega) _ | exact (hB.setCell (by simp <;> omega) _).drew⟩
        · intro j
          by_cases e : j = i + 4
          · subst e; rw [qr]; exact ⟨cr0, cr1⟩
          · rw [qt _ _ _ _ e]; exact He.out j
        · intro j hj; rw [qt _ _ _ _ (by omega)]; exact Hy.out j (by omega)
        · rw [show i + 1 + 4 = (i + 4) + 1 by omega]
          have e1 := Ht.out
          rw [Hs.out, qcr b Hb.out] at e1
          rw [qdt _ (upd h (i + 4) cr) (i + 4), qdt _ (dg 18446744073709551616 a) i, qQ _ _ _ _ _ (Nat.le_refl _), qr, Int.pow_add 18446744073709551616 i 4, Int.add_mul, ← Hx.out]
          exact e1
  · obtain rfl : i = 4 := by omega
    have hwide := Hs.out
    rw [qcr a Ha.out] at hwide
    have hlow := qbV g (fun j _ => Hd.out j)
    have hhigh := qbV (fun j => g (j + 4)) (fun j _ => Hd.out (j + 4))
    obtain ⟨lw, hlw, _, hlws⟩ := hlow
    obtain ⟨hg, hhg, _, hhgs⟩ := hhigh
    have hsp := zO 18446744073709551616 g 4 4
    rw [show (4 + 4 : Nat) = 8 from rfl] at hsp
    rw [show (4 + 4 : Nat) = 8 from rfl, hsp, hlws, hhgs, qbR] at hwide
    have hnum : a * b = lw + 115792089237316195423570985008687907853269984665640564039457584007913129639936 * hg := by
     have : ((a * b : Nat) : Int) = ((lw + 115792089237316195423570985008687907853269984665640564039457584007913129639936 * hg : Nat) : Int) := by rw [Int.natCast_mul, ← hwide, Int.natCast_add, Int.natCast_mul]; rfl
     exact Int.ofNat_inj.1 this
    have N0 := Lib.hid (M2.out.alloc (.cells (#[.int .u64 0, .int .u64 0, .int .u64 0, .int .u64 0] : Array Value) 180))
    have N3 := Lib.hid (M3.out.alloc (.cells (#[.int .u64 0, .int .u64 0, .int .u64 0, .int .u64 0] : Array Value) 180))
    have N4 := Lib.hid (Has.new wr (#[.int .u64 0, .int .u64 0, .int .u64 0, .int .u64 0] : Array Value) 180)
    have HB := Lib.hid (hB.alloc hB.size (.cells (#[.int .u64 0, .int .u64 0, .int .u64 0, .int .u64 0] : Array Value) 180))
    have hl3 := M3.out.lt
    have Hnum := Lib.hid hnum; clear hnum
    have Hlws := Lib.hid hlws; clear hlws
    have Hhgs := Lib.hid hhgs; clear hhgs
    clear hwide hsp M0 M1 M2 M3 hB Ha Hb Hs
    rw [show ((4 : Nat) : Int) = 4 from rfl]
    go_wp2_with fail
    obtain ⟨w2, rfl⟩ : ∃ w2 : World, w2 = wr := ⟨_, rfl⟩
    go_loopw [15, 68] (fun u s wr => ∃ (k : Nat) (h : Nat → Int) (cr : Int), k ≤ 4 ∧ s = .int .i64 k ∧ u = .int .u64 cr ∧ 0 ≤ cr ∧ cr < 18446744073709551616 ∧ (∀ j, 0 ≤ h j ∧ h j < 18446744073709551616) ∧ qp 18446744073709551616 h k + cr * 18446744073709551616 ^ k = qp 18446744073709551616 g k + 38 * qp 18446744073709551616 (fun j => g (j + 4)) k ∧ HasN wr (w.heap.size + 1 + 1) 4 180 ∧ Has wr (w.heap.size + 1 + 1 + 1) (row .u64 8 g) 172 ∧ Has wr w2.heap.size (row .u64 4 h) 180 ∧ Below w.heap.size w wr) (fun _ s _ => 4 - (RowKit.intOf s).toNat)
    case atStart => exact ⟨0, fun _ => 0, 0, by omega, rfl, rfl, by omega, by omega, fun j => by simp, by simp [qp], N0.out, N3.out, N4.out, HB.out⟩
    case round =>
     clear N0 N3 N4 HB
     obtain ⟨k, h, cr, hk, rfl, rfl, cr0, cr1, hd, hs, m2, m3, m4, hB⟩ := hrel
     have He := Lib.hid hd; clear hd
     have M2 := Lib.hid m2; clear m2
     have M3 := Lib.hid m3; clear m3
     have M4 := Lib.hid m4; clear m4
     have Hs := Lib.hid hs; clear hs
     by_cases hlk : k < 4
     · have h1 := M3.out.cell k (by omega)
       have h2 := M3.out.cell (k + 4) (by omega)
       have h3 := M4.out.cell k hlk
       have hfz := M4.out.frozen k
       have x0 := (Hd.out (k + 4)).1
       have x1 := (Hd.out (k + 4)).2
       have z0 := (Hd.out k).1
       have z1 := (Hd.out k).2
       obtain ⟨x, hx⟩ : ∃ x, x = g (k + 4) := ⟨_, rfl⟩
       obtain ⟨wd, hwd⟩ : ∃ z, z = g k := ⟨_, rfl⟩
       rw [← hx] at h2 x0 x1
       rw [← hwd] at h1 z0 z1
       have hm := fun w => mul64 x 38 x0 x1 (by omega) (by omega) w
       obtain ⟨hi', lo, s1, c1, s2, c2, e1, e2, e3, e4', e5, e6, b1, b2, b3, b4, b5, b6, b7, b8, b9, b10, b11, b12, b13, b14, hsum⟩ := mul_step x 38 wd cr x0 x1 (by omega) (by omega) z0 z1 cr0 cr1
       have ka := fun w => qbo lo wd b3 z0 w
       have kb := fun w => qbo s1 cr b5 cr0 w
       rw [e1, e2] at hm
       rw [e3, e4'] at ka
       rw [e5, e6] at kb
       have Hx := Lib.hid hx; clear hx
       have Hwd := Lib.hid hwd; clear hwd
       have Hm := Lib.hid hm; clear hm
       have Hsum := Lib.hid hsum; clear hsum
       clear e1 e2 e3 e4' e5 e6
       go_wp2_with fail
       refine (Hm.out _).mono ?_
       rintro e w3 ⟨rfl, rfl⟩
       go_wp2_with fail
       go_roundw
       case measure => simp [RowKit.intOf]; omega
       case rel =>
        refine ⟨k + 1, upd h k s2, hi' + c1 + c2, by omega, by go_num, rfl, by omega, b14, ?_, ?_, M2.out.other _ _ (by simp <;> omega), M3.out.other _ _ (by simp <;> omega), M4.out.set _ _, by first | exact hB.setCell (by simp <;> omega) _ | exact (hB.setCell (by simp <;> omega) _).drew⟩
        · intro j
          by_cases e : j = k
          · subst e; rw [qr]; exact ⟨b9, b10⟩
          · rw [qt _ _ _ _ e]; exact He.out j
        · simp only [qp]
          rw [qQ _ _ _ _ _ (Nat.le_refl _), qr, ← Hx.out, ← Hwd.out, Int.pow_succ]
          exact low_add _ _ _ _ _ _ _ _ _ Hs.out Hsum.out
     · obtain rfl : k = 4 := by omega
       obtain ⟨A', hA', hrow, hsumA⟩ := qbV h (fun j _ => He.out j)
       have hs4 := Hs.out
       rw [hsumA, Hlws.out, Hhgs.out, qbR] at hs4
       have m4 := M4.out
       rw [hrow] at m4
       obtain ⟨o', rfl⟩ := Int.eq_ofNat_of_zero_le cr0
       have hf := fun w => fold_any A' o' hA' (by omega) w
       have hres : (A' + o' * 115792089237316195423570985008687907853269984665640564039457584007913129639936) % PP = r := by rw [Hr.out]; exact lh_mod A' o' lw hg (a * b) (by omega) Hnum.out
       rw [hres] at hf
       have Q4 := Lib.hid m4; clear m4 M4
       have Hf := Lib.hid hf; clear hf
       clear hrow hsumA hs4 hA' hres hlw hhg
       go_wp2_with (refine wpList_load_row rfl 180 _ rfl (w2.heap.size) rfl 180 (e4 A') (0, 0) _ Q4.out Tryz.underlying180 rfl (by rw [qd]; kernel_rfl) ?_)
       refine (Hf.out _).mono ?_
       rintro e w4 ⟨m, hm, hmr, rfl, b1⟩
       obtain ⟨Z, hZ, mz⟩ := M2.out.call b1
       have HBB := Lib.hid (below_setRow (qf hB b1) (w.heap.size + 1 + 1) (e4 m) (by omega))
       have Mz := Lib.hid mz; clear mz
       have HZ := Lib.hid hZ; clear hZ
       have Hm := Lib.hid hm; clear hm
       have Hmr := Lib.hid hmr; clear hmr
       clear b1
       go_wp2_with (refine wpList_store_row rfl 180 _ _ rfl (w.heap.size + 1 + 1) _ rfl rfl 180 Z Mz.out (by rw [qd]; kernel_rfl) (HZ.out.trans (qd _).symm) (qo _ _ _) ?_)
       exact bodyPost_ret (v := .agg (e4 m)) (results_cell_row (t := 180) (by rfl) _ _ (w.heap.size + 1 + 1) _ _ _ rfl (Mz.out.setRow _) Tryz.underlying180 rfl (by rw [qd]; kernel_rfl)) rfl ⟨m, Hm.out, Hmr.out, rfl, HBB.out⟩
end
section
open Go.RowKit Go.Lib
def ofw (n k q : Nat) : Nat := if k ≤ 8 * q then n / 256 ^ (8 * q) % 256 ^ 8 else if 8 * q + 8 ≤ k then 0 else n / 256 ^ k % 256 ^ (8 * q + 8 - k)
theorem qcK (n k q : Nat) (h1 : 8 * q ≤ k) (h2 : k ≤ 8 * q + 8) : ofw n k q = n / 256 ^ k % 256 ^ (8 * q + 8 - k) := by
 unfold ofw
 split
 · have : k = 8 * q := by omega
   subst this; rw [show 8 * q + 8 - 8 * q = 8 by omega]
 · split
   · have : k = 8 * q + 8 := by omega
     subst this; simp [Nat.mod_one]
   · rfl
theorem ofw_other (n k q : Nat) (h : q ≠ k / 8) : ofw n (k + 1) q = ofw n k q := by
 unfold ofw
 by_cases h1 : k + 1 ≤ 8 * q
 · rw [if_pos h1, if_pos (by omega)]
 · rw [if_neg h1, if_neg (show ¬ k ≤ 8 * q by omega), if_pos (show 8 * q + 8 ≤ k + 1 by omega), if_pos (show 8 * q + 8 ≤ k by omega)]
theorem ofw_step (n k : Nat) : ofw n k (k / 8) = ofw n (k + 1) (k / 8) * 256 + n / 256 ^ k % 256 := by
 rw [qcK n k (k / 8) (by omega) (by omega), qcK n (k + 1) (k / 8) (by omega) (by omega)]
 have e : 8 * (k / 8) + 8 - k = (8 * (k / 8) + 8 - (k + 1)) + 1 := by omega
 rw [e, Nat.pow_succ 256 (8 * (k / 8) + 8 - (k + 1)), Nat.mul_comm, Nat.mod_mul, Nat.pow_succ 256 k, ← Nat.div_div_eq_div_mul]
 omega
theorem ofw_lt (n k : Nat) : ofw n (k + 1) (k / 8) < 72057594037927936 := by
 rw [qcK n (k + 1) (k / 8) (by omega) (by omega)]
 have h1 : n / 256 ^ (k + 1) % 256 ^ (8 * (k / 8) + 8 - (k + 1)) < 256 ^ (8 * (k / 8) + 8 - (k + 1)) := Nat.mod_lt _ (Nat.pow_pos (by decide))
 have h2 : 256 ^ (8 * (k / 8) + 8 - (k + 1)) ≤ 256 ^ 7 := Nat.pow_le_pow_right (by decide) (by omega)
 have h3 : (256 : Nat) ^ 7 = 72057594037927936 := by decide
 omega
theorem or_byte (a b : Nat) (ha : a < 72057594037927936) (hb : b < 256) : bits .or .u64 ((a : Int) * 256) (b : Int) = ((a * 256 + b : Nat) : Int) := by
 have h := bits_or_u64_nat (a * 256) b (by omega) (by omega)
 have e : a * 256 ||| b = a * 256 + b := by
  have := Nat.shiftLeft_add_eq_or_of_lt (i := 8) (b := b) (by omega) a
  rw [Nat.shiftLeft_eq] at this
  exact this.symm
 rw [e] at h
 rw [← h, Int.natCast_mul]; rfl
theorem and_top (a : Nat) (ha : a < 18446744073709551616) : bits .and .u64 (a : Int) 9223372036854775807 = ((a % 9223372036854775808 : Nat) : Int) := by
 have h := bits_and_u64_nat a 9223372036854775807 ha (by omega)
 have e : a &&& 9223372036854775807 = a % 9223372036854775808 := Nat.and_two_pow_sub_one_eq_mod a 63
 rw [e] at h
 exact h
theorem ofw_0 (n q : Nat) : (ofw n 0 q : Int) = dg 18446744073709551616 n q := by
 unfold ofw dg
 rw [if_pos (by omega), Nat.pow_mul, show (256 : Nat) ^ 8 = 18446744073709551616 by decide]
theorem top_row (n : Nat) (hn : n < 115792089237316195423570985008687907853269984665640564039457584007913129639936) (h : Nat → Int) (hh : ∀ q, q < 4 → h q = dg 18446744073709551616 n q) (t : Nat) (ht : h 3 = t) : row .u64 4 (upd h 3 ((t % 9223372036854775808 : Nat) : Int)) = e4 (n % 57896044618658097711785492504343953926634992332820282019728792003956564819968) := by
 have h3 : (t : Int) = ((n / 18446744073709551616 ^ 3 % 18446744073709551616 : Nat) : Int) := by rw [← ht, hh 3 (by omega)]; rfl
 have hp : (18446744073709551616 : Nat) ^ 3 = 6277101735386680763835789423207666416102355444464034512896 := by decide +kernel
 refine q7 _ _ _ _ (zm 18446744073709551616 _ _ 4 (fun i hi => ?_) ?_)
 · by_cases e : i = 3
   · subst e; rw [qr]; omega
   · rw [qt _ _ _ _ e, hh i hi]; exact ⟨qbr n i, qaR n i⟩
 · show qp 18446744073709551616 _ 4 = _
   rw [Qm _ _ _ _ _ (by omega), Q6 _ h (dg 18446744073709551616 n) 4 hh, qcr n hn, ht]
   have hp3 : (18446744073709551616 : Int) ^ 3 = 6277101735386680763835789423207666416102355444464034512896 := by decide +kernel
   rw [hp] at h3
   rw [hp3]
   omega
theorem of_any (n : Nat) (hn : n < 115792089237316195423570985008687907853269984665640564039457584007913129639936) (w : World) :
 Calls Tryz.prog 159 #[.agg (k32 n)] w fun e w' => e = .returned (.agg (e4 (n % 57896044618658097711785492504343953926634992332820282019728792003956564819968))) ∧ Below w.heap.size w w' := by
 have HT := Lib.hid (top_row n hn); clear hn
 obtain ⟨r, hr⟩ : ∃ r, r = n % 57896044618658097711785492504343953926634992332820282019728792003956564819968 := ⟨_, rfl⟩
 rw [← hr] at HT ⊢
 clear hr
 go_enter Tryz.func159, Tryz.ntmps159
 go_wp2_with fail
 go_loopw [3] (fun i wr => ∃ (k : Nat) (h : Nat → Int), k ≤ 32 ∧ i = .int .i64 ((k : Int) - 1) ∧ (∀ q, q < 4 → h q = (ofw n k q : Int)) ∧ Has wr w.heap.size (k32 n) 36 ∧ Has wr (w.heap.size + 1) (row .u64 4 h) 180 ∧ Below w.heap.size w wr) (fun i _ => (RowKit.intOf i + 1).toNat)
 case atStart =>
  refine ⟨32, fun _ => 0, by omega, rfl, fun q hq => ?_, (Has.new _ _ _).alloc _, Has.new1 _ _ _ _, Qp _ _ _⟩
  unfold ofw
  rw [if_neg (by omega), if_pos (by omega)]; rfl
 case round =>
  obtain ⟨k, h, hk, rfl, hh, m0, m1, hB⟩ := hrel
  have M0 := Lib.hid m0; clear m0
  have M1 := Lib.hid m1; clear m1
  have Hh := Lib.hid hh; clear hh
  by_cases hlt : 0 < k
  · obtain ⟨k, rfl⟩ : ∃ j, k = j + 1 := ⟨k - 1, by omega⟩
    rw [show (((k + 1 : Nat) : Int) - 1) = (k : Int) by omega]
    have h1 := M0.out.cell k (by omega)
    have h2 := M1.out.cell (k / 8) (by omega)
    have hfz := M1.out.frozen (k / 8)
    rw [Hh.out (k / 8) (by omega)] at h2
    have x1 := ofw_lt n k
    have hst := ofw_step n k
    obtain ⟨x, hx⟩ : ∃ x, x = ofw n (k + 1) (k / 8) := ⟨_, rfl⟩
    obtain ⟨y, hy⟩ : ∃ y, y = n / 256 ^ k % 256 := ⟨_, rfl⟩
    have y1 : y < 256 := by rw [hy]; exact Nat.mod_lt _ (by decide)
    rw [show dg 256 n k = ((n / 256 ^ k % 256 : Nat) : Int) from rfl, ← hy] at h1
    rw [← hx] at h2 x1 hst
    rw [← hy] at hst
    have hor := or_byte x y x1 y1
    have k2 : (0 : Int) ≤ (k : Int) / 8 := by omega
    have k3 : (k : Int) / 8 < 4 := by omega
    have Hx := Lib.hid hx; clear hx
    have Hy := Lib.hid hy; clear hy
    have Hst := Lib.hid hst; clear hst
    go_wp2_with fail
    go_region
    go_wp2_with fail
    go_roundw
    case measure => simp [RowKit.intOf]
    case rel =>
     refine ⟨k, upd h (k / 8) ((x : Int) * 256 + y), by omega, rfl, ?_, M0.out.other _ _ (by simp <;> omega), M1.out.set _ _, (hB.setCell (by simp <;> omega) _).drew⟩
     intro q hq
     by_cases e : q = k / 8
     · subst e; rw [qr, Hst.out, Int.natCast_add, Int.natCast_mul]; rfl
     · rw [qt _ _ _ _ e, ← ofw_other n k q e]; exact Hh.out q hq
  · obtain rfl : k = 0 := by omega
    have h2 := M1.out.cell 3 (by omega)
    have hfz := M1.out.frozen 3
    have h0 : ∀ q, q < 4 → h q = dg 18446744073709551616 n q := fun q hq => (Hh.out q hq).trans (ofw_0 n q)
    have z1 : ofw n 0 3 < 18446744073709551616 := by
     have := qaR n 3
     rw [← ofw_0] at this; omega
    rw [Hh.out 3 (by omega)] at h2
    obtain ⟨t, ht⟩ : ∃ t, t = ofw n 0 3 := ⟨_, rfl⟩
    rw [← ht] at h2 z1
    have hand := and_top t z1
    have hrow := HT.out h h0 t (by rw [ht]; exact Hh.out 3 (by omega))
    have m1 := M1.out.set 3 ((t % 9223372036854775808 : Nat) : Int)
    rw [hrow] at m1
    have hB2 := hB.setCell (p := ⟨w.heap.size + 1, 3, none⟩) (show w.heap.size ≤ w.heap.size + 1 by omega) (.int .u64 ((t % 9223372036854775808 : Nat) : Int))
    obtain ⟨u, hu⟩ : ∃ u : Int, u = ((t % 9223372036854775808 : Nat) : Int) := ⟨_, rfl⟩
    rw [← hu] at hand m1 hB2
    have HBB := Lib.hid (below_setRow hB2 (w.heap.size + 1) (e4 r) (by omega))
    have Q1 := Lib.hid m1; clear m1
    have Q2 := Lib.hid (Q1.out.setRow (e4 r))
    clear hrow hu ht h0 hB2 M1
    go_wp2_with (first | (refine wpList_load_row rfl 180 _ rfl (w.heap.size + 1) rfl 180 (e4 r) (0, 0) _ Q1.out Tryz.underlying180 rfl (by rw [qd]; kernel_rfl) ?_) | (refine wpList_store_row rfl 180 _ _ rfl (w.heap.size + 1) _ rfl rfl 180 (e4 r) Q1.out (by rw [qd]; kernel_rfl) rfl (qo _ _ _) ?_))
    exact bodyPost_ret (v := .agg (e4 r)) (results_cell_row (t := 180) (by rfl) _ _ (w.heap.size + 1) _ _ _ rfl Q2.out Tryz.underlying180 rfl (by rw [qd]; kernel_rfl)) rfl ⟨rfl, HBB.out⟩
end
section
open Go.RowKit Go.Lib
theorem fold_0 (n : Nat) (w : World) : Calls Tryz.prog 249 #[.agg (e4 n), .int .u64 (0 : Nat)] w fun e w' => e = .returned (.agg (e4 n)) ∧ Below w.heap.size w w' := by
 go_enter Tryz.func249, Tryz.ntmps249
 have M0 := Lib.hid ((Has.new w (e4 n) 180).alloc (.cells (#[.int .u64 0, .int .u64 0, .int .u64 0, .int .u64 0] : Array Value) 180))
 obtain ⟨Z, hZ, mz⟩ := HasN.new1 w (.cells (e4 n) 180) (#[.int .u64 0, .int .u64 0, .int .u64 0, .int .u64 0] : Array Value) 180 4 rfl
 have HBB := Lib.hid (below_setRow (Qp w (.cells (e4 n) 180) (.cells (#[.int .u64 0, .int .u64 0, .int .u64 0, .int .u64 0] : Array Value) 180)) (w.heap.size + 1) (e4 n) (by omega))
 have Mz := Lib.hid mz; clear mz
 have HZ := Lib.hid hZ; clear hZ
 go_wp2_with fail
 refine wp_loop_rounds 1 ?_
 rw [rounds_succ]
 go_wp2_with (first | (refine wpList_load_row rfl 180 _ rfl (w.heap.size) rfl 180 (e4 n) (0, 0) _ M0.out Tryz.underlying180 rfl (by rw [qd]; kernel_rfl) ?_) | (refine wpList_store_row rfl 180 _ _ rfl (w.heap.size + 1) _ rfl rfl 180 Z Mz.out (by rw [qd]; kernel_rfl) (HZ.out.trans (qd _).symm) (qo _ _ _) ?_))
 exact bodyPost_ret (v := .agg (e4 n)) (results_cell_row (t := 180) (by rfl) _ _ (w.heap.size + 1) _ _ _ rfl (Mz.out.setRow _) Tryz.underlying180 rfl (by rw [qd]; kernel_rfl)) rfl ⟨rfl, HBB.out⟩
theorem qcF (a b : Nat) (ha : a < 115792089237316195423570985008687907853269984665640564039457584007913129639936) (hb : b < 115792089237316195423570985008687907853269984665640564039457584007913129639936) (hab : a + b < 115792089237316195423570985008687907853269984665640564039457584007913129639936) (w : World) :
 Calls Tryz.prog 211 #[.agg (e4 a), .agg (e4 b)] w fun e w' => e = .returned (.agg (e4 (a + b))) ∧ Below w.heap.size w w' := by
 obtain ⟨r, hr⟩ : ∃ r, r = a + b := ⟨_, rfl⟩
 rw [← hr] at hab ⊢
 have Ha := Lib.hid ha; clear ha
 have Hb := Lib.hid hb; clear hb
 have Hr := Lib.hid hr; clear hr
 have Hab := Lib.hid hab; clear hab
 go_enter Tryz.func211, Tryz.ntmps211
 go_wp2_with fail
 go_loopw [5, 7] (fun s i wr => ∃ (k : Nat) (h : Nat → Int) (c : Int), k ≤ 4 ∧ i = .int .i64 k ∧ s = .int .u64 c ∧ 0 ≤ c ∧ c ≤ 1 ∧ (∀ j, j < k → 0 ≤ h j ∧ h j < 18446744073709551616) ∧ (∀ j, k ≤ j → h j = dg 18446744073709551616 a j) ∧ qp 18446744073709551616 h k + c * 18446744073709551616 ^ k = qp 18446744073709551616 (dg 18446744073709551616 a) k + qp 18446744073709551616 (dg 18446744073709551616 b) k ∧ Has wr w.heap.size (row .u64 4 h) 180 ∧ Has wr (w.heap.size + 1) (e4 b) 180 ∧ HasN wr (w.heap.size + 1 + 1) 4 180 ∧ Below w.heap.size w wr) (fun _ i _ => 4 - (RowKit.intOf i).toNat)
 case atStart => exact ⟨0, dg 18446744073709551616 a, 0, by omega, rfl, rfl, by omega, by omega, fun j hj => by omega, fun _ _ => rfl, by simp [qp], ((Has.new _ _ _).alloc _).alloc _, (Has.new1 _ _ _ _).alloc _, HasN.new2 _ _ _ _ _ 4 rfl, Qz _ _ _ _⟩
 case round =>
  obtain ⟨k, h, c, hk, rfl, rfl, c0, c1, hd, hg, hs, m0, m1, m2, hB⟩ := hrel
  have M0 := Lib.hid m0; clear m0
  have M1 := Lib.hid m1; clear m1
  have M2 := Lib.hid m2; clear m2
  have Hd := Lib.hid hd; clear hd
  have Hg := Lib.hid hg; clear hg
  have Hs := Lib.hid hs; clear hs
  by_cases hlt : k < 4
  · have h1 := M0.out.cell k hlt
    have h2 := M1.out.cell k hlt
    have hfz := M0.out.frozen k
    have x0 := qbr a k
    have x1 := qaR a k
    have y0 := qbr b k
    have y1 := qaR b k
    rw [Hg.out k (Nat.le_refl _)] at h1
    obtain ⟨x, hx⟩ : ∃ x, x = dg 18446744073709551616 a k := ⟨_, rfl⟩
    obtain ⟨y, hy⟩ : ∃ y, y = dg 18446744073709551616 b k := ⟨_, rfl⟩
    rw [← hx] at h1 x0 x1
    rw [← hy] at h2 y0 y1
    have ka := fun w => add64 x y c x0 y0 c0 c1 w
    obtain ⟨s, hss⟩ : ∃ s, s = (x + y + c) % 18446744073709551616 := ⟨_, rfl⟩
    obtain ⟨d, hdd⟩ : ∃ d, d = (x + y + c) / 18446744073709551616 := ⟨_, rfl⟩
    rw [← hss, ← hdd] at ka
    have s0 : 0 ≤ s := by omega
    have s1 : s < 18446744073709551616 := by omega
    have d0 : 0 ≤ d := by omega
    have d1 : d ≤ 1 := by omega
    have hsum : x + y + c = s + 18446744073709551616 * d := by omega
    have Hx := Lib.hid hx; clear hx
    have Hy := Lib.hid hy; clear hy
    have Hsum := Lib.hid hsum; clear hsum
    clear hss hdd
    go_wp2_with fail
    go_region
    go_wp2_with fail
    go_roundw
    case measure => simp [RowKit.intOf]; omega
    case rel =>
     refine ⟨k + 1, upd h k s, d, by omega, by go_num, rfl, d0, d1, ?_, ?_, ?_, M0.out.set _ _, M1.out.other _ _ (by simp <;> omega), M2.out.other _ _ (by simp <;> omega), by first | exact hB.setCell (Nat.le_refl _) _ | exact (hB.setCell (Nat.le_refl _) _).drew⟩
     · intro j hj
       by_cases e : j = k
       · subst e; rw [qr]; exact ⟨s0, s1⟩
       · rw [qt _ _ _ _ e]; exact Hd.out j (by omega)
     · intro j hj; rw [qt _ _ _ _ (by omega)]; exact Hg.out j (by omega)
     · simp only [qp]
       rw [qQ _ _ _ _ _ (Nat.le_refl _), qr, ← Hx.out, ← Hy.out, Int.pow_succ]
       exact add_step _ _ _ _ _ _ _ _ _ Hs.out Hsum.out
  · obtain rfl : k = 4 := by omega
    obtain ⟨A', hA', hrow, hsum⟩ := qbV h Hd.out
    have hs4 := Hs.out
    rw [hsum, qcr a Ha.out, qcr b Hb.out, qbR] at hs4
    have m0 := M0.out
    rw [hrow] at m0
    obtain ⟨o', rfl⟩ := Int.eq_ofNat_of_zero_le c0
    have ho : o' = 0 := by have := Hr.out; have := Hab.out; omega
    subst ho
    have hf := fun w => fold_0 A' w
    rw [show A' = r by rw [Hr.out]; omega] at hf m0
    have M0 := Lib.hid m0; clear m0
    have Hf := Lib.hid hf; clear hf
    clear hrow hsum hs4 hA'
    go_wp2_with (refine wpList_load_row rfl 180 _ rfl (w.heap.size) rfl 180 (e4 r) (0, 0) _ M0.out Tryz.underlying180 rfl (by rw [qd]; kernel_rfl) ?_)
    refine (Hf.out _).mono ?_
    rintro e w1 ⟨rfl, b1⟩
    obtain ⟨Z, hZ, mz⟩ := M2.out.call b1
    have HBB := Lib.hid (below_setRow (qf hB b1) (w.heap.size + 1 + 1) (e4 r) (by omega))
    have Mz := Lib.hid mz; clear mz
    have HZ := Lib.hid hZ; clear hZ
    clear b1
    go_wp2_with (refine wpList_store_row rfl 180 _ _ rfl (w.heap.size + 1 + 1) _ rfl rfl 180 Z Mz.out (by rw [qd]; kernel_rfl) (HZ.out.trans (qd _).symm) (qo _ _ _) ?_)
    exact bodyPost_ret (v := .agg (e4 r)) (results_cell_row (t := 180) (by rfl) _ _ (w.heap.size + 1 + 1) _ _ _ rfl (Mz.out.setRow _) Tryz.underlying180 rfl (by rw [qd]; kernel_rfl)) rfl ⟨rfl, HBB.out⟩
end
section
open Go.RowKit Go.Lib
theorem Zu (x : Nat) (hx : x < 18446744073709551616) : (#[.int .u64 (x : Int), .int .u64 0, .int .u64 0, .int .u64 0] : Array Value) = e4 x := by
 have : e4 x = row .u64 4 (fun i => if i = 0 then (x : Int) else 0) := q7 _ _ _ _ fun i hi => by
  unfold dg
  split
  · rename_i h; subst h; rw [Nat.pow_zero, Nat.div_one, Nat.mod_eq_of_lt hx]
  · rw [Nat.div_eq_of_lt (Nat.lt_of_lt_of_le hx (by
     have : 18446744073709551616 ^ 1 ≤ 18446744073709551616 ^ i := Nat.pow_le_pow_right (by decide) (by omega)
     simpa using this))]; rfl
 rw [this]; rfl
theorem top_word (A : Nat) (hA : A < 115792089237316195423570985008687907853269984665640564039457584007913129639936) : ∃ t : Nat, dg 18446744073709551616 A 3 = t ∧ t < 18446744073709551616 ∧ t / 9223372036854775808 = A / 57896044618658097711785492504343953926634992332820282019728792003956564819968 := by
 refine ⟨A / 18446744073709551616 ^ 3 % 18446744073709551616, rfl, Nat.mod_lt _ (by decide), ?_⟩
 have hp : (18446744073709551616 : Nat) ^ 3 = 6277101735386680763835789423207666416102355444464034512896 := by decide +kernel
 rw [hp]; omega
theorem least_round (A : Nat) : (A % 57896044618658097711785492504343953926634992332820282019728792003956564819968 + 19 * (A / 57896044618658097711785492504343953926634992332820282019728792003956564819968)) % PP = A % PP := by
 have e : 57896044618658097711785492504343953926634992332820282019728792003956564819968 = 19 + PP := by decide +kernel
 have h1 := Nat.div_add_mod A 57896044618658097711785492504343953926634992332820282019728792003956564819968
 generalize A % 57896044618658097711785492504343953926634992332820282019728792003956564819968 = x at *
 generalize A / 57896044618658097711785492504343953926634992332820282019728792003956564819968 = q at *
 rw [← h1, e, Nat.add_mul, show 19 * q + PP * q + x = x + 19 * q + PP * q by omega, Nat.add_mul_mod_self_left]
theorem ZK (n : Nat) (hn : n < 115792089237316195423570985008687907853269984665640564039457584007913129639936) (w : World) :
 Calls Tryz.prog 209 #[.agg (e4 n)] w fun e w' => e = .returned (.agg (e4 (n % PP))) ∧ Below w.heap.size w w' := by
 obtain ⟨r, hr⟩ : ∃ r, r = n % PP := ⟨_, rfl⟩
 rw [← hr]
 have Hn := Lib.hid hn; clear hn
 have Hr := Lib.hid hr; clear hr
 go_enter Tryz.func209, Tryz.ntmps209
 go_wp2_with fail
 go_loopw [5] (fun i wr => ∃ k A : Nat, k ≤ 2 ∧ i = .int .i64 k ∧ A % PP = r ∧ A < 115792089237316195423570985008687907853269984665640564039457584007913129639936 ∧ (1 ≤ k → A < 57896044618658097711785492504343953926634992332820282019728792003956564819987) ∧ (2 ≤ k → A < 57896044618658097711785492504343953926634992332820282019728792003956564819968) ∧ Has wr w.heap.size (e4 A) 180 ∧ HasN wr (w.heap.size + 1) 4 180 ∧ Below w.heap.size w wr) (fun i _ => 2 - (RowKit.intOf i).toNat)
 case atStart => exact ⟨0, n, by omega, rfl, Hr.out.symm, Hn.out, fun h => by omega, fun h => by omega, (Has.new _ _ _).alloc _, HasN.new1 _ _ _ _ 4 rfl, Qp _ _ _⟩
 case round =>
  obtain ⟨k, A, hk, rfl, hA, hA2, hk1, hk2, m0, m1, hB⟩ := hrel
  have M0 := Lib.hid m0; clear m0
  have M1 := Lib.hid m1; clear m1
  have HA := Lib.hid hA; clear hA
  have Hk1 := Lib.hid hk1; clear hk1
  have Hk2 := Lib.hid hk2; clear hk2
  by_cases hlt : k < 2
  · have h2 := M0.out.cell 3 (by omega)
    have hfz := M0.out.frozen 3
    obtain ⟨t, ht, htb, hov⟩ := top_word A hA2
    rw [ht] at h2
    have hand := and_top t htb
    have hrow := top_row A hA2 (dg 18446744073709551616 A) (fun _ _ => rfl) t ht
    obtain ⟨u, hu⟩ : ∃ u : Int, u = ((t % 9223372036854775808 : Nat) : Int) := ⟨_, rfl⟩
    rw [← hu] at hand hrow
    have m2 := M0.out.set 3 u
    rw [hrow] at m2
    have hlr := least_round A
    obtain ⟨B, hBe⟩ : ∃ B, B = A % 57896044618658097711785492504343953926634992332820282019728792003956564819968 := ⟨_, rfl⟩
    obtain ⟨o, ho⟩ : ∃ o, o = A / 57896044618658097711785492504343953926634992332820282019728792003956564819968 := ⟨_, rfl⟩
    rw [← hBe] at m2 hlr
    rw [← ho] at hlr hov
    have ho1 : o ≤ 1 := by omega
    have hB255 : B < 57896044618658097711785492504343953926634992332820282019728792003956564819968 := by omega
    have hshr : ((t : Nat) : Int) / 9223372036854775808 = (o : Int) := by omega
    have hpe := fun w => qcF B (19 * o) (by omega) (by omega) (by omega) w
    have hbl := Zu (19 * o) (by omega)
    rw [Int.natCast_mul] at hbl
    have hbl' : (#[.int .u64 (19 * (o : Int)), .int .u64 0, .int .u64 0, .int .u64 0] : Array Value) = e4 (19 * o) := hbl
    obtain ⟨q, hq⟩ : ∃ q, q = 19 * o := ⟨_, rfl⟩
    obtain ⟨A', hA'⟩ : ∃ x, x = B + q := ⟨_, rfl⟩
    rw [← hq] at hpe hbl' hlr
    rw [← hA'] at hpe hlr
    have hk1' : 1 ≤ k + 1 → A' < 57896044618658097711785492504343953926634992332820282019728792003956564819987 := fun _ => by omega
    have hk2' : 2 ≤ k + 1 → A' < 57896044618658097711785492504343953926634992332820282019728792003956564819968 := fun hh => by have := Hk1.out (by omega); omega
    have hA2' : A' < 115792089237316195423570985008687907853269984665640564039457584007913129639936 := by omega
    have Hmod := Lib.hid (show A' % PP = r by rw [hlr]; exact HA.out)
    have M1' := Lib.hid (M1.out.other ⟨w.heap.size, 3, none⟩ (.int .u64 u) (by simp <;> omega))
    have HB' := Lib.hid (hB.setCell (p := ⟨w.heap.size, 3, none⟩) (Nat.le_refl _) (.int .u64 u))
    have Hpe := Lib.hid hpe; clear hpe
    have Hk1' := Lib.hid hk1'; clear hk1'
    have Hk2' := Lib.hid hk2'; clear hk2'
    have HA2' := Lib.hid hA2'; clear hA2'
    have M2 := Lib.hid m2; clear m2
    clear hA' hq hbl ho hBe hlr hrow hu hov M0 M1 hA2 hB
    go_wp2_with (refine wpList_load_row rfl 180 _ rfl (w.heap.size) rfl 180 (e4 B) (0, 0) _ M2.out Tryz.underlying180 rfl (by rw [qd]; kernel_rfl) ?_)
    refine (Hpe.out _).mono ?_
    rintro e w1 ⟨rfl, b1⟩
    have n1 := M1'.out.call b1
    obtain ⟨Z, hZ, mz⟩ := (M2.out.toN (qd _)).call b1
    have hB2 := qf HB'.out b1
    have q0 := mz.setRow (e4 A')
    have q1 := n1.setRow_other w.heap.size (e4 A') (by omega)
    have hB3 := below_setRow hB2 w.heap.size (e4 A') (Nat.le_refl _)
    clear n1 b1 hB2
    have Mz := Lib.hid mz; clear mz
    have HZ := Lib.hid hZ; clear hZ
    have Q0 := Lib.hid q0; clear q0
    have Q1 := Lib.hid q1; clear q1
    have HB3 := Lib.hid hB3; clear hB3
    go_wp2_with (refine wpList_store_row rfl 180 _ _ rfl (w.heap.size) _ rfl rfl 180 Z Mz.out (by rw [qd]; kernel_rfl) (HZ.out.trans (qd _).symm) (qo _ _ _) ?_)
    go_roundw
    case measure => simp [RowKit.intOf]; omega
    case rel => exact ⟨k + 1, A', by omega, by go_num, Hmod.out, HA2'.out, Hk1'.out, Hk2'.out, Q0.out, Q1.out, HB3.out⟩
  · obtain rfl : k = 2 := by omega
    have h255 := Hk2.out (by omega)
    have hpe := fun w => qcF A 19 hA2 (by omega) (by omega) w
    have hbl := Zu 19 (by omega)
    have hbl' : (#[.int .u64 19, .int .u64 0, .int .u64 0, .int .u64 0] : Array Value) = e4 19 := hbl
    obtain ⟨b, hb⟩ : ∃ b, b = A + 19 := ⟨_, rfl⟩
    rw [← hb] at hpe
    have hb256 : b < 115792089237316195423570985008687907853269984665640564039457584007913129639936 := by omega
    have Hpe := Lib.hid hpe; clear hpe
    have Hb := Lib.hid hb; clear hb
    clear hbl
    go_wp2_with (refine wpList_load_row rfl 180 _ rfl (w.heap.size) rfl 180 (e4 A) (0, 0) _ M0.out Tryz.underlying180 rfl (by rw [qd]; kernel_rfl) ?_)
    refine (Hpe.out _).mono ?_
    rintro e w1 ⟨rfl, b1⟩
    have n0 := (M0.out.call b1).alloc (.cells (#[.int .u64 0, .int .u64 0, .int .u64 0, .int .u64 0] : Array Value) 180)
    have n1 := (M1.out.call b1).alloc (.cells (#[.int .u64 0, .int .u64 0, .int .u64 0, .int .u64 0] : Array Value) 180)
    have hB2 := (qf hB b1).alloc (qf hB b1).size (.cells (#[.int .u64 0, .int .u64 0, .int .u64 0, .int .u64 0] : Array Value) 180)
    have hl1 := (M1.out.call b1).lt
    obtain ⟨Z, hZ, mz⟩ := HasN.new w1 (#[.int .u64 0, .int .u64 0, .int .u64 0, .int .u64 0] : Array Value) 180 4 rfl
    have q0 := n0.setRow_other w1.heap.size (e4 b) (by omega)
    have q1 := n1.setRow_other w1.heap.size (e4 b) (by omega)
    have q2 := mz.setRow (e4 b)
    have hB3 := below_setRow hB2 w1.heap.size (e4 b) (qf hB b1).size
    have h2 := q2.cell 3 (by omega)
    have hfz := q2.frozen 3
    obtain ⟨t, ht, htb, hov⟩ := top_word b hb256
    rw [ht] at h2
    by_cases hc : b < 57896044618658097711785492504343953926634992332820282019728792003956564819968
    · have hz : (t : Int) / 9223372036854775808 = 0 := by omega
      have hfin : A = r := by
       have := HA.out
       rw [Nat.mod_eq_of_lt (by rw [QF]; have := Hb.out; omega)] at this
       exact this
      obtain ⟨Z', hZ', mz'⟩ := q1
      have HBB := Lib.hid (below_setRow hB3 (w.heap.size + 1) (e4 A) (by omega))
      have Mz := Lib.hid mz; clear mz
      have HZ := Lib.hid hZ; clear hZ
      have Q0 := Lib.hid q0; clear q0
      have Q2 := Lib.hid q2; clear q2
      have Mz' := Lib.hid mz'; clear mz'
      have HZ' := Lib.hid hZ'; clear hZ'
      have Hfin := Lib.hid hfin; clear hfin
      have Ht := Lib.hid ht; clear ht
      clear n0 n1 hB2 hB3 b1 M0 M1 hc hov
      go_wp2_with (first | (refine wpList_store_row rfl 180 _ _ rfl (w1.heap.size) _ rfl rfl 180 Z Mz.out (by rw [qd]; kernel_rfl) (HZ.out.trans (qd _).symm) (qo _ _ _) ?_) | (refine wpList_load_row rfl 180 _ rfl (w.heap.size) rfl 180 (e4 A) (0, 0) _ Q0.out Tryz.underlying180 rfl (by rw [qd]; kernel_rfl) ?_) | (refine wpList_store_row rfl 180 _ _ rfl (w.heap.size + 1) _ rfl rfl 180 Z' Mz'.out (by rw [qd]; kernel_rfl) (HZ'.out.trans (qd _).symm) (qo _ _ _) ?_))
      exact bodyPost_ret (v := .agg (e4 A)) (results_cell_row (t := 180) (by rfl) _ _ (w.heap.size + 1) _ _ _ rfl (Mz'.out.setRow _) Tryz.underlying180 rfl (by rw [qd]; kernel_rfl)) rfl ⟨by rw [Hfin.out], HBB.out⟩
    · have hz : (t : Int) / 9223372036854775808 = 1 := by omega
      have hand := and_top t htb
      have hrow := top_row b hb256 (dg 18446744073709551616 b) (fun _ _ => rfl) t ht
      obtain ⟨u, hu⟩ : ∃ u : Int, u = ((t % 9223372036854775808 : Nat) : Int) := ⟨_, rfl⟩
      rw [← hu] at hand hrow
      have q3 := q2.set 3 u
      rw [hrow] at q3
      have hfin : b % 57896044618658097711785492504343953926634992332820282019728792003956564819968 = r := by
       rw [← HA.out, Nat.mod_eq_sub_mod (show PP ≤ A by rw [QF]; have := Hb.out; omega), Nat.mod_eq_of_lt (show A - PP < PP by rw [QF]; omega), QF]
       have := Hb.out; omega
      rw [hfin] at q3
      obtain ⟨Z', hZ', mz'⟩ := q1.other ⟨w1.heap.size, 3, none⟩ (.int .u64 u) (by simp <;> omega)
      have HBB := Lib.hid (below_setRow (hB3.setCell (p := ⟨w1.heap.size, 3, none⟩) (qf hB b1).size (.int .u64 u)) (w.heap.size + 1) (e4 r) (by omega))
      have Mz := Lib.hid mz; clear mz
      have HZ := Lib.hid hZ; clear hZ
      have Q2 := Lib.hid q2; clear q2
      have Q3 := Lib.hid q3; clear q3
      have Mz' := Lib.hid mz'; clear mz'
      have HZ' := Lib.hid hZ'; clear hZ'
      have Hfin := Lib.hid hfin; clear hfin
      have Ht := Lib.hid ht; clear ht
      clear n0 n1 hB2 hB3 b1 M0 M1 hc hov hu hrow
      go_wp2_with (first | (refine wpList_store_row rfl 180 _ _ rfl (w1.heap.size) _ rfl rfl 180 Z Mz.out (by rw [qd]; kernel_rfl) (HZ.out.trans (qd _).symm) (qo _ _ _) ?_) | (refine wpList_load_row rfl 180 _ rfl (w1.heap.size) rfl 180 (e4 r) (0, 0) _ Q3.out Tryz.underlying180 rfl (by rw [qd]; kernel_rfl) ?_) | (refine wpList_store_row rfl 180 _ _ rfl (w.heap.size + 1) _ rfl rfl 180 Z' Mz'.out (by rw [qd]; kernel_rfl) (HZ'.out.trans (qd _).symm) (qo _ _ _) ?_))
      exact bodyPost_ret (v := .agg (e4 r)) (results_cell_row (t := 180) (by rfl) _ _ (w.heap.size + 1) _ _ _ rfl (Mz'.out.setRow _) Tryz.underlying180 rfl (by rw [qd]; kernel_rfl)) rfl ⟨rfl, HBB.out⟩
end
section
open Go.RowKit Go.Lib
theorem key_byte (n k : Nat) : (n / 18446744073709551616 ^ (k / 8) % 18446744073709551616) / 2 ^ (8 * (k % 8)) % 256 = n / 256 ^ k % 256 := by
 have e : 256 ^ k = 18446744073709551616 ^ (k / 8) * 256 ^ (k % 8) := by
  rw [show (18446744073709551616 : Nat) = 256 ^ 8 by decide, ← Nat.pow_mul, ← Nat.pow_add, Nat.div_add_mod]
 rw [e, ← Nat.div_div_eq_div_mul]
 generalize n / 18446744073709551616 ^ (k / 8) = q
 have hr : k % 8 < 8 := Nat.mod_lt _ (by decide)
 generalize k % 8 = r at *
 rcases (show r = 0 ∨ r = 1 ∨ r = 2 ∨ r = 3 ∨ r = 4 ∨ r = 5 ∨ r = 6 ∨ r = 7 by omega) with rfl | rfl | rfl | rfl | rfl | rfl | rfl | rfl <;> simp <;> omega
theorem key_byte_int (n k : Nat) (x : Int) (hx : x = dg 18446744073709551616 n (k / 8)) : x / 2 ^ (8 * (k % 8)) % 256 = dg 256 n k := by
 rw [hx, dg, dg, ← key_byte n k]
 generalize n / 18446744073709551616 ^ (k / 8) % 18446744073709551616 = q
 generalize 8 * (k % 8) = m
 rw [Int.natCast_emod, Int.natCast_ediv, Int.natCast_pow]
 rfl
theorem and_one (a : Nat) (ha : a < 18446744073709551616) : bits .and .u64 (a : Int) 1 = ((a % 2 : Nat) : Int) := by
 have h := bits_and_u64_nat a 1 ha (by omega)
 have e : a &&& 1 = a % 2 := Nat.and_two_pow_sub_one_eq_mod a 1
 rw [e] at h
 exact h
theorem div_pow_bd64 (x : Int) (k : Nat) (h0 : 0 ≤ x) (h1 : x < 18446744073709551616) : 0 ≤ x / 2 ^ k ∧ x / 2 ^ k < 18446744073709551616 := by
 have hp : (0 : Int) < 2 ^ k := Int.pow_pos (by decide)
 refine ⟨Int.ediv_nonneg h0 (Int.le_of_lt hp), ?_⟩
 have := Int.ediv_le_self (2 ^ k) h0
 omega
theorem e4_eq (x y : Nat) (hx : x < 115792089237316195423570985008687907853269984665640564039457584007913129639936) (hy : y < 115792089237316195423570985008687907853269984665640564039457584007913129639936) (w : World) : (Op.equalIn 10000 180 (.agg (e4 x)) (.agg (e4 y))).run Tryz.prog w = .ok (decide (x = y)) w := by
 rw [← eqr_dg 18446744073709551616 4 x y (by rw [n64_4]; exact hx) (by rw [n64_4]; exact hy)]
 exact ZT w 9998 180 131 4 .u64 Tryz.underlying180 Tryz.underlying131 sz_u64 _ _
theorem qa6 (n : Nat) : n % PP < 115792089237316195423570985008687907853269984665640564039457584007913129639936 := Nat.lt_trans (Nat.mod_lt _ qG) (by decide +kernel)
theorem key_any (n : Nat) (hn : n < 115792089237316195423570985008687907853269984665640564039457584007913129639936) (w : World) :
 Calls Tryz.prog 160 #[.agg (e4 n)] w fun e w' => e = .returned (.agg (k32 (n % PP))) ∧ Below w.heap.size w w' := by
 have hl := fun w => ZK n hn w
 obtain ⟨r, hr⟩ : ∃ r, r = n % PP := ⟨_, rfl⟩
 rw [← hr] at hl ⊢
 have Hl := Lib.hid hl; clear hl
 clear hr hn
 go_enter Tryz.func160, Tryz.ntmps160
 have M0 := Lib.hid ((Has.new w (e4 n) 180).alloc (.cells (#[.int .u8 0, .int .u8 0, .int .u8 0, .int .u8 0, .int .u8 0, .int .u8 0, .int .u8 0, .int .u8 0, .int .u8 0, .int .u8 0, .int .u8 0, .int .u8 0, .int .u8 0, .int .u8 0, .int .u8 0, .int .u8 0, .int .u8 0, .int .u8 0, .int .u8 0, .int .u8 0, .int .u8 0, .int .u8 0, .int .u8 0, .int .u8 0, .int .u8 0, .int .u8 0, .int .u8 0, .int .u8 0, .int .u8 0, .int .u8 0, .int .u8 0, .int .u8 0] : Array Value) 36))
 go_wp2_with (refine wpList_load_row rfl 180 _ rfl (w.heap.size) rfl 180 (e4 n) (0, 0) _ M0.out Tryz.underlying180 rfl (by rw [qd]; kernel_rfl) ?_)
 refine (Hl.out _).mono ?_
 rintro e w1 ⟨rfl, b1⟩
 obtain ⟨Z, hZ, mz⟩ := (M0.out.toN (qd _)).call b1
 have m1 := (Has.new1 w (.cells (e4 n) 180) (#[.int .u8 0, .int .u8 0, .int .u8 0, .int .u8 0, .int .u8 0, .int .u8 0, .int .u8 0, .int .u8 0, .int .u8 0, .int .u8 0, .int .u8 0, .int .u8 0, .int .u8 0, .int .u8 0, .int .u8 0, .int .u8 0, .int .u8 0, .int .u8 0, .int .u8 0, .int .u8 0, .int .u8 0, .int .u8 0, .int .u8 0, .int .u8 0, .int .u8 0, .int .u8 0, .int .u8 0, .int .u8 0, .int .u8 0, .int .u8 0, .int .u8 0, .int .u8 0] : Array Value) 36).call b1
 have q0 := mz.setRow (e4 r)
 have q1 := m1.setRow_other w.heap.size (e4 r) (by omega)
 have hB := below_setRow (qf (Qp w (.cells (e4 n) 180) (.cells (#[.int .u8 0, .int .u8 0, .int .u8 0, .int .u8 0, .int .u8 0, .int .u8 0, .int .u8 0, .int .u8 0, .int .u8 0, .int .u8 0, .int .u8 0, .int .u8 0, .int .u8 0, .int .u8 0, .int .u8 0, .int .u8 0, .int .u8 0, .int .u8 0, .int .u8 0, .int .u8 0, .int .u8 0, .int .u8 0, .int .u8 0, .int .u8 0, .int .u8 0, .int .u8 0, .int .u8 0, .int .u8 0, .int .u8 0, .int .u8 0, .int .u8 0, .int .u8 0] : Array Value) 36)) b1) w.heap.size (e4 r) (Nat.le_refl _)
 clear M0 m1 b1
 have Mz := Lib.hid mz; clear mz
 have HZ := Lib.hid hZ; clear hZ
 have Q0 := Lib.hid q0; clear q0
 have Q1 := Lib.hid q1; clear q1
 have HB := Lib.hid hB; clear hB
 go_wp2_with (refine wpList_store_row rfl 180 _ _ rfl (w.heap.size) _ rfl rfl 180 Z Mz.out (by rw [qd]; kernel_rfl) (HZ.out.trans (qd _).symm) (qo _ _ _) ?_)
 clear Mz HZ
 go_loopw [6] (fun i wr => ∃ (k : Nat) (h : Nat → Int), k ≤ 32 ∧ i = .int .i64 k ∧ (∀ j, j < k → h j = dg 256 r j) ∧ Has wr w.heap.size (e4 r) 180 ∧ Has wr (w.heap.size + 1) (row .u8 32 h) 36 ∧ Below w.heap.size w wr) (fun i _ => 32 - (RowKit.intOf i).toNat)
 case atStart => exact ⟨0, fun _ => 0, by omega, rfl, fun j hj => by omega, Q0.out, Q1.out, HB.out⟩
 case round =>
  clear Q0 Q1 HB
  obtain ⟨k, h, hk, rfl, hh, m0, m1, hB⟩ := hrel
  have M0 := Lib.hid m0; clear m0
  have M1 := Lib.hid m1; clear m1
  have Hh := Lib.hid hh; clear hh
  by_cases hlt : k < 32
  · have h1 := M0.out.cell (k / 8) (by omega)
    have h2 := M1.out.cell k hlt
    have hfz := M1.out.frozen k
    have x0 := qbr r (k / 8)
    have x1 := qaR r (k / 8)
    obtain ⟨x, hx⟩ : ∃ x, x = dg 18446744073709551616 r (k / 8) := ⟨_, rfl⟩
    rw [← hx] at h1 x0 x1
    have hkb := key_byte_int r k x hx
    obtain ⟨s0, s1⟩ := div_pow_bd64 x (8 * (k % 8)) x0 x1
    have k2 : (0 : Int) ≤ (k : Int) / 8 := by omega
    have k3 : (k : Int) / 8 < 4 := by omega
    have k4 : (0 : Int) ≤ 8 * ((k : Int) % 8) := by omega
    have k5 : 8 * ((k : Int) % 8) < 64 := by omega
    have Hx := Lib.hid hx; clear hx
    have Hkb := Lib.hid hkb; clear hkb
    go_wp2_with fail
    go_roundw
    case measure => simp [RowKit.intOf]; omega
    case rel =>
     refine ⟨k + 1, upd h k (x / 2 ^ (8 * (k % 8)) % 256), by omega, by go_num, ?_, M0.out.other _ _ (by simp <;> omega), M1.out.set _ _, hB.setCell (by simp <;> omega) _⟩
     intro j hj
     by_cases e : j = k
     · subst e; rw [qr]; exact Hkb.out
     · rw [qt _ _ _ _ e]; exact Hh.out j (by omega)
  · obtain rfl : k = 32 := by omega
    have m1 := M1.out
    rw [show row .u8 32 h = k32 r from q7 _ _ _ _ Hh.out] at m1
    have P1 := Lib.hid m1; clear m1 M1
    have P2 := Lib.hid (P1.out.setRow (k32 r))
    go_wp2_with (first | (refine wpList_load_row rfl 36 _ rfl (w.heap.size + 1) rfl 36 (k32 r) (0, 0) _ P1.out Tryz.underlying36 rfl (by rw [qg]; kernel_rfl) ?_) | (refine wpList_store_row rfl 36 _ _ rfl (w.heap.size + 1) _ rfl rfl 36 (k32 r) P1.out (by rw [qg]; kernel_rfl) rfl (qo _ _ _) ?_))
    exact bodyPost_ret (v := .agg (k32 r)) (results_cell_row (t := 36) (by rfl) _ _ (w.heap.size + 1) _ _ _ rfl P2.out Tryz.underlying36 rfl (by rw [qg]; kernel_rfl)) rfl ⟨rfl, below_setRow hB _ _ (by omega)⟩
theorem is_any (a b : Nat) (ha : a < 115792089237316195423570985008687907853269984665640564039457584007913129639936) (hb : b < 115792089237316195423570985008687907853269984665640564039457584007913129639936) (w : World) :
 Calls Tryz.prog 213 #[.agg (e4 a), .agg (e4 b)] w fun e w' => e = .returned (.bool (decide (a % PP = b % PP))) ∧ Below w.heap.size w w' := by
 have hl1 := fun w => ZK a ha w
 have hl2 := fun w => ZK b hb w
 have heq := fun w => e4_eq (a % PP) (b % PP) (qa6 a) (qa6 b) w
 obtain ⟨x, hx⟩ : ∃ r, r = a % PP := ⟨_, rfl⟩
 obtain ⟨y, hy⟩ : ∃ r, r = b % PP := ⟨_, rfl⟩
 rw [← hx] at hl1 heq ⊢
 rw [← hy] at hl2 heq ⊢
 have Hl1 := Lib.hid hl1; clear hl1
 have Hl2 := Lib.hid hl2; clear hl2
 obtain ⟨d, hd⟩ : ∃ d, d = decide (x = y) := ⟨_, rfl⟩
 rw [← hd] at heq ⊢
 clear hx hy ha hb hd
 go_enter Tryz.func213, Tryz.ntmps213
 go_wp2_with fail
 refine wp_region_noPanic ?_
 refine QW 99 (by kernel_rfl) ?_
 intro W0 hW0
 have M0 := Lib.hid (show Has W0 w.heap.size (e4 a) 180 by rw [hW0]; exact (Has.new _ _ _).alloc _)
 have M1 := Lib.hid (show Has W0 (w.heap.size + 1) (e4 b) 180 by rw [hW0]; exact Has.new1 _ _ _ _)
 have HB := Lib.hid (show Below w.heap.size w W0 by rw [hW0]; exact Qp _ _ _)
 clear hW0
 refine Qh (i := 0) rfl (by kernel_rfl) (by kernel_rfl) (by kernel_rfl) (by kernel_rfl) (by kernel_rfl) (fun _ _ _ h => h) (qj (by rfl) 180 _ rfl (w.heap.size) rfl 180 (e4 a) (fun _ h => M0.out.below h M0.out.lt) Tryz.underlying180 rfl (by rw [qd]; kernel_rfl)) ((Below.refl _ _).drew) ?_
 (try simp only [Act.put]); (try simp only [List.setIfInBounds_toArray])
 refine Qh (i := 2) rfl (by kernel_rfl) (by kernel_rfl) (by kernel_rfl) (by kernel_rfl) (by kernel_rfl) (fun _ _ _ h => h) (qj (by rfl) 180 _ rfl (w.heap.size + 1) rfl 180 (e4 b) (fun _ h => M1.out.below h M1.out.lt) Tryz.underlying180 rfl (by rw [qd]; kernel_rfl)) ((Below.refl _ _).drew) ?_
 (try simp only [Act.put]); (try simp only [List.setIfInBounds_toArray])
 refine qP (i := 1) (by kernel_rfl) rfl (fun K hK => ?_)
 go_simp
 go_at_call 209
 refine (Hl1.out _).mono ?_
 rintro e wW01 ⟨rfl, hb⟩
 have hkW01 := qf (Below.refl _ _).drew hb
 refine hK.out _ _ (fun _ => hkW01) ?_
 clear hK K hb
 refine qP (i := 3) (by kernel_rfl) rfl (fun K hK => ?_)
 go_simp
 go_at_call 209
 refine (Hl2.out _).mono ?_
 rintro e wW02 ⟨rfl, hb⟩
 have hkW02 := qf hkW01 hb
 refine hK.out _ _ (fun _ => hkW02) ?_
 clear hK K hb
 refine qP (i := 4) (by kernel_rfl) rfl (fun K hK => ?_)
 go_simp
 refine hK.out _ _ (fun _ => hkW02) ?_
 clear hK K
 refine qP (i := 5) (by kernel_rfl) rfl (fun K hK => ?_)
 go_simp
 refine hK.out _ _ (fun _ => hkW02) ?_
 clear hK K
 refine qD (by kernel_rfl) (NoPanic.normal ?_)
 go_wp2_with fail
 go_ret
 exact ⟨rfl, qf HB.out hkW02⟩
theorem qbj (a : Nat) (ha : a < 115792089237316195423570985008687907853269984665640564039457584007913129639936) (w : World) :
 Calls Tryz.prog 175 #[.agg (e4 a)] w fun e w' => e = .returned (.bool (a % PP % 2 == 0)) ∧ Below w.heap.size w w' := by
 have hl1 := fun w => ZK a ha w
 have hlt := qa6 a
 obtain ⟨x, hx⟩ : ∃ r, r = a % PP := ⟨_, rfl⟩
 rw [← hx] at hl1 hlt ⊢
 have hix := fun w => QU w 180 131 4 .u64 Tryz.underlying180 Tryz.underlying131 sz_u64 (dg 18446744073709551616 x) 0 (by omega)
 rw [show row .u64 4 (dg 18446744073709551616 x) = e4 x from rfl] at hix
 have hd0 : dg 18446744073709551616 x 0 = ((x % 18446744073709551616 : Nat) : Int) := by unfold dg; rw [Nat.pow_zero, Nat.div_one]
 rw [hd0] at hix
 have hand := and_one (x % 18446744073709551616) (Nat.mod_lt _ (by decide))
 have hm : x % 18446744073709551616 % 2 = x % 2 := by omega
 rw [hm] at hand
 obtain ⟨y, hy⟩ : ∃ y, y = x % 18446744073709551616 := ⟨_, rfl⟩
 rw [← hy] at hix hand
 rw [show (((0 : Nat) : Int)) = 0 from rfl] at hix
 have M0 := Lib.hid (Has.new w (e4 a) 180)
 have hres : ((((x % 2 : Nat) : Int)) == 0) = (x % 2 == 0) := by
  rcases Nat.mod_two_eq_zero_or_one x with e | e <;> rw [e] <;> rfl
 obtain ⟨z, hz⟩ : ∃ z : Int, z = ((x % 2 : Nat) : Int) := ⟨_, rfl⟩
 rw [← hz] at hand hres
 rw [← hres]
 have Hl1 := Lib.hid hl1; clear hl1
 have Hz := Lib.hid hz; clear hz
 have Hres := Lib.hid hres; clear hres
 clear hx hlt hd0 hm hy ha
 go_enter Tryz.func175, Tryz.ntmps175
 go_wp2_with (refine wpList_load_row rfl 180 _ rfl (w.heap.size) rfl 180 (e4 a) (0, 0) _ M0.out Tryz.underlying180 rfl (by rw [qd]; kernel_rfl) ?_)
 refine (Hl1.out _).mono ?_
 rintro e w1 ⟨rfl, b1⟩
 have HB := Lib.hid (qf (q8 w (.cells (e4 a) 180)) b1); clear b1
 go_wp2_with fail
 go_ret
 exact ⟨rfl, HB.out⟩
end
section
open Go.RowKit Go.Lib
theorem ZL (n : Nat) (hn : n < 9223372036854775808) (w : World) :
 Calls Tryz.prog 166 #[.int .i64 n] w fun e w' => e = .returned (.agg (e4 n)) ∧ Below w.heap.size w w' := by
 have hbl := Zu n (by omega)
 obtain ⟨Z, hZ, mz⟩ := HasN.new w (#[.int .u64 0, .int .u64 0, .int .u64 0, .int .u64 0] : Array Value) 180 4 rfl
 have Mz := Lib.hid mz; clear mz
 have HZ := Lib.hid hZ; clear hZ
 go_enter Tryz.func166, Tryz.ntmps166
 go_wp2_with (refine wpList_store_row rfl 180 _ _ rfl (w.heap.size) _ rfl rfl 180 Z Mz.out (by rw [qd]; kernel_rfl) (HZ.out.trans (qd _).symm) (qo _ _ _) ?_)
 exact bodyPost_ret (v := .agg (e4 n)) (results_cell_row (t := 180) (by rfl) _ _ (w.heap.size) _ _ _ rfl (Mz.out.setRow _) Tryz.underlying180 rfl (by rw [qd]; kernel_rfl)) rfl ⟨rfl, below_setRow (q8 _ _) _ _ (Nat.le_refl _)⟩
theorem e4_zero : (#[.int .u64 0, .int .u64 0, .int .u64 0, .int .u64 0] : Array Value) = e4 0 := Zu 0 (by omega)
theorem e4_one : (#[.int .u64 1, .int .u64 0, .int .u64 0, .int .u64 0] : Array Value) = e4 1 := Zu 1 (by omega)
theorem fint_neg (n : Int) (hn : n < 0) (hn2 : -9223372036854775808 ≤ n) (w : World) :
 Calls Tryz.prog 166 #[.int .i64 n] w (ElP (n % (PP : Int)).toNat w) := by
 obtain ⟨m, hm⟩ : ∃ m : Nat, -(n + 1) = (m : Int) := ⟨(-(n + 1)).toNat, by omega⟩
 have hres := int_num n m (by omega)
 obtain ⟨r, hr⟩ : ∃ r, r = (n % (PP : Int)).toNat := ⟨_, rfl⟩
 rw [← hr] at hres ⊢
 have hm0 : m < 9223372036854775808 := by omega
 have hmin1 := fun w => zq 0 m (by omega) (by omega) w
 rw [show 0 % PP = 0 from Nat.zero_mod _] at hmin1
 obtain ⟨y, hy⟩ : ∃ y, y = (0 + (PP - m % PP)) % PP := ⟨_, rfl⟩
 rw [← hy] at hmin1 hres
 have hmin2 := fun m1 h w => zq m1 1 h (by omega) w
 have hbl := Zu m (by omega)
 have hb0 := e4_zero
 have hb1 := e4_one
 have Hmin1 := Lib.hid hmin1; clear hmin1
 have Hmin2 := Lib.hid hmin2; clear hmin2
 have Hres := Lib.hid hres; clear hres
 have Hm := Lib.hid hm; clear hm
 have Hbl := Lib.hid hbl; clear hbl
 have Hb0 := Lib.hid hb0; clear hb0
 have Hb1 := Lib.hid hb1; clear hb1
 clear hr hy hm0
 have hd : decide (0 ≤ n) = false := by simp; omega
 go_enter Tryz.func166, Tryz.ntmps166
 go_wp2_with fail
 rw [Hm.out, Hbl.out, Hb0.out]
 refine (Hmin1.out _).mono ?_
 rintro e w1 ⟨m1, hm1, hm1r, rfl, b1⟩
 have B1 := Lib.hid b1; clear b1
 have Hm1 := Lib.hid hm1; clear hm1
 have Hm1r := Lib.hid hm1r; clear hm1r
 go_wp2_with fail
 refine (Hmin2.out m1 Hm1.out _).mono ?_
 rintro e w2 ⟨m2, hm2, hm2r, rfl, b2⟩
 obtain ⟨Z, hZ, mz⟩ := ((HasN.new w (e4 0) 180 4 (qd _)).call B1.out).call b2
 have HBB := Lib.hid (below_setRow (qf (qf (q8 w (.cells (e4 0) 180)) B1.out) b2) w.heap.size (e4 m2) (Nat.le_refl _))
 have hfin : m2 % PP = r := by rw [hm2r, Hm1r.out]; exact Hres.out
 have Mz := Lib.hid mz; clear mz
 have HZ := Lib.hid hZ; clear hZ
 have Hm2 := Lib.hid hm2; clear hm2
 have Hfin := Lib.hid hfin; clear hfin
 clear hm2r b2
 go_wp2_with (refine wpList_store_row rfl 180 _ _ rfl (w.heap.size) _ rfl rfl 180 Z Mz.out (by rw [qd]; kernel_rfl) (HZ.out.trans (qd _).symm) (qo _ _ _) ?_)
 exact bodyPost_ret (v := .agg (e4 m2)) (results_cell_row (t := 180) (by rfl) _ _ (w.heap.size) _ _ _ rfl (Mz.out.setRow _) Tryz.underlying180 rfl (by rw [qd]; kernel_rfl)) rfl ⟨m2, Hm2.out, Hfin.out, rfl, HBB.out⟩
theorem sq_next (A a k : Nat) (h : A % PP = pwm a (2 ^ k)) : A * A % PP = pwm a (2 ^ (k + 1)) := by
 unfold pwm at *
 rw [Nat.mul_mod, h, ← Nat.mul_mod, ← Nat.pow_add, Nat.pow_succ, Nat.mul_two]
theorem QI (a n : Nat) (ha : a < 115792089237316195423570985008687907853269984665640564039457584007913129639936) (hn : n ≤ 1000) (w : World) :
 Calls Tryz.prog 221 #[.agg (e4 a), .int .i64 n] w (ElP (pwm a (2 ^ n)) w) := by
 have ht := fun x h w => qB x x h h w
 have h0 : a % PP = pwm a (2 ^ 0) := by unfold pwm; rw [Nat.pow_zero, Nat.pow_one]
 have Ht := Lib.hid ht; clear ht
 have Ha := Lib.hid ha; clear ha
 have H0 := Lib.hid h0; clear h0
 go_enter Tryz.func221, Tryz.ntmps221
 go_wp2_with fail
 go_loopw [6] (fun i wr => ∃ k A : Nat, k ≤ n ∧ i = .int .i64 k ∧ A < 115792089237316195423570985008687907853269984665640564039457584007913129639936 ∧ A % PP = pwm a (2 ^ k) ∧ Has wr w.heap.size (e4 A) 180 ∧ HasN wr (w.heap.size + 1) 4 180 ∧ Below w.heap.size w wr) (fun i _ => n - (RowKit.intOf i).toNat)
 case atStart => exact ⟨0, a, by omega, rfl, Ha.out, H0.out, (Has.new _ _ _).alloc _, HasN.new1 _ _ _ _ 4 rfl, Qp _ _ _⟩
 case round =>
  obtain ⟨k, A, hk, rfl, hA, hm, m0, m1, hB⟩ := hrel
  have M0 := Lib.hid m0; clear m0
  have M1 := Lib.hid m1; clear m1
  have HA := Lib.hid hA; clear hA
  have Hm := Lib.hid hm; clear hm
  by_cases hlt : k < n
  · go_wp2_with (refine wpList_load_row rfl 180 _ rfl (w.heap.size) rfl 180 (e4 A) (0, 0) _ M0.out Tryz.underlying180 rfl (by rw [qd]; kernel_rfl) ?_)
    refine (Ht.out A HA.out _).mono ?_
    rintro e w1 ⟨m, hm', hmr, rfl, b1⟩
    obtain ⟨Z, hZ, mz⟩ := (M0.out.toN (qd _)).call b1
    have q0 := mz.setRow (e4 m)
    have q1 := (M1.out.call b1).setRow_other w.heap.size (e4 m) (by omega)
    have hB2 := below_setRow (qf hB b1) w.heap.size (e4 m) (Nat.le_refl _)
    have hmr2 := hmr.trans (sq_next A a k Hm.out)
    have Mz := Lib.hid mz; clear mz
    have HZ := Lib.hid hZ; clear hZ
    have Q0 := Lib.hid q0; clear q0
    have Q1 := Lib.hid q1; clear q1
    have HB2 := Lib.hid hB2; clear hB2
    have Hm' := Lib.hid hm'; clear hm'
    have Hmr2 := Lib.hid hmr2; clear hmr2
    clear b1 hmr M0 M1
    go_wp2_with (refine wpList_store_row rfl 180 _ _ rfl (w.heap.size) _ rfl rfl 180 Z Mz.out (by rw [qd]; kernel_rfl) (HZ.out.trans (qd _).symm) (qo _ _ _) ?_)
    go_roundw
    case measure => simp [RowKit.intOf]; omega
    case rel => exact ⟨k + 1, m, by omega, by go_num, Hm'.out, Hmr2.out, Q0.out, Q1.out, HB2.out⟩
  · obtain rfl : k = n := by omega
    obtain ⟨Z, hZ, mz⟩ := M1.out
    have HBB := Lib.hid (below_setRow hB (w.heap.size + 1) (e4 A) (by omega))
    have Mz := Lib.hid mz; clear mz
    have HZ := Lib.hid hZ; clear hZ
    go_wp2_with (first | (refine wpList_load_row rfl 180 _ rfl (w.heap.size) rfl 180 (e4 A) (0, 0) _ M0.out Tryz.underlying180 rfl (by rw [qd]; kernel_rfl) ?_) | (refine wpList_store_row rfl 180 _ _ rfl (w.heap.size + 1) _ rfl rfl 180 Z Mz.out (by rw [qd]; kernel_rfl) (HZ.out.trans (qd _).symm) (qo _ _ _) ?_))
    exact bodyPost_ret (v := .agg (e4 A)) (results_cell_row (t := 180) (by rfl) _ _ (w.heap.size + 1) _ _ _ rfl (Mz.out.setRow _) Tryz.underlying180 rfl (by rw [qd]; kernel_rfl)) rfl ⟨A, HA.out, Hm.out, rfl, HBB.out⟩
theorem pwm_mul (a e A B : Nat) (hA : A % PP = pwm a e) (hB : B % PP = a % PP) : A * B % PP = pwm a (e + 1) := by
 unfold pwm at *
 rw [Nat.mul_mod, hA, hB, ← Nat.mul_mod, Nat.pow_succ]
theorem zV (a n : Nat) (ha : a < 115792089237316195423570985008687907853269984665640564039457584007913129639936) (hn : n ≤ 1000) (w : World) :
 Calls Tryz.prog 255 #[.agg (e4 a), .int .i64 n] w (ElP (pwm a (2 ^ n + 1)) w) := by
 have hs := fun w => QI a n ha hn w
 have ht := fun x h w => qB x a h ha w
 have Hs := Lib.hid hs; clear hs
 have Ht := Lib.hid ht; clear ht
 clear ha hn
 go_enter Tryz.func255, Tryz.ntmps255
 go_wp2_with fail
 refine wp_region_noPanic ?_
 refine QW 5 (by kernel_rfl) ?_
 intro W0 hW0
 have M0 := Lib.hid (show Has W0 w.heap.size (e4 a) 180 by rw [hW0]; exact (Has.new _ _ _).alloc _)
 have M1 := Lib.hid (show HasN W0 (w.heap.size + 1) 4 180 by rw [hW0]; exact HasN.new1 _ _ _ _ 4 rfl)
 have HB := Lib.hid (show Below w.heap.size w W0 by rw [hW0]; exact Qp _ _ _)
 clear hW0
 refine Qh (i := 0) rfl (by kernel_rfl) (by kernel_rfl) (by kernel_rfl) (by kernel_rfl) (by kernel_rfl) (fun _ _ _ h => h) (qj (by rfl) 180 _ rfl (w.heap.size) rfl 180 (e4 a) (fun _ h => M0.out.below h M0.out.lt) Tryz.underlying180 rfl (by rw [qd]; kernel_rfl)) ((Below.refl _ _).drew) ?_
 (try simp only [Act.put]); (try simp only [List.setIfInBounds_toArray])
 refine Qh (i := 1) (v := ?vv1) rfl (by kernel_rfl) (by kernel_rfl) (by kernel_rfl) (by kernel_rfl) (by kernel_rfl) (fun _ _ _ h => h) (Or.inl ⟨by rfl, ?hy1⟩) ((Below.refl _ _).drew) ?rest1
 case hy1 => (intro _ _; go_simp; try with_reducible rfl)
 (try simp only [Act.put]); (try simp only [List.setIfInBounds_toArray])
 refine Qh (i := 3) rfl (by kernel_rfl) (by kernel_rfl) (by kernel_rfl) (by kernel_rfl) (by kernel_rfl) (fun _ _ _ h => h) (qj (by rfl) 180 _ rfl (w.heap.size) rfl 180 (e4 a) (fun _ h => M0.out.below h M0.out.lt) Tryz.underlying180 rfl (by rw [qd]; kernel_rfl)) ((Below.refl _ _).drew) ?_
 (try simp only [Act.put]); (try simp only [List.setIfInBounds_toArray])
 refine qP (i := 2) (by kernel_rfl) rfl (fun K hK => ?_)
 go_simp
 go_at_call 221
 refine (Hs.out _).mono ?_
 rintro e wW01 ⟨m1, hm1, hm1r, rfl, hb⟩
 have hkW01 := qf (Below.refl _ _).drew hb
 refine hK.out _ _ (fun _ => hkW01) ?_
 clear hK K hb
 refine qP (i := 4) (by kernel_rfl) rfl (fun K hK => ?_)
 go_simp
 go_at_call 210
 refine (Ht.out m1 hm1 _).mono ?_
 rintro e wW02 ⟨m2, hm2, hm2r, rfl, hb⟩
 have hkW02 := qf hkW01 hb
 refine hK.out _ _ (fun _ => hkW02) ?_
 clear hK K hb
 obtain ⟨Z, hZ, mZ⟩ := M1.out.below hkW02 M1.out.lt
 have MZ := Lib.hid mZ; clear mZ
 have HZ := Lib.hid hZ; clear hZ
 refine qP (i := 5) (by kernel_rfl) rfl (fun K hK => ?_)
 rw [if_pos (by rfl)]
 refine wp_store_row 180 _ _ rfl (w.heap.size + 1) _ rfl rfl 180 Z MZ.out (by rw [qd]; kernel_rfl) (HZ.out.trans (qd _).symm) (qo _ _ _) ?_
 refine hK.out _ _ (fun h => (h rfl).elim) ?_
 clear hK K
 (try simp only [Act.put]); (try simp only [List.setIfInBounds_toArray])
 refine qD (by kernel_rfl) (NoPanic.normal ?_)
 have hfin := hm2r.trans (pwm_mul a _ m1 a hm1r rfl)
 have HBB := Lib.hid (below_setRow (qf HB.out hkW02) (w.heap.size + 1) (e4 m2) (by omega))
 have Hfin := Lib.hid hfin; clear hfin
 go_wp2_with fail
 exact bodyPost_ret (v := .agg (e4 m2)) (results_cell_row (t := 180) (by rfl) _ _ (w.heap.size + 1) _ _ _ rfl (MZ.out.setRow _) Tryz.underlying180 rfl (by rw [qd]; kernel_rfl)) rfl ⟨m2, hm2, Hfin.out, rfl, HBB.out⟩
end
section
theorem qaY (a e f : Nat) : pwm a (e + f) = pwm a e * pwm a f % PP := by
 unfold pwm; rw [Nat.pow_add, Nat.mul_mod]
theorem pwm_succ (a e : Nat) : pwm a (e + 1) = pwm a e * a % PP := by
 unfold pwm; rw [Nat.pow_succ, Nat.mod_mul_mod]
theorem pwm_pwm (a e f : Nat) : pwm (pwm a e) f = pwm a (e * f) := by
 unfold pwm; rw [← Nat.pow_mod, Nat.pow_mul]
theorem ZE (a e : Nat) : pwm (a % PP) e = pwm a e := by
 unfold pwm; rw [← Nat.pow_mod]
theorem pwm_mulbase (a b e : Nat) : pwm (a * b) e = pwm a e * pwm b e % PP := by
 unfold pwm; rw [Nat.mul_pow, Nat.mul_mod]
theorem pwm_one (a : Nat) : pwm a 1 = a % PP := by unfold pwm; rw [Nat.pow_one]
theorem gen_PP : Nm.Gen PP 2 := Nm.gen_P
theorem pr_PP : Nm.Pr PP := Nm.pr_P
theorem little (a : Nat) (ha : a % PP ≠ 0) : pwm a (PP - 1) = 1 := gen_PP.little a ha
theorem over_undoes (u v : Nat) (hv : v % PP ≠ 0) : u * pwm v (PP - 2) % PP * v % PP = u % PP := by
 have h : pwm v (PP - 2) * v % PP = 1 := by
  rw [← pwm_succ]
  have e : PP - 2 + 1 = PP - 1 := by have := QF; omega
  rw [e]; exact little v hv
 rw [Nat.mod_mul_mod, Nat.mul_assoc, ← Nat.mul_mod_mod, h, Nat.mul_one]
theorem qa4 (a b : Nat) (h : a * b % PP = 0) : a % PP = 0 ∨ b % PP = 0 := by
 rcases pr_PP.2 a b (Nat.dvd_of_mod_eq_zero h) with h | h
 · exact .inl (Nat.mod_eq_zero_of_dvd h)
 · exact .inr (Nat.mod_eq_zero_of_dvd h)
theorem sq_eq (x y : Nat) (hx : x < PP) (hy : y < PP) (h : x * x % PP = y * y % PP) : x = y ∨ (x + y) % PP = 0 := by
 by_cases hxy : x ≤ y
 · obtain ⟨d, rfl⟩ : ∃ d, y = x + d := ⟨y - x, by omega⟩
   have e : (x + d) * (x + d) = x * x + d * (x + (x + d)) := by grind
   rw [e] at h
   have h2 : d * (x + (x + d)) % PP = 0 := by
    have h1 := Nat.div_add_mod (x * x) PP
    have h3 := Nat.div_add_mod (x * x + d * (x + (x + d))) PP
    rw [← h] at h3
    have : PP * ((x * x + d * (x + (x + d))) / PP) = PP * (x * x / PP) + d * (x + (x + d)) := by omega
    have hd : PP ∣ d * (x + (x + d)) := by
     refine (Nat.dvd_add_right (Nat.dvd_mul_right PP (x * x / PP))).1 ?_
     rw [← this]; exact Nat.dvd_mul_right _ _
    exact Nat.mod_eq_zero_of_dvd hd
   rcases qa4 _ _ h2 with h4 | h4
   · rw [Nat.mod_eq_of_lt (by omega)] at h4; left; omega
   · exact .inr h4
 · obtain ⟨d, rfl⟩ : ∃ d, x = y + d := ⟨x - y, by omega⟩
   have e : (y + d) * (y + d) = y * y + d * (y + (y + d)) := by grind
   rw [e] at h
   have h2 : d * (y + (y + d)) % PP = 0 := by
    have h1 := Nat.div_add_mod (y * y) PP
    have h3 := Nat.div_add_mod (y * y + d * (y + (y + d))) PP
    rw [h] at h3
    have : PP * ((y * y + d * (y + (y + d))) / PP) = PP * (y * y / PP) + d * (y + (y + d)) := by omega
    have hd : PP ∣ d * (y + (y + d)) := by
     refine (Nat.dvd_add_right (Nat.dvd_mul_right PP (y * y / PP))).1 ?_
     rw [← this]; exact Nat.dvd_mul_right _ _
    exact Nat.mod_eq_zero_of_dvd hd
   rcases qa4 _ _ h2 with h4 | h4
   · rw [Nat.mod_eq_of_lt (by omega)] at h4; left; omega
   · right; rw [Nat.add_comm]; exact h4
theorem mo_add_l (x x' y : Nat) (h : x % PP = x' % PP) : (x + y) % PP = (x' + y) % PP := by rw [Nat.add_mod, h, ← Nat.add_mod]
theorem mo_mul_l (x x' y : Nat) (h : x % PP = x' % PP) : (x * y) % PP = (x' * y) % PP := by rw [Nat.mul_mod, h, ← Nat.mul_mod]
end
section
open Go.RowKit Go.Lib
theorem Zo (a x k e m f : Nat) (hx : x % PP = pwm a k) (hm : m % PP = pwm x e) (hf : k * e = f) : m % PP = pwm a f := by
 rw [hm, ← ZE, hx, pwm_pwm, hf]
theorem qaA (a x y k e m f : Nat) (hx : x % PP = pwm a k) (hy : y % PP = pwm a e) (hm : m % PP = x * y % PP) (hf : k + e = f) : m % PP = pwm a f := by
 rw [hm, Nat.mul_mod, hx, hy, ← qaY, hf]
theorem qaZ (a : Nat) : a % PP = pwm a 1 := (pwm_one a).symm
theorem qcJ (a m1 m2 m3 m4 : Nat) (h1 : m1 % PP = pwm a 3) (h2 : m2 % PP = pwm m1 5) (h3 : m3 % PP = pwm m2 2) (h4 : m4 % PP = m3 * a % PP) : m4 % PP = pwm a 31 :=
 qaA a m3 a 30 1 m4 31 (Zo a m2 15 2 m3 30 (Zo a m1 3 5 m2 15 h1 h2 rfl) h3 rfl) (qaZ a) h4 rfl
theorem qcb (a m6 m7 m8 m5 m9 : Nat) (h6 : m6 % PP = pwm a 1048575) (h5 : m5 % PP = pwm a 1023) (h7 : m7 % PP = pwm m6 1048577) (h8 : m8 % PP = pwm m7 1024) (h9 : m9 % PP = m8 * m5 % PP) : m9 % PP = pwm a 1125899906842623 :=
 qaA a m8 m5 1125899906841600 1023 m9 _ (Zo a m7 1099511627775 1024 m8 _ (Zo a m6 1048575 1048577 m7 _ h6 h7 (by decide +kernel)) h8 (by decide +kernel)) h5 h9 (by decide +kernel)
theorem p_all (a m10 m11 m12 m9 m13 : Nat) (h10 : m10 % PP = pwm a 1267650600228229401496703205375) (h9 : m9 % PP = pwm a 1125899906842623) (h11 : m11 % PP = pwm m10 1267650600228229401496703205377) (h12 : m12 % PP = pwm m11 1125899906842624) (h13 : m13 % PP = m12 * m9 % PP) : m13 % PP = pwm a 1809251394333065553493296640760748560207343510400633813116524750123642650623 :=
 qaA a m12 m9 1809251394333065553493296640760748560207343510400633813116523624223735808000 1125899906842623 m13 _ (Zo a m11 1606938044258990275541962092341162602522202993782792835301375 1125899906842624 m12 _ (Zo a m10 1267650600228229401496703205375 1267650600228229401496703205377 m11 _ h10 h11 (by decide +kernel)) h12 (by decide +kernel)) h9 h13 (by decide +kernel)
theorem grow_1 (x : Nat) (hx : x < 115792089237316195423570985008687907853269984665640564039457584007913129639936) (w : World) : Calls Tryz.prog 255 #[.agg (e4 x), .int .i64 1] w (ElP (pwm x 3) w) := by
 have h := zV x 1 hx (by decide) w
 rw [show 2 ^ 1 + 1 = 3 by decide +kernel] at h
 exact h
theorem grow_2 (x : Nat) (hx : x < 115792089237316195423570985008687907853269984665640564039457584007913129639936) (w : World) : Calls Tryz.prog 255 #[.agg (e4 x), .int .i64 2] w (ElP (pwm x 5) w) := by
 have h := zV x 2 hx (by decide) w
 rw [show 2 ^ 2 + 1 = 5 by decide +kernel] at h
 exact h
theorem grow_5 (x : Nat) (hx : x < 115792089237316195423570985008687907853269984665640564039457584007913129639936) (w : World) : Calls Tryz.prog 255 #[.agg (e4 x), .int .i64 5] w (ElP (pwm x 33) w) := by
 have h := zV x 5 hx (by decide) w
 rw [show 2 ^ 5 + 1 = 33 by decide +kernel] at h
 exact h
theorem grow_10 (x : Nat) (hx : x < 115792089237316195423570985008687907853269984665640564039457584007913129639936) (w : World) : Calls Tryz.prog 255 #[.agg (e4 x), .int .i64 10] w (ElP (pwm x 1025) w) := by
 have h := zV x 10 hx (by decide) w
 rw [show 2 ^ 10 + 1 = 1025 by decide +kernel] at h
 exact h
theorem grow_20 (x : Nat) (hx : x < 115792089237316195423570985008687907853269984665640564039457584007913129639936) (w : World) : Calls Tryz.prog 255 #[.agg (e4 x), .int .i64 20] w (ElP (pwm x 1048577) w) := by
 have h := zV x 20 hx (by decide) w
 rw [show 2 ^ 20 + 1 = 1048577 by decide +kernel] at h
 exact h
theorem grow_50 (x : Nat) (hx : x < 115792089237316195423570985008687907853269984665640564039457584007913129639936) (w : World) : Calls Tryz.prog 255 #[.agg (e4 x), .int .i64 50] w (ElP (pwm x 1125899906842625) w) := by
 have h := zV x 50 hx (by decide) w
 rw [show 2 ^ 50 + 1 = 1125899906842625 by decide +kernel] at h
 exact h
theorem grow_100 (x : Nat) (hx : x < 115792089237316195423570985008687907853269984665640564039457584007913129639936) (w : World) : Calls Tryz.prog 255 #[.agg (e4 x), .int .i64 100] w (ElP (pwm x 1267650600228229401496703205377) w) := by
 have h := zV x 100 hx (by decide) w
 rw [show 2 ^ 100 + 1 = 1267650600228229401496703205377 by decide +kernel] at h
 exact h
theorem zN (x : Nat) (hx : x < 115792089237316195423570985008687907853269984665640564039457584007913129639936) (w : World) : Calls Tryz.prog 221 #[.agg (e4 x), .int .i64 1] w (ElP (pwm x 2) w) := by
 have h := QI x 1 hx (by decide) w
 rw [show 2 ^ 1 = 2 by decide +kernel] at h
 exact h
theorem qaj (x : Nat) (hx : x < 115792089237316195423570985008687907853269984665640564039457584007913129639936) (w : World) : Calls Tryz.prog 221 #[.agg (e4 x), .int .i64 2] w (ElP (pwm x 4) w) := by
 have h := QI x 2 hx (by decide) w
 rw [show 2 ^ 2 = 4 by decide +kernel] at h
 exact h
theorem squares_3 (x : Nat) (hx : x < 115792089237316195423570985008687907853269984665640564039457584007913129639936) (w : World) : Calls Tryz.prog 221 #[.agg (e4 x), .int .i64 3] w (ElP (pwm x 8) w) := by
 have h := QI x 3 hx (by decide) w
 rw [show 2 ^ 3 = 8 by decide +kernel] at h
 exact h
theorem squares_5 (x : Nat) (hx : x < 115792089237316195423570985008687907853269984665640564039457584007913129639936) (w : World) : Calls Tryz.prog 221 #[.agg (e4 x), .int .i64 5] w (ElP (pwm x 32) w) := by
 have h := QI x 5 hx (by decide) w
 rw [show 2 ^ 5 = 32 by decide +kernel] at h
 exact h
theorem qaG (x : Nat) (hx : x < 115792089237316195423570985008687907853269984665640564039457584007913129639936) (w : World) : Calls Tryz.prog 221 #[.agg (e4 x), .int .i64 10] w (ElP (pwm x 1024) w) := by
 have h := QI x 10 hx (by decide) w
 rw [show 2 ^ 10 = 1024 by decide +kernel] at h
 exact h
theorem squares_50 (x : Nat) (hx : x < 115792089237316195423570985008687907853269984665640564039457584007913129639936) (w : World) : Calls Tryz.prog 221 #[.agg (e4 x), .int .i64 50] w (ElP (pwm x 1125899906842624) w) := by
 have h := QI x 50 hx (by decide) w
 rw [show 2 ^ 50 = 1125899906842624 by decide +kernel] at h
 exact h
theorem ent159 : _root_.Go.Enters Tryz.prog 159 := ⟨_, Tryz.func159, by kernel_rfl, by kernel_rfl⟩
theorem ZN : _root_.Go.Enters Tryz.prog 210 := ⟨_, Tryz.func210, by kernel_rfl, by kernel_rfl⟩
theorem ent80 : _root_.Go.Enters Tryz.prog 80 := ⟨_, Tryz.func80, by kernel_rfl, by kernel_rfl⟩
theorem qbJ : _root_.Go.Enters Tryz.prog 166 := ⟨_, Tryz.func166, by kernel_rfl, by kernel_rfl⟩
theorem ent175 : _root_.Go.Enters Tryz.prog 175 := ⟨_, Tryz.func175, by kernel_rfl, by kernel_rfl⟩
theorem ent211 : _root_.Go.Enters Tryz.prog 211 := ⟨_, Tryz.func211, by kernel_rfl, by kernel_rfl⟩
theorem ent174 : _root_.Go.Enters Tryz.prog 174 := ⟨_, Tryz.func174, by kernel_rfl, by kernel_rfl⟩
theorem ent167 : _root_.Go.Enters Tryz.prog 167 := ⟨_, Tryz.func167, by kernel_rfl, by kernel_rfl⟩
theorem ent77 : _root_.Go.Enters Tryz.prog 77 := ⟨_, Tryz.func77, by kernel_rfl, by kernel_rfl⟩
theorem ent160 : _root_.Go.Enters Tryz.prog 160 := ⟨_, Tryz.func160, by kernel_rfl, by kernel_rfl⟩
theorem ent76 : _root_.Go.Enters Tryz.prog 76 := ⟨_, Tryz.func76, by kernel_rfl, by kernel_rfl⟩
theorem ent221 : _root_.Go.Enters Tryz.prog 221 := ⟨_, Tryz.func221, by kernel_rfl, by kernel_rfl⟩
theorem ent222 : _root_.Go.Enters Tryz.prog 222 := ⟨_, Tryz.func222, by kernel_rfl, by kernel_rfl⟩
end
section
open Go.RowKit Go.Sx
theorem ep {g : FuncId} {vs : Array Value} {r : Nat} {w : World} (h : Calls Tryz.prog g vs w (ElP r w)) : Calls Tryz.prog g vs w fun e w' => ∃ m : Nat, (m < 115792089237316195423570985008687907853269984665640564039457584007913129639936 ∧ m % PP = r) ∧ e = .returned (.agg (e4 m)) ∧ Below w.heap.size w w' :=
 h.mono fun _ _ ⟨m, h1, h2, h3, h4⟩ => ⟨m, ⟨h1, h2⟩, h3, h4⟩
abbrev pv (b : Nat) : Value := .pointer (some ⟨b, 0, none⟩)
theorem Qo (n : Nat) : (e4 n).toList.all (·.oneCell') = true := by unfold e4 row; exact List.all_eq_true.2 fun v hv => Zl _ _ _ v hv
theorem qam (a : Nat) (ha : a < 115792089237316195423570985008687907853269984665640564039457584007913129639936) (w : World) :
 Calls Tryz.prog 222 #[.agg (e4 a)] w (ElP (pwm a 1809251394333065553493296640760748560207343510400633813116524750123642650623) w) := by
 refine (enter (R := fun v w' => ∃ m : Nat, m < 115792089237316195423570985008687907853269984665640564039457584007913129639936 ∧ m % PP = pwm a 1809251394333065553493296640760748560207343510400633813116524750123642650623 ∧ v = .agg (e4 m) ∧ Below w.heap.size w w') qe Tryz.func222 rfl Tryz.ntmps222 rfl (St.start w) (vs := [.agg (e4 a)]) ?_).mono (fun e w' ⟨v, he, m, h1, h2, h3, h4⟩ => ⟨m, h1, h2, by rw [he, h3], h4⟩)
 intro b1 b2
 refine cut (α := Nat × Nat) (fun x => x.2 < 115792089237316195423570985008687907853269984665640564039457584007913129639936 ∧ x.2 % PP = pwm a 31) (fun x => ⟨[(1, pv b1), (2, pv b2), (3, .func (.func 255) #[] #[]), (4, pv x.1)], [cl b1 (e4 a) 180, cl b2 #[.int .u64 0, .int .u64 0, .int .u64 0, .int .u64 0] 180, cl x.1 (e4 x.2) 180], []⟩) ?_ ?_
 · refine drs [cl b1 (e4 a) 180] [] (.t 0 (.t 1 (.t 2 (.t 6 (.b 3 8 (.b 4 8 (.b 5 8 (.b 7 8 (.n 8 (.n 9 .nil)) (.n 7 (.n 9 .nil))) (.n 5 (.n 7 (.n 9 .nil)))) (.n 4 (.n 5 (.n 7 (.n 9 .nil))))) (.n 3 (.n 4 (.n 5 (.n 7 (.n 9 .nil)))))))))) qe qk (by kernel_rfl) (.cons .nil) ?_
   refine ldN 0 rfl (qd _) ?_
   refine ldN 0 rfl (qd _) ?_
   refine ⟨?_, ?_⟩
   · refine ce (fun w _ => ep (grow_1 a ha w)) (fun m1 hm1 => ?_)
     refine ⟨.cons .nil, ?_⟩
     refine ⟨?_, ?_⟩
     · refine ce (fun w _ => ep (grow_2 m1 hm1.1 w)) (fun m2 hm2 => ?_)
       refine ⟨.cons .nil, ?_⟩
       refine ⟨?_, ?_⟩
       · refine ce (fun w _ => ep (zN m2 hm2.1 w)) (fun m3 hm3 => ?_)
         refine ⟨.cons .nil, ?_⟩
         refine ⟨?_, ?_⟩
         · refine ce (fun w _ => ep (qB m3 a hm3.1 ha w)) (fun m4 hm4 => ?_)
           refine ⟨.cons .nil, ?_⟩
           intro b4
           refine ⟨.cons .nil, ?_⟩
           refine sN 2 rfl (by rw [qd]; rfl) (Qo _) ?_ (by kernel_rfl)
           refine ⟨.cons .nil, ?_⟩
           exact ⟨(b4, m4), ⟨hm4.1, qcJ a m1 m2 m3 m4 hm1.2 hm2.2 hm3.2 hm4.2⟩, ⟨rfl, rfl, rfl, rfl, trivial⟩, .refl _, rfl⟩
         · intro b4
           refine ⟨.cons .nil, ?_⟩
           refine ce (fun w _ => ep (qB m3 a hm3.1 ha w)) (fun m4 hm4 => ?_)
           refine ⟨.cons .nil, ?_⟩
           refine sN 2 rfl (by rw [qd]; rfl) (Qo _) ?_ (by kernel_rfl)
           refine ⟨.cons .nil, ?_⟩
           exact ⟨(b4, m4), ⟨hm4.1, qcJ a m1 m2 m3 m4 hm1.2 hm2.2 hm3.2 hm4.2⟩, ⟨rfl, rfl, rfl, rfl, trivial⟩, .refl _, rfl⟩
       · intro b4
         refine ⟨.cons .nil, ?_⟩
         refine ce (fun w _ => ep (zN m2 hm2.1 w)) (fun m3 hm3 => ?_)
         refine ⟨.cons .nil, ?_⟩
         refine ce (fun w _ => ep (qB m3 a hm3.1 ha w)) (fun m4 hm4 => ?_)
         refine ⟨.cons .nil, ?_⟩
         refine sN 2 rfl (by rw [qd]; rfl) (Qo _) ?_ (by kernel_rfl)
         refine ⟨.cons .nil, ?_⟩
         exact ⟨(b4, m4), ⟨hm4.1, qcJ a m1 m2 m3 m4 hm1.2 hm2.2 hm3.2 hm4.2⟩, ⟨rfl, rfl, rfl, rfl, trivial⟩, .refl _, rfl⟩
     · intro b4
       refine ⟨.cons .nil, ?_⟩
       refine ce (fun w _ => ep (grow_2 m1 hm1.1 w)) (fun m2 hm2 => ?_)
       refine ⟨.cons .nil, ?_⟩
       refine ce (fun w _ => ep (zN m2 hm2.1 w)) (fun m3 hm3 => ?_)
       refine ⟨.cons .nil, ?_⟩
       refine ce (fun w _ => ep (qB m3 a hm3.1 ha w)) (fun m4 hm4 => ?_)
       refine ⟨.cons .nil, ?_⟩
       refine sN 2 rfl (by rw [qd]; rfl) (Qo _) ?_ (by kernel_rfl)
       refine ⟨.cons .nil, ?_⟩
       exact ⟨(b4, m4), ⟨hm4.1, qcJ a m1 m2 m3 m4 hm1.2 hm2.2 hm3.2 hm4.2⟩, ⟨rfl, rfl, rfl, rfl, trivial⟩, .refl _, rfl⟩
   · intro b4
     refine ⟨.cons .nil, ?_⟩
     refine ce (fun w _ => ep (grow_1 a ha w)) (fun m1 hm1 => ?_)
     refine ⟨.cons .nil, ?_⟩
     refine ce (fun w _ => ep (grow_2 m1 hm1.1 w)) (fun m2 hm2 => ?_)
     refine ⟨.cons .nil, ?_⟩
     refine ce (fun w _ => ep (zN m2 hm2.1 w)) (fun m3 hm3 => ?_)
     refine ⟨.cons .nil, ?_⟩
     refine ce (fun w _ => ep (qB m3 a hm3.1 ha w)) (fun m4 hm4 => ?_)
     refine ⟨.cons .nil, ?_⟩
     refine sN 2 rfl (by rw [qd]; rfl) (Qo _) ?_ (by kernel_rfl)
     refine ⟨.cons .nil, ?_⟩
     exact ⟨(b4, m4), ⟨hm4.1, qcJ a m1 m2 m3 m4 hm1.2 hm2.2 hm3.2 hm4.2⟩, ⟨rfl, rfl, rfl, rfl, trivial⟩, .refl _, rfl⟩
 · rintro ⟨b4, m4⟩ ⟨hm4, hk4⟩
   dsimp only at hm4 hk4 ⊢
   refine ldN 2 rfl (qd _) ?_
   refine ce (fun w _ => ep (grow_5 m4 hm4 w)) (fun m5 hm5 => ?_)
   have hk5 := Zo a m4 31 33 m5 1023 hk4 hm5.2 rfl
   intro b5
   refine sN 3 rfl (by rw [qd]; rfl) (Qo _) ?_ (by kernel_rfl)
   refine ldN 3 rfl (qd _) ?_
   refine ce (fun w _ => ep (grow_10 m5 hm5.1 w)) (fun m6 hm6 => ?_)
   have hk6 := Zo a m5 1023 1025 m6 1048575 hk5 hm6.2 (by decide +kernel)
   intro b6
   refine sN 4 rfl (by rw [qd]; rfl) (Qo _) ?_ (by kernel_rfl)
   refine cut (α := Nat × Nat) (fun x => x.2 < 115792089237316195423570985008687907853269984665640564039457584007913129639936 ∧ x.2 % PP = pwm a 1125899906842623) (fun x => ⟨[(2, pv b2), (3, .func (.func 255) #[] #[]), (7, pv x.1)], [dead, cl b2 #[.int .u64 0, .int .u64 0, .int .u64 0, .int .u64 0] 180, cl x.1 (e4 x.2) 180], []⟩) ?_ ?_
   · refine drs [dead, dead, dead, cl b5 (e4 m5) 180, cl b6 (e4 m6) 180] [] (.t 0 (.t 1 (.t 4 (.b 2 6 (.b 3 6 (.b 5 6 (.n 6 (.n 7 .nil)) (.n 5 (.n 7 .nil))) (.n 3 (.n 5 (.n 7 .nil)))) (.n 2 (.n 3 (.n 5 (.n 7 .nil)))))))) qe qk (by kernel_rfl) (.dead (.dead (.dead (.cons (.cons .nil))))) ?_
     refine ldN 4 rfl (qd _) ?_
     refine ldN 3 rfl (qd _) ?_
     refine ⟨?_, ?_⟩
     · refine ce (fun w _ => ep (grow_20 m6 hm6.1 w)) (fun m7 hm7 => ?_)
       refine ⟨.dead (.dead (.dead (.cons (.cons .nil)))), ?_⟩
       refine ⟨?_, ?_⟩
       · refine ce (fun w _ => ep (qaG m7 hm7.1 w)) (fun m8 hm8 => ?_)
         refine ⟨.dead (.dead (.dead (.cons (.cons .nil)))), ?_⟩
         refine ⟨?_, ?_⟩
         · refine ce (fun w _ => ep (qB m8 m5 hm8.1 hm5.1 w)) (fun m9 hm9 => ?_)
           refine ⟨.dead (.dead (.dead (.cons (.cons .nil)))), ?_⟩
           intro b7
           refine ⟨.dead (.dead (.dead (.cons (.cons .nil)))), ?_⟩
           refine sN 5 rfl (by rw [qd]; rfl) (Qo _) ?_ (by kernel_rfl)
           refine ⟨.dead (.dead (.dead (.cons (.cons .nil)))), ?_⟩
           exact ⟨(b7, m9), ⟨hm9.1, qcb a m6 m7 m8 m5 m9 hk6 hk5 hm7.2 hm8.2 hm9.2⟩, ⟨rfl, rfl, rfl, trivial⟩, .dead (.cons (.drop (.drop (.drop (.cons .nil))))), rfl⟩
         · intro b7
           refine ⟨.dead (.dead (.dead (.cons (.cons .nil)))), ?_⟩
           refine ce (fun w _ => ep (qB m8 m5 hm8.1 hm5.1 w)) (fun m9 hm9 => ?_)
           refine ⟨.dead (.dead (.dead (.cons (.cons .nil)))), ?_⟩
           refine sN 5 rfl (by rw [qd]; rfl) (Qo _) ?_ (by kernel_rfl)
           refine ⟨.dead (.dead (.dead (.cons (.cons .nil)))), ?_⟩
           exact ⟨(b7, m9), ⟨hm9.1, qcb a m6 m7 m8 m5 m9 hk6 hk5 hm7.2 hm8.2 hm9.2⟩, ⟨rfl, rfl, rfl, trivial⟩, .dead (.cons (.drop (.drop (.drop (.cons .nil))))), rfl⟩
       · intro b7
         refine ⟨.dead (.dead (.dead (.cons (.cons .nil)))), ?_⟩
         refine ce (fun w _ => ep (qaG m7 hm7.1 w)) (fun m8 hm8 => ?_)
         refine ⟨.dead (.dead (.dead (.cons (.cons .nil)))), ?_⟩
         refine ce (fun w _ => ep (qB m8 m5 hm8.1 hm5.1 w)) (fun m9 hm9 => ?_)
         refine ⟨.dead (.dead (.dead (.cons (.cons .nil)))), ?_⟩
         refine sN 5 rfl (by rw [qd]; rfl) (Qo _) ?_ (by kernel_rfl)
         refine ⟨.dead (.dead (.dead (.cons (.cons .nil)))), ?_⟩
         exact ⟨(b7, m9), ⟨hm9.1, qcb a m6 m7 m8 m5 m9 hk6 hk5 hm7.2 hm8.2 hm9.2⟩, ⟨rfl, rfl, rfl, trivial⟩, .dead (.cons (.drop (.drop (.drop (.cons .nil))))), rfl⟩
     · intro b7
       refine ⟨.dead (.dead (.dead (.cons (.cons .nil)))), ?_⟩
       refine ce (fun w _ => ep (grow_20 m6 hm6.1 w)) (fun m7 hm7 => ?_)
       refine ⟨.dead (.dead (.dead (.cons (.cons .nil)))), ?_⟩
       refine ce (fun w _ => ep (qaG m7 hm7.1 w)) (fun m8 hm8 => ?_)
       refine ⟨.dead (.dead (.dead (.cons (.cons .nil)))), ?_⟩
       refine ce (fun w _ => ep (qB m8 m5 hm8.1 hm5.1 w)) (fun m9 hm9 => ?_)
       refine ⟨.dead (.dead (.dead (.cons (.cons .nil)))), ?_⟩
       refine sN 5 rfl (by rw [qd]; rfl) (Qo _) ?_ (by kernel_rfl)
       refine ⟨.dead (.dead (.dead (.cons (.cons .nil)))), ?_⟩
       exact ⟨(b7, m9), ⟨hm9.1, qcb a m6 m7 m8 m5 m9 hk6 hk5 hm7.2 hm8.2 hm9.2⟩, ⟨rfl, rfl, rfl, trivial⟩, .dead (.cons (.drop (.drop (.drop (.cons .nil))))), rfl⟩
   · rintro ⟨b7, m9⟩ ⟨hm9, hk9⟩
     dsimp only at hm9 hk9 ⊢
     refine ldN 2 rfl (qd _) ?_
     refine ce (fun w _ => ep (grow_50 m9 hm9 w)) (fun m10 hm10 => ?_)
     have hk10 := Zo a m9 1125899906842623 1125899906842625 m10 1267650600228229401496703205375 hk9 hm10.2 (by decide +kernel)
     intro b8
     refine sN 3 rfl (by rw [qd]; rfl) (Qo _) ?_ (by kernel_rfl)
     refine drs [dead, dead, cl b7 (e4 m9) 180, cl b8 (e4 m10) 180] [6] (.t 0 (.t 1 (.t 4 (.n 2 (.n 3 (.n 5 (.n 6 .nil))))))) qe qk (by kernel_rfl) (.dead (.dead (.cons (.cons .nil)))) ?_
     refine ldN 3 rfl (qd _) ?_
     refine ldN 2 rfl (qd _) ?_
     refine ce (fun w _ => ep (grow_100 m10 hm10.1 w)) (fun m11 hm11 => ?_)
     refine ⟨.dead (.dead (.cons (.cons .nil))), ?_⟩
     refine ce (fun w _ => ep (squares_50 m11 hm11.1 w)) (fun m12 hm12 => ?_)
     refine ⟨.dead (.dead (.cons (.cons .nil))), ?_⟩
     refine ce (fun w _ => ep (qB m12 m9 hm12.1 hm9 w)) (fun m13 hm13 => ?_)
     refine ⟨.dead (.dead (.cons (.cons .nil))), ?_⟩
     refine sN 1 rfl (by rw [qd]; rfl) (Qo _) ?_ (by kernel_rfl)
     refine ldN 1 rfl (qd _) ?_
     exact ⟨fun w1 hs => ⟨m13, hm13.1, p_all a m10 m11 m12 m9 m13 hk10 hk9 hm11.2 hm12.2 hm13.2, rfl, hs.below⟩⟩
end
section
open Go.RowKit Go.Lib
theorem p_over (a b n1 n2 n3 n4 n5 n6 n7 n8 : Nat) (h1 : n1 % PP = pwm b 2) (h2 : n2 % PP = pwm n1 4) (h3 : n3 % PP = n2 * b % PP) (h4 : n4 % PP = n3 * n1 % PP)
 (h5 : n5 % PP = pwm b 1809251394333065553493296640760748560207343510400633813116524750123642650623) (h6 : n6 % PP = pwm n5 32) (h7 : n7 % PP = n6 * n4 % PP) (h8 : n8 % PP = a * n7 % PP) : n8 % PP = a * pwm b (PP - 2) % PP := by
 have k2 := Zo b n1 2 4 n2 8 h1 h2 rfl
 have k3 := qaA b n2 b 8 1 n3 9 k2 (qaZ b) h3 rfl
 have k4 := qaA b n3 n1 9 2 n4 11 k3 h1 h4 rfl
 have k6 := Zo b n5 1809251394333065553493296640760748560207343510400633813116524750123642650623 32 n6 57896044618658097711785492504343953926634992332820282019728792003956564819936 h5 h6 (by decide +kernel)
 have k7 := qaA b n6 n4 57896044618658097711785492504343953926634992332820282019728792003956564819936 11 n7 (PP - 2) k6 k4 h7 (by decide +kernel)
 rw [h8, Nat.mul_mod, k7, Nat.mod_mul_mod]
theorem qa2 (a b : Nat) (ha : a < 115792089237316195423570985008687907853269984665640564039457584007913129639936) (hb0 : b < 115792089237316195423570985008687907853269984665640564039457584007913129639936) (w : World) :
 Calls Tryz.prog 167 #[.agg (e4 a), .agg (e4 b)] w (ElP (a * pwm b (PP - 2) % PP) w) := by
 have hs1 := fun w => zN b hb0 w
 have hs2 := qaj
 have hs5 := squares_5
 have ht := fun x y hx hy w => qB x y hx hy w
 have hpw := fun w => qam b hb0 w
 have hpo := p_over a b
 have Hs1 := Lib.hid hs1; clear hs1
 have Hs2 := Lib.hid hs2; clear hs2
 have Hs5 := Lib.hid hs5; clear hs5
 have Ht := Lib.hid ht; clear ht
 have Hpw := Lib.hid hpw; clear hpw
 have Hpo := Lib.hid hpo; clear hpo
 have Ha := Lib.hid ha; clear ha
 have Hb0 := Lib.hid hb0; clear hb0
 obtain ⟨R, hR⟩ : ∃ R, R = a * pwm b (PP - 2) % PP := ⟨_, rfl⟩
 rw [← hR] at Hpo ⊢
 clear hR
 go_enter Tryz.func167, Tryz.ntmps167
 go_step
 go_step
 iterate 3 (refine wpList_step (fun K hK => ?_); go_simp; (try go_bits); refine hK _ _ ?_; clear hK K)
 refine wpList_nil ?_
 have M2 := Lib.hid (((Has.new w  (e4 a) 180).alloc (.cells (e4 b) 180)).alloc (.cells (#[.int .u64 0, .int .u64 0, .int .u64 0, .int .u64 0] : Array Value) 180))
 have M3 := Lib.hid ((Has.new1 w (.cells (e4 a) 180) (e4 b) 180).alloc (.cells (#[.int .u64 0, .int .u64 0, .int .u64 0, .int .u64 0] : Array Value) 180))
 have M4 := Lib.hid (HasN.new2 w (.cells (e4 a) 180) (.cells (e4 b) 180) (#[.int .u64 0, .int .u64 0, .int .u64 0, .int .u64 0] : Array Value) 180 4 (by kernel_rfl))
 have HB := Lib.hid (Qz w (.cells (e4 a) 180) (.cells (e4 b) 180) (.cells (#[.int .u64 0, .int .u64 0, .int .u64 0, .int .u64 0] : Array Value) 180))
 go_step
 go_step
 go_step
 go_step
 refine qv (by rfl) 180 _ rfl (w.heap.size + 1) rfl 180 (e4 b) M3.out Tryz.underlying180 rfl (by rw [qd]; kernel_rfl) 7 rfl ?_
 (try simp only [Act.put, sI, sS, sZ])
 refine qm (by rfl) rfl rfl (by rfl) ent221 (by rfl) (Hs1.out _) 8 rfl ?_
 rintro e uw1 ⟨n1, hn1, hn1r, rfl, hb⟩
 replace M2 := Lib.hid (M2.out.call hb)
 replace M3 := Lib.hid (M3.out.call hb)
 replace M4 := Lib.hid (M4.out.call hb)
 replace HB := Lib.hid (qf HB.out hb)
 refine ⟨_, rfl, ?_⟩
 clear hb
 (try simp only [Act.put, sI, sS, sZ])
 refine wpList_step (fun K hK => ?_)
 go_simp
 have hlt1 := M2.out.lt
 have hlt2 := M3.out.lt
 have hlt3 := M4.out.lt
 replace M2 := Lib.hid (M2.out.alloc (.cells (#[.int .u64 0, .int .u64 0, .int .u64 0, .int .u64 0] : Array Value) 180))
 replace M3 := Lib.hid (M3.out.alloc (.cells (#[.int .u64 0, .int .u64 0, .int .u64 0, .int .u64 0] : Array Value) 180))
 replace M4 := Lib.hid (M4.out.alloc (.cells (#[.int .u64 0, .int .u64 0, .int .u64 0, .int .u64 0] : Array Value) 180))
 have M5 := Lib.hid (HasN.new uw1 (#[.int .u64 0, .int .u64 0, .int .u64 0, .int .u64 0] : Array Value) 180 4 rfl)
 have hsz := HB.out.size
 replace HB := Lib.hid (HB.out.alloc hsz (.cells (#[.int .u64 0, .int .u64 0, .int .u64 0, .int .u64 0] : Array Value) 180))
 refine hK _ _ ?_
 clear hK K
 first | (obtain ⟨Zq, hZ, mZ⟩ := M5.out) | (obtain ⟨Zq, hZ, mZ⟩ := M5.out.toN (qd _))
 clear M5
 have hZ' := Lib.hid hZ; clear hZ
 have mZ' := Lib.hid mZ; clear mZ
 refine wpList_store_row rfl 180 _ _ rfl (uw1.heap.size) _ rfl rfl 180 Zq mZ'.out (by rw [qd]; kernel_rfl) (hZ'.out.trans (qd _).symm) (qo _ _ _) ?_
 (try simp only [Act.put, sI, sS, sZ])
 replace M2 := Lib.hid (M2.out.setRow_other (uw1.heap.size) (e4 n1) (by omega))
 replace M3 := Lib.hid (M3.out.setRow_other (uw1.heap.size) (e4 n1) (by omega))
 replace M4 := Lib.hid (M4.out.setRow_other (uw1.heap.size) (e4 n1) (by omega))
 have M5 := Lib.hid (mZ'.out.setRow (e4 n1))
 clear mZ' hZ'
 replace HB := Lib.hid (below_setRow HB.out (uw1.heap.size) (e4 n1) (by omega))
 refine wpList_nil ?_
 have Hn1r := Lib.hid hn1r; clear hn1r
 go_step
 go_step
 go_step
 refine qcj (α := Nat × Nat × Nat × Nat) (fun W0 x w' => x.2.2.2 < 115792089237316195423570985008687907853269984665640564039457584007913129639936 ∧ x.2.1 % PP = pwm n1 4 ∧ x.2.2.1 % PP = x.2.1 * b % PP ∧ x.2.2.2 % PP = x.2.2.1 * n1 % PP ∧ W0.heap.size ≤ x.1 ∧ Has w' x.1 (e4 x.2.2.2) 180 ∧ Below W0.heap.size W0 w') (fun ac x => (((((((ac.put (some 9) (.agg (e4 n1))).put (some 10) (.agg (e4 x.2.1))).put (some 11) (.agg (e4 b))).put (some 12) (.agg (e4 x.2.2.1))).put (some 13) (.agg (e4 n1))).put (some 14) (.agg (e4 x.2.2.2))).put (some 6) (.pointer (some ⟨x.1, 0, none⟩)))) ?_ ?_
 · intro Q' hQ'
   refine wp_region_noPanic ?_
   refine Qu 99 8 #[ff,ff,ff,ff,ff,ff,ff,ff] (by kernel_rfl) rfl rfl ?_
   intro W4 hW4
   rw [← hW4] at hQ'
   simp only [Act.put, List.setIfInBounds_toArray, List.set_cons_succ, List.set_cons_zero] at hQ'
   have HQ := Lib.hid hQ'; clear hQ'
   rw [← hW4] at M2 M3 M4 M5 HB
   clear hW4
   refine qi 0 9 #[tt,ff,ff,ff,ff,ff,ff,ff] rfl rfl rfl (by kernel_rfl) (qj (by rfl) 180 _ rfl (uw1.heap.size) rfl 180 (e4 n1) (fun _ h => M5.out.below h M5.out.lt) Tryz.underlying180 rfl (by rw [qd]; kernel_rfl)) ((qF W4)) ?_
   (try simp only [sI, sS, sZ])
   refine qi 2 11 #[tt,ff,tt,ff,ff,ff,ff,ff] rfl rfl rfl (by kernel_rfl) (qj (by rfl) 180 _ rfl (w.heap.size + 1) rfl 180 (e4 b) (fun _ h => M3.out.below h M3.out.lt) Tryz.underlying180 rfl (by rw [qd]; kernel_rfl)) ((qF W4)) ?_
   (try simp only [sI, sS, sZ])
   refine qi 4 13 #[tt,ff,tt,ff,tt,ff,ff,ff] rfl rfl rfl (by kernel_rfl) (qj (by rfl) 180 _ rfl (uw1.heap.size) rfl 180 (e4 n1) (fun _ h => M5.out.below h M5.out.lt) Tryz.underlying180 rfl (by rw [qd]; kernel_rfl)) ((qF W4)) ?_
   (try simp only [sI, sS, sZ])
   refine qcl (i := 1) (j := 6) (by kernel_rfl) ?_ ?_
   refine qM 1 10 #[tt,tt,tt,ff,tt,ff,ff,ff] rfl rfl rfl (by rfl) rfl rfl (by rfl) ent221 (by rfl) (Hs2.out n1 hn1 _) ?_
   rintro e wW41 ⟨n2, hn2, hn2r, rfl, hb⟩
   have hkW41 := qf (qF W4) hb
   refine ⟨_, rfl, fun _ => hkW41, ?_⟩
   clear hb
   (try simp only [sI, sS, sZ])
   refine qcl (i := 3) (j := 6) (by kernel_rfl) ?_ ?_
   refine qM 3 12 #[tt,tt,tt,tt,tt,ff,ff,ff] rfl rfl rfl (by rfl) rfl rfl (by rfl) ZN (by rfl) (Ht.out n2 b hn2 Hb0.out _) ?_
   rintro e wW42 ⟨n3, hn3, hn3r, rfl, hb⟩
   have hkW42 := qf hkW41 hb
   refine ⟨_, rfl, fun _ => hkW42, ?_⟩
   clear hb
   (try simp only [sI, sS, sZ])
   refine qcl (i := 5) (j := 6) (by kernel_rfl) ?_ ?_
   refine qM 5 14 #[tt,tt,tt,tt,tt,tt,ff,ff] rfl rfl rfl (by rfl) rfl rfl (by rfl) ZN (by rfl) (Ht.out n3 n1 hn3 hn1 _) ?_
   rintro e wW43 ⟨n4, hn4, hn4r, rfl, hb⟩
   have hkW43 := qf hkW42 hb
   refine ⟨_, rfl, fun _ => hkW43, ?_⟩
   clear hb
   (try simp only [sI, sS, sZ])
   refine qq (i := 6) (by kernel_rfl) ?_
   refine qbh 6 6 #[tt,tt,tt,tt,tt,tt,tt,ff] rfl rfl rfl (by rfl) 180 rfl _ qb5 ?_
   intro wW44 hw2
   have hkW44 := (hkW43).alloc (hkW43).size (.cells z36 180)
   rw [← hw2] at hkW44
   have MA6 := Lib.hid (HasN.new (wW43) z36 180 4 (by kernel_rfl))
   rw [← hw2] at MA6
   have HA6 := Lib.hid (show W4.heap.size ≤ _ from (hkW43).size)
   clear hw2
   refine ⟨fun _ => hkW44, ?_⟩
   (try simp only [sI, sS, sZ])
   refine qq (i := 7) (by kernel_rfl) ?_
   obtain ⟨Zq, hZ, mZ⟩ := MA6.out
   refine Ql 7 #[tt,tt,tt,tt,tt,tt,tt,tt] rfl rfl rfl (by rfl) 180 _ _ rfl _ _ rfl rfl 180 Zq mZ (by rw [qd]; kernel_rfl) (hZ.trans (qd ..).symm) (qo _ _ _) ?_
   intro wW45 hw2
   have hkW45 := below_setRow (hkW44) _ (e4 n4) HA6.out
   rw [← hw2] at hkW45
   clear MA6
   have MA6 := Lib.hid (mZ.setRow (e4 n4))
   rw [← hw2] at MA6; clear mZ hZ hw2
   refine ⟨fun _ => hkW45, ?_⟩
   (try simp only [sI, sS, sZ])
   exact qD (by kernel_rfl) (NoPanic.normal (HQ.out (_, n2, n3, n4) _ ⟨hn4, hn2r, hn3r, hn4r, HA6.out, MA6.out, (hkW45)⟩))
   refine qbh 6 6 #[tt,tt,tt,tt,tt,ff,tt,ff] rfl rfl rfl (by rfl) 180 rfl _ qb5 ?_
   intro wW43 hw2
   have hkW43 := (hkW42).alloc (hkW42).size (.cells z36 180)
   rw [← hw2] at hkW43
   have MA6 := Lib.hid (HasN.new (wW42) z36 180 4 (by kernel_rfl))
   rw [← hw2] at MA6
   have HA6 := Lib.hid (show W4.heap.size ≤ _ from (hkW42).size)
   clear hw2
   refine ⟨fun _ => hkW43, ?_⟩
   (try simp only [sI, sS, sZ])
   refine qq (i := 5) (by kernel_rfl) ?_
   refine qM 5 14 #[tt,tt,tt,tt,tt,tt,tt,ff] rfl rfl rfl (by rfl) rfl rfl (by rfl) ZN (by rfl) (Ht.out n3 n1 hn3 hn1 _) ?_
   rintro e wW44 ⟨n4, hn4, hn4r, rfl, hb⟩
   have hkW44 := qf hkW43 hb
   replace MA6 := Lib.hid (MA6.out.call hb)
   refine ⟨_, rfl, fun _ => hkW44, ?_⟩
   clear hb
   (try simp only [sI, sS, sZ])
   refine qq (i := 7) (by kernel_rfl) ?_
   obtain ⟨Zq, hZ, mZ⟩ := MA6.out
   refine Ql 7 #[tt,tt,tt,tt,tt,tt,tt,tt] rfl rfl rfl (by rfl) 180 _ _ rfl _ _ rfl rfl 180 Zq mZ (by rw [qd]; kernel_rfl) (hZ.trans (qd ..).symm) (qo _ _ _) ?_
   intro wW45 hw2
   have hkW45 := below_setRow (hkW44) _ (e4 n4) HA6.out
   rw [← hw2] at hkW45
   clear MA6
   have MA6 := Lib.hid (mZ.setRow (e4 n4))
   rw [← hw2] at MA6; clear mZ hZ hw2
   refine ⟨fun _ => hkW45, ?_⟩
   (try simp only [sI, sS, sZ])
   exact qD (by kernel_rfl) (NoPanic.normal (HQ.out (_, n2, n3, n4) _ ⟨hn4, hn2r, hn3r, hn4r, HA6.out, MA6.out, (hkW45)⟩))
   refine qbh 6 6 #[tt,tt,tt,ff,tt,ff,tt,ff] rfl rfl rfl (by rfl) 180 rfl _ qb5 ?_
   intro wW42 hw2
   have hkW42 := (hkW41).alloc (hkW41).size (.cells z36 180)
   rw [← hw2] at hkW42
   have MA6 := Lib.hid (HasN.new (wW41) z36 180 4 (by kernel_rfl))
   rw [← hw2] at MA6
   have HA6 := Lib.hid (show W4.heap.size ≤ _ from (hkW41).size)
   clear hw2
   refine ⟨fun _ => hkW42, ?_⟩
   (try simp only [sI, sS, sZ])
   refine qq (i := 3) (by kernel_rfl) ?_
   refine qM 3 12 #[tt,tt,tt,tt,tt,ff,tt,ff] rfl rfl rfl (by rfl) rfl rfl (by rfl) ZN (by rfl) (Ht.out n2 b hn2 Hb0.out _) ?_
   rintro e wW43 ⟨n3, hn3, hn3r, rfl, hb⟩
   have hkW43 := qf hkW42 hb
   replace MA6 := Lib.hid (MA6.out.call hb)
   refine ⟨_, rfl, fun _ => hkW43, ?_⟩
   clear hb
   (try simp only [sI, sS, sZ])
   refine qq (i := 5) (by kernel_rfl) ?_
   refine qM 5 14 #[tt,tt,tt,tt,tt,tt,tt,ff] rfl rfl rfl (by rfl) rfl rfl (by rfl) ZN (by rfl) (Ht.out n3 n1 hn3 hn1 _) ?_
   rintro e wW44 ⟨n4, hn4, hn4r, rfl, hb⟩
   have hkW44 := qf hkW43 hb
   replace MA6 := Lib.hid (MA6.out.call hb)
   refine ⟨_, rfl, fun _ => hkW44, ?_⟩
   clear hb
   (try simp only [sI, sS, sZ])
   refine qq (i := 7) (by kernel_rfl) ?_
   obtain ⟨Zq, hZ, mZ⟩ := MA6.out
   refine Ql 7 #[tt,tt,tt,tt,tt,tt,tt,tt] rfl rfl rfl (by rfl) 180 _ _ rfl _ _ rfl rfl 180 Zq mZ (by rw [qd]; kernel_rfl) (hZ.trans (qd ..).symm) (qo _ _ _) ?_
   intro wW45 hw2
   have hkW45 := below_setRow (hkW44) _ (e4 n4) HA6.out
   rw [← hw2] at hkW45
   clear MA6
   have MA6 := Lib.hid (mZ.setRow (e4 n4))
   rw [← hw2] at MA6; clear mZ hZ hw2
   refine ⟨fun _ => hkW45, ?_⟩
   (try simp only [sI, sS, sZ])
   exact qD (by kernel_rfl) (NoPanic.normal (HQ.out (_, n2, n3, n4) _ ⟨hn4, hn2r, hn3r, hn4r, HA6.out, MA6.out, (hkW45)⟩))
   refine qbh 6 6 #[tt,ff,tt,ff,tt,ff,tt,ff] rfl rfl rfl (by rfl) 180 rfl _ qb5 ?_
   intro wW41 hw2
   have hkW41 := ((qF W4)).alloc ((qF W4)).size (.cells z36 180)
   rw [← hw2] at hkW41
   have MA6 := Lib.hid (HasN.new (W4.drew) z36 180 4 (by kernel_rfl))
   rw [← hw2] at MA6
   have HA6 := Lib.hid (show W4.heap.size ≤ _ from ((qF W4)).size)
   clear hw2
   refine ⟨fun _ => hkW41, ?_⟩
   (try simp only [sI, sS, sZ])
   refine qq (i := 1) (by kernel_rfl) ?_
   refine qM 1 10 #[tt,tt,tt,ff,tt,ff,tt,ff] rfl rfl rfl (by rfl) rfl rfl (by rfl) ent221 (by rfl) (Hs2.out n1 hn1 _) ?_
   rintro e wW42 ⟨n2, hn2, hn2r, rfl, hb⟩
   have hkW42 := qf hkW41 hb
   replace MA6 := Lib.hid (MA6.out.call hb)
   refine ⟨_, rfl, fun _ => hkW42, ?_⟩
   clear hb
   (try simp only [sI, sS, sZ])
   refine qq (i := 3) (by kernel_rfl) ?_
   refine qM 3 12 #[tt,tt,tt,tt,tt,ff,tt,ff] rfl rfl rfl (by rfl) rfl rfl (by rfl) ZN (by rfl) (Ht.out n2 b hn2 Hb0.out _) ?_
   rintro e wW43 ⟨n3, hn3, hn3r, rfl, hb⟩
   have hkW43 := qf hkW42 hb
   replace MA6 := Lib.hid (MA6.out.call hb)
   refine ⟨_, rfl, fun _ => hkW43, ?_⟩
   clear hb
   (try simp only [sI, sS, sZ])
   refine qq (i := 5) (by kernel_rfl) ?_
   refine qM 5 14 #[tt,tt,tt,tt,tt,tt,tt,ff] rfl rfl rfl (by rfl) rfl rfl (by rfl) ZN (by rfl) (Ht.out n3 n1 hn3 hn1 _) ?_
   rintro e wW44 ⟨n4, hn4, hn4r, rfl, hb⟩
   have hkW44 := qf hkW43 hb
   replace MA6 := Lib.hid (MA6.out.call hb)
   refine ⟨_, rfl, fun _ => hkW44, ?_⟩
   clear hb
   (try simp only [sI, sS, sZ])
   refine qq (i := 7) (by kernel_rfl) ?_
   obtain ⟨Zq, hZ, mZ⟩ := MA6.out
   refine Ql 7 #[tt,tt,tt,tt,tt,tt,tt,tt] rfl rfl rfl (by rfl) 180 _ _ rfl _ _ rfl rfl 180 Zq mZ (by rw [qd]; kernel_rfl) (hZ.trans (qd ..).symm) (qo _ _ _) ?_
   intro wW45 hw2
   have hkW45 := below_setRow (hkW44) _ (e4 n4) HA6.out
   rw [← hw2] at hkW45
   clear MA6
   have MA6 := Lib.hid (mZ.setRow (e4 n4))
   rw [← hw2] at MA6; clear mZ hZ hw2
   refine ⟨fun _ => hkW45, ?_⟩
   (try simp only [sI, sS, sZ])
   exact qD (by kernel_rfl) (NoPanic.normal (HQ.out (_, n2, n3, n4) _ ⟨hn4, hn2r, hn3r, hn4r, HA6.out, MA6.out, (hkW45)⟩))
 · rintro W4 ⟨B6, n2, n3, n4⟩ vw4 hW4 ⟨hn4, hn2r, hn3r, hn4r, hBq0, mBq0, hbw⟩
   simp only [Act.put, List.setIfInBounds_toArray, List.set_cons_succ, List.set_cons_zero] at hn4 hn2r hn3r hn4r hBq0  mBq0 ⊢
   rw [← hW4] at M2 M3 M4 M5 HB
   clear hW4
   have hltM2_4 := M2.out.lt
   have hltM3_4 := M3.out.lt
   have hltM4_4 := M4.out.lt
   have hltM5_4 := M5.out.lt
   replace M2 := Lib.hid (M2.out.call hbw)
   replace M3 := Lib.hid (M3.out.call hbw)
   replace M4 := Lib.hid (M4.out.call hbw)
   replace M5 := Lib.hid (M5.out.call hbw)
   replace HB := Lib.hid (qf HB.out hbw)
   have M6 := Lib.hid mBq0; clear mBq0
   clear hbw
   have Hn2r := Lib.hid hn2r; clear hn2r
   have Hn3r := Lib.hid hn3r; clear hn3r
   have Hn4r := Lib.hid hn4r; clear hn4r
   clear M5
   go_step
   go_step
   go_step
   refine wp_region_noPanic ?_
   refine Qu 7 8 #[ff,ff,ff,ff,ff,ff,ff,ff] (by kernel_rfl) rfl rfl ?_
   intro W5 hW5
   rw [← hW5] at M2 M3 M4 M6 HB
   clear hW5
   have M4N := Lib.hid (by first | exact M4.out | exact M4.out.toN (by first | exact qd _ | exact qh _ | exact qg _ | exact qn .. | exact qL ..) : HasN W5 (w.heap.size + 1 + 1) _ _)
   refine qi 0 15 #[tt,ff,ff,ff,ff,ff,ff,ff] rfl rfl rfl (by kernel_rfl) (qj (by rfl) 180 _ rfl (w.heap.size) rfl 180 (e4 a) (fun _ h => M2.out.below h M2.out.lt) Tryz.underlying180 rfl (by rw [qd]; kernel_rfl)) ((qF W5)) ?_
   (try simp only [sI, sS, sZ])
   refine qi 1 16 #[tt,tt,ff,ff,ff,ff,ff,ff] rfl rfl rfl (by kernel_rfl) (qj (by rfl) 180 _ rfl (w.heap.size + 1) rfl 180 (e4 b) (fun _ h => M3.out.below h M3.out.lt) Tryz.underlying180 rfl (by rw [qd]; kernel_rfl)) ((qF W5)) ?_
   (try simp only [sI, sS, sZ])
   refine qi 4 19 #[tt,tt,ff,ff,tt,ff,ff,ff] rfl rfl rfl (by kernel_rfl) (qj (by rfl) 180 _ rfl (B6) rfl 180 (e4 n4) (fun _ h => M6.out.below h M6.out.lt) Tryz.underlying180 rfl (by rw [qd]; kernel_rfl)) ((qF W5)) ?_
   (try simp only [sI, sS, sZ])
   refine qq (i := 2) (by kernel_rfl) ?_
   refine qM 2 17 #[tt,tt,tt,ff,tt,ff,ff,ff] rfl rfl rfl (by rfl) rfl rfl (by rfl) ent222 (by rfl) (Hpw.out _) ?_
   rintro e wW51 ⟨n5, hn5, hn5r, rfl, hb⟩
   have hkW51 := qf (qF W5) hb
   refine ⟨_, rfl, fun _ => hkW51, ?_⟩
   clear hb
   (try simp only [sI, sS, sZ])
   refine qq (i := 3) (by kernel_rfl) ?_
   refine qM 3 18 #[tt,tt,tt,tt,tt,ff,ff,ff] rfl rfl rfl (by rfl) rfl rfl (by rfl) ent221 (by rfl) (Hs5.out n5 hn5 _) ?_
   rintro e wW52 ⟨n6, hn6, hn6r, rfl, hb⟩
   have hkW52 := qf hkW51 hb
   refine ⟨_, rfl, fun _ => hkW52, ?_⟩
   clear hb
   (try simp only [sI, sS, sZ])
   refine qq (i := 5) (by kernel_rfl) ?_
   refine qM 5 20 #[tt,tt,tt,tt,tt,tt,ff,ff] rfl rfl rfl (by rfl) rfl rfl (by rfl) ZN (by rfl) (Ht.out n6 n4 hn6 hn4 _) ?_
   rintro e wW53 ⟨n7, hn7, hn7r, rfl, hb⟩
   have hkW53 := qf hkW52 hb
   refine ⟨_, rfl, fun _ => hkW53, ?_⟩
   clear hb
   (try simp only [sI, sS, sZ])
   refine qq (i := 6) (by kernel_rfl) ?_
   refine qM 6 21 #[tt,tt,tt,tt,tt,tt,tt,ff] rfl rfl rfl (by rfl) rfl rfl (by rfl) ZN (by rfl) (Ht.out a n7 Ha.out hn7 _) ?_
   rintro e wW54 ⟨n8, hn8, hn8r, rfl, hb⟩
   have hkW54 := qf hkW53 hb
   refine ⟨_, rfl, fun _ => hkW54, ?_⟩
   clear hb
   (try simp only [sI, sS, sZ])
   refine qq (i := 7) (by kernel_rfl) ?_
   obtain ⟨Zq, hZ, mZ⟩ := M4N.out.below hkW54 M4N.out.lt
   have MZ := Lib.hid mZ; clear mZ
   have HZ := Lib.hid hZ; clear hZ
   refine qac 7 #[tt,tt,tt,tt,tt,tt,tt,tt] rfl rfl rfl (by rfl) 180 _ _ rfl (w.heap.size + 1 + 1) _ rfl rfl 180 Zq MZ.out (by rw [qd]; kernel_rfl) (HZ.out.trans (qd ..).symm) (qo _ _ _) ⟨fun h => (h rfl).elim, ?_⟩
   (try simp only [sI, sS, sZ])
   refine qD (by kernel_rfl) (NoPanic.normal ?_)
   replace M2 := Lib.hid ((M2.out.call hkW54).setRow_other (w.heap.size + 1 + 1) (e4 n8) (by omega))
   replace M3 := Lib.hid ((M3.out.call hkW54).setRow_other (w.heap.size + 1 + 1) (e4 n8) (by omega))
   replace M6 := Lib.hid ((M6.out.call hkW54).setRow_other (w.heap.size + 1 + 1) (e4 n8) (by omega))
   clear M4 M4N
   have M4 := Lib.hid (MZ.out.setRow (e4 n8)); clear MZ HZ
   replace HB := Lib.hid (below_setRow (qf HB.out hkW54) (w.heap.size + 1 + 1) (e4 n8) (by omega))
   have hfin := Hpo.out n1 n2 n3 n4 n5 n6 n7 n8 Hn1r.out Hn2r.out Hn3r.out Hn4r.out hn5r hn6r hn7r hn8r
   have Hfin := Lib.hid hfin; clear hfin
   go_wp2_with fail
   exact bodyPost_ret (v := .agg (e4 n8)) (results_cell_row (t := 180) (by rfl) _ _ (w.heap.size + 1 + 1) _ _ _ rfl M4.out Tryz.underlying180 rfl (by rw [qd]; kernel_rfl)) rfl ⟨n8, hn8, Hfin.out, rfl, HB.out⟩
end
section
def chi (a : Nat) : Nat := pwm a ((PP - 1) / 2)
theorem chi_sq (a : Nat) (ha : a % PP ≠ 0) : chi a * chi a % PP = 1 := by
 unfold chi
 rw [← qaY, show (PP - 1) / 2 + (PP - 1) / 2 = PP - 1 by decide +kernel]
 exact little a ha
theorem one_sq (t : Nat) (ht : t < PP) (h : t * t % PP = 1) : t = 1 ∨ t = PP - 1 := by
 have h1 : (1 : Nat) < PP := by have := QF; omega
 have hb : (1 : Nat) * 1 % PP = 1 := Nat.mod_eq_of_lt h1
 rcases sq_eq t 1 ht h1 (h.trans hb.symm) with h2 | h2
 · exact .inl h2
 · right
   by_cases hh : t + 1 < PP
   · rw [Nat.mod_eq_of_lt hh] at h2; omega
   · omega
theorem qcC (b e : Nat) (h : e < 2 ^ 256) : pwm b e = Nm.pm PP 256 b e := (Nm.pm_eq PP 256 b e h).symm
theorem rti_e : (PP - 1 % PP) / 2 / 2 + (PP - 1 % PP) / 2 / 2 < 2 ^ 256 := by decide +kernel
theorem rti_pm : Nm.pm PP 256 (2 % PP) ((PP - 1 % PP) / 2 / 2 + (PP - 1 % PP) / 2 / 2) = PP - 1 := by decide +kernel
theorem pw_dbl (x b E r : Nat) (hx : x = pwm b E) (h1 : E + E < 2 ^ 256) (h2 : Nm.pm PP 256 b (E + E) = r) : x * x % PP = r := by
 rw [hx, ← qaY, qcC _ _ h1, h2]
theorem rti_def : rti = pwm (2 % PP) ((PP - 1 % PP) / 2 / 2) := by delta rti; exact rfl
theorem rti_sq : rti * rti % PP = PP - 1 := pw_dbl rti (2 % PP) ((PP - 1 % PP) / 2 / 2) (PP - 1) rti_def rti_e rti_pm
theorem mul_four (x y m : Nat) : x * y % m * (x * y % m) % m = (x * x % m) * (y * y % m) % m := by
 rw [← Nat.mul_mod, ← Nat.mul_mod]; congr 1; ac_rfl
theorem neg_mul (a b : Nat) (hb : b < PP) : a * (PP - b) % PP = (PP - a * b % PP) % PP := by
 have h1 := Nat.div_add_mod (a * b) PP
 have h2 : a * b % PP < PP := Nat.mod_lt _ qG
 have e : a * (PP - b) + a * b = a * PP := by rw [← Nat.mul_add]; congr 1; omega
 generalize a * b % PP = m at *
 generalize a * b / PP = q at *
 have hle : q ≤ a := by
  by_cases hq : q ≤ a
  · exact hq
  · have h3 : PP * (a + 1) ≤ PP * q := Nat.mul_le_mul_left _ (by omega)
    have h4 : a * b ≤ a * PP := Nat.mul_le_mul_left _ (by omega)
    rw [Nat.mul_add, Nat.mul_comm PP a] at h3
    have := qG
    omega
 obtain ⟨d, rfl⟩ : ∃ d, a = q + d := ⟨a - q, by omega⟩
 have e2 : (q + d) * PP = PP * q + PP * d := by rw [Nat.mul_comm, Nat.mul_add]
 by_cases hm : m = 0
 · subst hm
   have : (q + d) * (PP - b) = PP * d := by omega
   rw [this, Nat.mul_mod_right, Nat.sub_zero, Nat.mod_self]
 · have hd : 0 < d := by
    rcases Nat.eq_zero_or_pos d with h0 | h0
    · subst h0
      have h5 : (q + 0) * b ≤ (q + 0) * PP := Nat.mul_le_mul_left _ (Nat.le_of_lt hb)
      rw [e2, Nat.mul_zero] at h5
      omega
    · exact h0
   obtain ⟨f, rfl⟩ : ∃ f, d = f + 1 := ⟨d - 1, by omega⟩
   have : (q + (f + 1)) * (PP - b) = PP - m + PP * f := by
    rw [Nat.mul_add PP f 1] at e2; omega
   rw [this, Nat.add_mul_mod_self_left]
theorem rt1_sq (a : Nat) : rt1 a * rt1 a % PP = a * pwm a ((PP - 1) / 4) % PP := by
 unfold rt1
 rw [← qaY, show (PP + 3) / 2 / 2 / 2 + (PP + 3) / 2 / 2 / 2 = (PP - 1) / 4 + 1 by decide +kernel, pwm_succ, Nat.mul_comm]
theorem rtok_of_chi (a : Nat) (ha : a < PP) (h : chi a = 1) : zd a = true := by
 have h4 : pwm a ((PP - 1) / 4) * pwm a ((PP - 1) / 4) % PP = 1 := by
  rw [← qaY, show (PP - 1) / 4 + (PP - 1) / 4 = (PP - 1) / 2 by decide +kernel]; exact h
 have hs := rt1_sq a
 unfold zd rt2
 rcases one_sq _ (pwm_lt _ _) h4 with h5 | h5
 · rw [h5, Nat.mul_one, Nat.mod_eq_of_lt ha] at hs
   rw [if_pos hs, hs]; exact decide_eq_true rfl
 · rw [h5] at hs
   by_cases hc : rt1 a * rt1 a % PP = a
   · rw [if_pos hc, hc]; exact decide_eq_true rfl
   · rw [if_neg hc]
     have e := mul_four (rt1 a) rti PP
     have h1 : (1 : Nat) < PP := by have := QF; omega
     have h6 : rt1 a * rt1 a % PP = (PP - a) % PP := by
      rw [hs, neg_mul a 1 h1, Nat.mul_one, Nat.mod_eq_of_lt ha]
     have h7 : (PP - a) % PP * (PP - 1) % PP = a := by
      rw [neg_mul _ 1 h1, Nat.mul_one, Nat.mod_mod]
      by_cases h0 : a = 0
      · subst h0; rw [Nat.sub_zero, Nat.mod_self, Nat.sub_zero, Nat.mod_self]
      · rw [Nat.mod_eq_of_lt (show PP - a < PP by omega), show PP - (PP - a) = a by omega, Nat.mod_eq_of_lt ha]
     rw [e, h6, rti_sq, h7]; exact decide_eq_true rfl
theorem rtok_zero (a : Nat) (ha : a = 0) : zd a = true := by
 have h : rt1 a * rt1 a % PP = a := by rw [rt1_sq, ha, Nat.zero_mul, Nat.zero_mod]
 unfold zd rt2
 rw [if_pos h]; exact decide_eq_true h
theorem rt1_lt (a : Nat) : rt1 a < PP := by unfold rt1; exact pwm_lt _ _
theorem rt2_lt (a : Nat) : rt2 a < PP := by
 unfold rt2
 by_cases h : rt1 a * rt1 a % PP = a
 · rw [if_pos h]; exact rt1_lt a
 · rw [if_neg h]; exact Nat.mod_lt _ qG
theorem neg_neg_mod (x : Nat) (h : x < PP) : (PP - (PP - x) % PP) % PP = x := by
 by_cases h0 : x = 0
 · rw [h0, Nat.sub_zero, Nat.mod_self, Nat.sub_zero, Nat.mod_self]
 · rw [Nat.mod_eq_of_lt (show PP - x < PP by omega), show PP - (PP - x) = x by omega, Nat.mod_eq_of_lt h]
theorem neg_sq (r : Nat) (h : r < PP) : (PP - r) * (PP - r) % PP = r * r % PP := by
 rw [neg_mul _ r h, Nat.mul_comm, neg_mul _ r h]
 exact neg_neg_mod _ (Nat.mod_lt _ qG)
theorem rt3_sq (a : Nat) (h : zd a = true) : rt3 a * rt3 a % PP = a := by
 have h2 : rt2 a * rt2 a % PP = a := of_decide_eq_true (show decide (rt2 a * rt2 a % PP = a) = true from h)
 unfold rt3
 rw [if_pos h]
 by_cases ho : rt2 a % 2 = 1
 · rw [if_pos ho, neg_sq _ (rt2_lt a), h2]
 · rw [if_neg ho, h2]
theorem PP_odd : PP % 2 = 1 := by decide +kernel
theorem rt3_even (a : Nat) : rt3 a % 2 = 0 := by
 unfold rt3
 have h1 := rt2_lt a
 have h2 := PP_odd
 by_cases h : zd a = true
 · rw [if_pos h]
   by_cases ho : rt2 a % 2 = 1
   · rw [if_pos ho]; omega
   · rw [if_neg ho]; omega
 · rw [if_neg h]
theorem rt3_lt (a : Nat) : rt3 a < PP := by
 unfold rt3
 have h1 := rt2_lt a
 have h2 := qG
 by_cases h : zd a = true
 · rw [if_pos h]
   by_cases ho : rt2 a % 2 = 1
   · rw [if_pos ho]; omega
   · rw [if_neg ho]; exact h1
 · rw [if_neg h]; exact h2
theorem chi_mod (a : Nat) : chi (a % PP) = chi a := by unfold chi; exact ZE _ _
theorem chi_mul (a b : Nat) : chi (a * b) = chi a * chi b % PP := by unfold chi; exact pwm_mulbase _ _ _
theorem rtok_sq (u : Nat) : zd (u * u % PP) = true := by
 by_cases h0 : u % PP = 0
 · exact rtok_zero _ (by rw [Nat.mul_mod, h0, Nat.zero_mul, Nat.zero_mod])
 · exact rtok_of_chi _ (Nat.mod_lt _ qG) (by rw [chi_mod, chi_mul]; exact chi_sq u h0)
theorem rt3_root (u : Nat) : rt3 (u * u % PP) = u % PP ∨ (rt3 (u * u % PP) + u) % PP = 0 := by
 have h := rt3_sq _ (rtok_sq u)
 rcases sq_eq (rt3 (u * u % PP)) (u % PP) (rt3_lt _) (Nat.mod_lt _ qG) (h.trans (Nat.mul_mod u u PP)) with h1 | h1
 · exact .inl h1
 · right; rw [Nat.add_mod_mod] at h1; exact h1
end
section
open Go.RowKit Go.Sx
theorem even_yes (a : Nat) (ha : a < 115792089237316195423570985008687907853269984665640564039457584007913129639936) (h : a % PP % 2 = 0) (w : World) :
 Calls Tryz.prog 175 #[.agg (e4 a)] w fun e w' => e = .returned (.bool true) ∧ Below w.heap.size w w' := by
 have := qbj a ha w
 rwa [show (a % PP % 2 == 0) = true by rw [h]; rfl] at this
theorem even_no (a : Nat) (ha : a < 115792089237316195423570985008687907853269984665640564039457584007913129639936) (h : a % PP % 2 = 1) (w : World) :
 Calls Tryz.prog 175 #[.agg (e4 a)] w fun e w' => e = .returned (.bool false) ∧ Below w.heap.size w w' := by
 have := qbj a ha w
 rwa [show (a % PP % 2 == 0) = false by rw [h]; rfl] at this
def RtP (A : Nat) (w : World) (e : Ending) (w' : World) : Prop := ∃ m : Nat, m < 115792089237316195423570985008687907853269984665640564039457584007913129639936 ∧ m % PP = rt3 A ∧ e = .returned (.tuple #[.agg (e4 m), .bool (zd A)]) ∧ Below w.heap.size w w'
theorem rt1_exp : (PP + 3) / 2 / 2 / 2 = 7237005577332262213973186563042994240829374041602535252466099000494570602494 := by decide +kernel
theorem rti_exp : (PP - 1 % PP) / 2 / 2 = 14474011154664524427946373126085988481658748083205070504932198000989141204987 := by decide +kernel
theorem rt1_def (a : Nat) : rt1 a = pwm a ((PP + 3) / 2 / 2 / 2) := by delta rt1; exact rfl
theorem qcI (a n1 n2 n3 n4 : Nat) (h1 : n1 % PP = pwm a 1809251394333065553493296640760748560207343510400633813116524750123642650623) (h2 : n2 % PP = pwm n1 4) (h3 : n3 % PP = n2 * a % PP) (h4 : n4 % PP = n3 * a % PP) : n4 % PP = rt1 (a % PP) := by
 have k2 := Zo a n1 1809251394333065553493296640760748560207343510400633813116524750123642650623 4 n2 7237005577332262213973186563042994240829374041602535252466099000494570602492 h1 h2 (by decide +kernel)
 have k3 := qaA a n2 a 7237005577332262213973186563042994240829374041602535252466099000494570602492 1 n3 7237005577332262213973186563042994240829374041602535252466099000494570602493 k2 (qaZ a) h3 (by decide +kernel)
 have k4 := qaA a n3 a 7237005577332262213973186563042994240829374041602535252466099000494570602493 1 n4 7237005577332262213973186563042994240829374041602535252466099000494570602494 k3 (qaZ a) h4 (by decide +kernel)
 rw [rt1_def, ZE, rt1_exp, k4]
theorem p_two (r n4 n5 n6 n7 n8 n9 n10 : Nat) (hr : n4 % PP = r) (h5 : n5 % PP = pwm 2 1809251394333065553493296640760748560207343510400633813116524750123642650623) (h6 : n6 % PP = pwm n5 8) (h7 : n7 % PP = pwm 2 2) (h8 : n8 % PP = n6 * n7 % PP) (h9 : n9 % PP = n8 * 2 % PP) (h10 : n10 % PP = n4 * n9 % PP) : n10 % PP = r * rti % PP := by
 have k6 := Zo 2 n5 1809251394333065553493296640760748560207343510400633813116524750123642650623 8 n6 14474011154664524427946373126085988481658748083205070504932198000989141204984 h5 h6 (by decide +kernel)
 have k8 := qaA 2 n6 n7 14474011154664524427946373126085988481658748083205070504932198000989141204984 2 n8 14474011154664524427946373126085988481658748083205070504932198000989141204986 k6 h7 h8 (by decide +kernel)
 have k9 := qaA 2 n8 2 14474011154664524427946373126085988481658748083205070504932198000989141204986 1 n9 14474011154664524427946373126085988481658748083205070504932198000989141204987 k8 (qaZ 2) h9 (by decide +kernel)
 rw [rti_def, ZE, rti_exp, h10, Nat.mul_mod, hr, k9]
theorem rt2_yes (a : Nat) (h : rt1 a * rt1 a % PP = a) : rt2 a = rt1 a := by unfold rt2; rw [if_pos h]
theorem rt2_no (a : Nat) (h : ¬ rt1 a * rt1 a % PP = a) : rt2 a = rt1 a * rti % PP := by unfold rt2; rw [if_neg h]
theorem rt3_odd (a : Nat) (h : rt2 a * rt2 a % PP = a) (ho : rt2 a % 2 = 1) : rt3 a = (0 % PP + (PP - rt2 a)) % PP ∧ zd a = true := by
 have h1 : zd a = true := by unfold zd; exact decide_eq_true h
 refine ⟨?_, h1⟩
 unfold rt3
 have := rt2_lt a
 rw [h1, if_pos rfl, if_pos ho, Nat.zero_mod, Nat.zero_add, Nat.mod_eq_of_lt (by omega)]
theorem rt3_evn (a : Nat) (h : rt2 a * rt2 a % PP = a) (ho : ¬ rt2 a % 2 = 1) : rt3 a = rt2 a ∧ zd a = true := by
 have h1 : zd a = true := by unfold zd; exact decide_eq_true h
 refine ⟨?_, h1⟩
 unfold rt3
 rw [h1, if_pos rfl, if_neg ho]
theorem rt3_non (a : Nat) (h : ¬ rt2 a * rt2 a % PP = a) : 0 % PP = rt3 a ∧ zd a = false := by
 have h1 : zd a = false := by unfold zd; exact decide_eq_false h
 refine ⟨?_, h1⟩
 unfold rt3
 rw [h1, if_neg (by decide), Nat.zero_mod]
theorem two_256 : 2 < 115792089237316195423570985008687907853269984665640564039457584007913129639936 := by decide
theorem froot_any (a : Nat) (ha : a < 115792089237316195423570985008687907853269984665640564039457584007913129639936) (w : World) :
 Calls Tryz.prog 212 #[.agg (e4 a)] w (RtP (a % PP) w) := by
 refine (enter (R := fun v w' => ∃ m : Nat, m < 115792089237316195423570985008687907853269984665640564039457584007913129639936 ∧ m % PP = rt3 (a % PP) ∧ v = .tuple #[.agg (e4 m), .bool (zd (a % PP))] ∧ Below w.heap.size w w') qe Tryz.func212 rfl Tryz.ntmps212 rfl (St.start w) (vs := [.agg (e4 a)]) ?_).mono (fun e w' ⟨v, he, m, h1, h2, h3, h4⟩ => ⟨m, h1, h2, by rw [he, h3], h4⟩)
 intro b1 b2
 refine cut (α := Nat × Nat) (fun x => x.2 < 115792089237316195423570985008687907853269984665640564039457584007913129639936 ∧ x.2 % PP = rt1 (a % PP)) (fun x => ⟨[(1, pv b1), (2, pv b2), (4, pv x.1)], [cl b1 (e4 a) 180, cl b2 #[.int .u64 0, .int .u64 0, .int .u64 0, .int .u64 0] 180, cl x.1 (e4 x.2) 180], []⟩) ?_ ?_
 · refine drs [cl b1 (e4 a) 180] [] (.t 0 (.t 3 (.t 5 (.b 1 7 (.b 2 7 (.b 4 7 (.b 6 7 (.n 7 (.n 8 .nil)) (.n 6 (.n 8 .nil))) (.n 4 (.n 6 (.n 8 .nil)))) (.n 2 (.n 4 (.n 6 (.n 8 .nil))))) (.n 1 (.n 2 (.n 4 (.n 6 (.n 8 .nil))))))))) qe qk (by kernel_rfl) (.cons .nil) ?_
   refine ldN 0 rfl (qd _) ?_
   refine ldN 0 rfl (qd _) ?_
   refine ldN 0 rfl (qd _) ?_
   refine ⟨?_, ?_⟩
   · refine ce (fun w _ => ep (qam a ha w)) (fun n1 hn1 => ?_)
     refine ⟨.cons .nil, ?_⟩
     refine ⟨?_, ?_⟩
     · refine ce (fun w _ => ep (qaj n1 hn1.1 w)) (fun n2 hn2 => ?_)
       refine ⟨.cons .nil, ?_⟩
       refine ⟨?_, ?_⟩
       · refine ce (fun w _ => ep (qB n2 a hn2.1 ha w)) (fun n3 hn3 => ?_)
         refine ⟨.cons .nil, ?_⟩
         refine ⟨?_, ?_⟩
         · refine ce (fun w _ => ep (qB n3 a hn3.1 ha w)) (fun n4 hn4 => ?_)
           refine ⟨.cons .nil, ?_⟩
           intro b4
           refine ⟨.cons .nil, ?_⟩
           refine sN 2 rfl (by rw [qd]; rfl) (Qo _) ?_ (by kernel_rfl)
           refine ⟨.cons .nil, ?_⟩
           exact ⟨(b4, n4), ⟨hn4.1, qcI a n1 n2 n3 n4 hn1.2 hn2.2 hn3.2 hn4.2⟩, ⟨rfl, rfl, rfl, trivial⟩, .refl _, rfl⟩
         · intro b4
           refine ⟨.cons .nil, ?_⟩
           refine ce (fun w _ => ep (qB n3 a hn3.1 ha w)) (fun n4 hn4 => ?_)
           refine ⟨.cons .nil, ?_⟩
           refine sN 2 rfl (by rw [qd]; rfl) (Qo _) ?_ (by kernel_rfl)
           refine ⟨.cons .nil, ?_⟩
           exact ⟨(b4, n4), ⟨hn4.1, qcI a n1 n2 n3 n4 hn1.2 hn2.2 hn3.2 hn4.2⟩, ⟨rfl, rfl, rfl, trivial⟩, .refl _, rfl⟩
       · intro b4
         refine ⟨.cons .nil, ?_⟩
         refine ce (fun w _ => ep (qB n2 a hn2.1 ha w)) (fun n3 hn3 => ?_)
         refine ⟨.cons .nil, ?_⟩
         refine ce (fun w _ => ep (qB n3 a hn3.1 ha w)) (fun n4 hn4 => ?_)
         refine ⟨.cons .nil, ?_⟩
         refine sN 2 rfl (by rw [qd]; rfl) (Qo _) ?_ (by kernel_rfl)
         refine ⟨.cons .nil, ?_⟩
         exact ⟨(b4, n4), ⟨hn4.1, qcI a n1 n2 n3 n4 hn1.2 hn2.2 hn3.2 hn4.2⟩, ⟨rfl, rfl, rfl, trivial⟩, .refl _, rfl⟩
     · intro b4
       refine ⟨.cons .nil, ?_⟩
       refine ce (fun w _ => ep (qaj n1 hn1.1 w)) (fun n2 hn2 => ?_)
       refine ⟨.cons .nil, ?_⟩
       refine ce (fun w _ => ep (qB n2 a hn2.1 ha w)) (fun n3 hn3 => ?_)
       refine ⟨.cons .nil, ?_⟩
       refine ce (fun w _ => ep (qB n3 a hn3.1 ha w)) (fun n4 hn4 => ?_)
       refine ⟨.cons .nil, ?_⟩
       refine sN 2 rfl (by rw [qd]; rfl) (Qo _) ?_ (by kernel_rfl)
       refine ⟨.cons .nil, ?_⟩
       exact ⟨(b4, n4), ⟨hn4.1, qcI a n1 n2 n3 n4 hn1.2 hn2.2 hn3.2 hn4.2⟩, ⟨rfl, rfl, rfl, trivial⟩, .refl _, rfl⟩
   · intro b4
     refine ⟨.cons .nil, ?_⟩
     refine ce (fun w _ => ep (qam a ha w)) (fun n1 hn1 => ?_)
     refine ⟨.cons .nil, ?_⟩
     refine ce (fun w _ => ep (qaj n1 hn1.1 w)) (fun n2 hn2 => ?_)
     refine ⟨.cons .nil, ?_⟩
     refine ce (fun w _ => ep (qB n2 a hn2.1 ha w)) (fun n3 hn3 => ?_)
     refine ⟨.cons .nil, ?_⟩
     refine ce (fun w _ => ep (qB n3 a hn3.1 ha w)) (fun n4 hn4 => ?_)
     refine ⟨.cons .nil, ?_⟩
     refine sN 2 rfl (by rw [qd]; rfl) (Qo _) ?_ (by kernel_rfl)
     refine ⟨.cons .nil, ?_⟩
     exact ⟨(b4, n4), ⟨hn4.1, qcI a n1 n2 n3 n4 hn1.2 hn2.2 hn3.2 hn4.2⟩, ⟨rfl, rfl, rfl, trivial⟩, .refl _, rfl⟩
 · rintro ⟨b4, n4⟩ ⟨hn4, hr1⟩
   dsimp only at hn4 hr1 ⊢
   refine drs [cl b1 (e4 a) 180, dead, cl b4 (e4 n4) 180] [] (.t 0 (.t 1 (.t 3 (.n 2 (.n 4 (.t 5 .nil)))))) qe qk (by kernel_rfl) (.cons (.dead (.cons .nil))) ?_
   refine ldN 2 rfl (qd _) ?_
   refine ldN 2 rfl (qd _) ?_
   refine ldN 0 rfl (qd _) ?_
   refine ce (fun w _ => ep (qB n4 n4 hn4 hn4 w)) (fun q1 hq1 => ?_)
   refine ⟨.cons (.dead (.cons .nil)), ?_⟩
   refine cv (fun w => is_any q1 a hq1.1 ha w) ?_
   refine ⟨.cons (.dead (.cons .nil)), ?_⟩
   have e1 : (q1 % PP = a % PP) = (rt1 (a % PP) * rt1 (a % PP) % PP = a % PP) := by rw [hq1.2, Nat.mul_mod, hr1]
   by_cases c1 : rt1 (a % PP) * rt1 (a % PP) % PP = a % PP
   · have hr2 : n4 % PP = rt2 (a % PP) := hr1.trans (rt2_yes _ c1).symm
     refine cf (by simp [e1, c1]) ?_
     refine drs [cl b1 (e4 a) 180, dead, cl b4 (e4 n4) 180] [] (.t 0 (.t 1 (.t 3 (.n 2 (.n 4 (.t 5 .nil)))))) qe qk (by kernel_rfl) (.cons (.dead (.cons .nil))) ?_
     refine ldN 2 rfl (qd _) ?_
     refine ldN 2 rfl (qd _) ?_
     refine ldN 0 rfl (qd _) ?_
     refine ce (fun w _ => ep (qB n4 n4 hn4 hn4 w)) (fun q2 hq2 => ?_)
     refine ⟨.cons (.dead (.cons .nil)), ?_⟩
     refine cv (fun w => is_any q2 a hq2.1 ha w) ?_
     refine ⟨.cons (.dead (.cons .nil)), ?_⟩
     have e2 : (q2 % PP = a % PP) = (rt2 (a % PP) * rt2 (a % PP) % PP = a % PP) := by rw [hq2.2, Nat.mul_mod, hr2]
     by_cases c2 : rt2 (a % PP) * rt2 (a % PP) % PP = a % PP
     · refine cf (by simp [e2, c2]) ?_
       refine ldN 2 rfl (qd _) ?_
       refine cv (fun w => qbj n4 hn4 w) ?_
       by_cases c3 : rt2 (a % PP) % 2 = 1
       · obtain ⟨f1, f2⟩ := rt3_odd _ c2 c3
         refine ct (by rw [hr2, c3]; rfl) ?_
         refine bu (c := e4 0) (by kernel_rfl) ?_
         refine ldN 2 rfl (qd _) ?_
         refine ce (fun w _ => ep (zq 0 n4 (by decide) hn4 w)) (fun m hm => ?_)
         refine sN 2 rfl (by rw [qd, qd]) (Qo _) ?_ (by kernel_rfl)
         refine ldN 2 rfl (qd _) ?_
         refine sN 1 rfl (by rw [qd]; rfl) (Qo _) ?_ (by kernel_rfl)
         refine ldN 1 rfl (qd _) ?_
         exact ⟨fun w1 hs => ⟨m, hm.1, by rw [hm.2, f1, hr2], by rw [f2]; rfl, hs.below⟩⟩
       · obtain ⟨f1, f2⟩ := rt3_evn _ c2 c3
         refine cf (by rw [hr2, show rt2 (a % PP) % 2 = 0 by omega]; rfl) ?_
         refine ldN 2 rfl (qd _) ?_
         refine sN 1 rfl (by rw [qd]; rfl) (Qo _) ?_ (by kernel_rfl)
         refine ldN 1 rfl (qd _) ?_
         exact ⟨fun w1 hs => ⟨n4, hn4, by rw [f1, hr2], by rw [f2]; rfl, hs.below⟩⟩
     · obtain ⟨f1, f2⟩ := rt3_non _ c2
       refine ct (by simp [e2, c2]) ?_
       refine bu (c := e4 0) (by kernel_rfl) ?_
       refine sN 1 rfl (by rw [qd]; rfl) (Qo _) ?_ (by kernel_rfl)
       refine ldN 1 rfl (qd _) ?_
       exact ⟨fun w1 hs => ⟨0, by decide, f1, by rw [f2]; rfl, hs.below⟩⟩
   · refine ct (by simp [e1, c1]) ?_
     refine cv (fun w => ZL 2 (by decide) w) ?_
     intro b5
     refine sN 3 rfl (by rw [qd]; rfl) (Qo _) ?_ (by kernel_rfl)
     refine drs [dead, dead, cl b4 (e4 n4) 180, cl b5 (e4 2) 180] [10] (.t 0 (.t 1 (.t 4 (.t 7 (.n 2 (.n 3 (.n 5 (.n 6 (.n 8 (.n 9 (.n 10 .nil))))))))))) qe qk (by kernel_rfl) (.dead (.dead (.cons (.cons .nil)))) ?_
     refine ldN 2 rfl (qd _) ?_
     refine ldN 3 rfl (qd _) ?_
     refine ldN 3 rfl (qd _) ?_
     refine ldN 3 rfl (qd _) ?_
     refine ce (fun w _ => ep (qam 2 two_256 w)) (fun n5 hn5 => ?_)
     refine ⟨.dead (.dead (.cons (.cons .nil))), ?_⟩
     refine ce (fun w _ => ep (squares_3 n5 hn5.1 w)) (fun n6 hn6 => ?_)
     refine ⟨.dead (.dead (.cons (.cons .nil))), ?_⟩
     refine ce (fun w _ => ep (zN 2 two_256 w)) (fun n7 hn7 => ?_)
     refine ⟨.dead (.dead (.cons (.cons .nil))), ?_⟩
     refine ce (fun w _ => ep (qB n6 n7 hn6.1 hn7.1 w)) (fun n8 hn8 => ?_)
     refine ⟨.dead (.dead (.cons (.cons .nil))), ?_⟩
     refine ce (fun w _ => ep (qB n8 2 hn8.1 two_256 w)) (fun n9 hn9 => ?_)
     refine ⟨.dead (.dead (.cons (.cons .nil))), ?_⟩
     refine ce (fun w _ => ep (qB n4 n9 hn4 hn9.1 w)) (fun n10 hn10 => ?_)
     refine ⟨.dead (.dead (.cons (.cons .nil))), ?_⟩
     have hr2 : n10 % PP = rt2 (a % PP) := (p_two (rt1 (a % PP)) n4 n5 n6 n7 n8 n9 n10 hr1 hn5.2 hn6.2 hn7.2 hn8.2 hn9.2 hn10.2).trans (rt2_no _ c1).symm
     have hn10 := hn10.1
     refine sN 2 rfl (by rw [qd, qd]) (Qo _) ?_ (by kernel_rfl)
     refine drs [cl b1 (e4 a) 180, dead, cl b4 (e4 n10) 180] [] (.t 0 (.t 1 (.t 3 (.n 2 (.n 4 (.t 5 .nil)))))) qe qk (by kernel_rfl) (.cons (.dead (.cons .nil))) ?_
     refine ldN 2 rfl (qd _) ?_
     refine ldN 2 rfl (qd _) ?_
     refine ldN 0 rfl (qd _) ?_
     refine ce (fun w _ => ep (qB n10 n10 hn10 hn10 w)) (fun q2 hq2 => ?_)
     refine ⟨.cons (.dead (.cons .nil)), ?_⟩
     refine cv (fun w => is_any q2 a hq2.1 ha w) ?_
     refine ⟨.cons (.dead (.cons .nil)), ?_⟩
     have e2 : (q2 % PP = a % PP) = (rt2 (a % PP) * rt2 (a % PP) % PP = a % PP) := by rw [hq2.2, Nat.mul_mod, hr2]
     by_cases c2 : rt2 (a % PP) * rt2 (a % PP) % PP = a % PP
     · refine cf (by simp [e2, c2]) ?_
       refine ldN 2 rfl (qd _) ?_
       refine cv (fun w => qbj n10 hn10 w) ?_
       by_cases c3 : rt2 (a % PP) % 2 = 1
       · obtain ⟨f1, f2⟩ := rt3_odd _ c2 c3
         refine ct (by rw [hr2, c3]; rfl) ?_
         refine bu (c := e4 0) (by kernel_rfl) ?_
         refine ldN 2 rfl (qd _) ?_
         refine ce (fun w _ => ep (zq 0 n10 (by decide) hn10 w)) (fun m hm => ?_)
         refine sN 2 rfl (by rw [qd, qd]) (Qo _) ?_ (by kernel_rfl)
         refine ldN 2 rfl (qd _) ?_
         refine sN 1 rfl (by rw [qd]; rfl) (Qo _) ?_ (by kernel_rfl)
         refine ldN 1 rfl (qd _) ?_
         exact ⟨fun w1 hs => ⟨m, hm.1, by rw [hm.2, f1, hr2], by rw [f2]; rfl, hs.below⟩⟩
       · obtain ⟨f1, f2⟩ := rt3_evn _ c2 c3
         refine cf (by rw [hr2, show rt2 (a % PP) % 2 = 0 by omega]; rfl) ?_
         refine ldN 2 rfl (qd _) ?_
         refine sN 1 rfl (by rw [qd]; rfl) (Qo _) ?_ (by kernel_rfl)
         refine ldN 1 rfl (qd _) ?_
         exact ⟨fun w1 hs => ⟨n10, hn10, by rw [f1, hr2], by rw [f2]; rfl, hs.below⟩⟩
     · obtain ⟨f1, f2⟩ := rt3_non _ c2
       refine ct (by simp [e2, c2]) ?_
       refine bu (c := e4 0) (by kernel_rfl) ?_
       refine sN 1 rfl (by rw [qd]; rfl) (Qo _) ?_ (by kernel_rfl)
       refine ldN 1 rfl (qd _) ?_
       exact ⟨fun w1 hs => ⟨0, by decide, f1, by rw [f2]; rfl, hs.below⟩⟩
end
section
open Go.RowKit Go.Lib
theorem n256_32 : 256 ^ 32 = 115792089237316195423570985008687907853269984665640564039457584007913129639936 := by decide +kernel
theorem k32_eq (x y : Nat) (hx : x < 115792089237316195423570985008687907853269984665640564039457584007913129639936) (hy : y < 115792089237316195423570985008687907853269984665640564039457584007913129639936) (w : World) : (Op.equalIn 10000 36 (.agg (k32 x)) (.agg (k32 y))).run Tryz.prog w = .ok (decide (x = y)) w := by
 rw [← eqr_dg 256 32 x y (by rw [n256_32]; exact hx) (by rw [n256_32]; exact hy)]
 exact ZT w 9998 36 5 32 .u8 Tryz.underlying36 Tryz.underlying5 sz_u8 _ _
theorem k32_same (x : Nat) (hx : x < 115792089237316195423570985008687907853269984665640564039457584007913129639936) (w : World) : (Op.equalIn 10000 36 (.agg (k32 x)) (.agg (k32 x))).run Tryz.prog w = .ok true w := by
 rw [k32_eq x x hx hx w, decide_eq_true rfl]
theorem PP_256 (b : Nat) (h : b < PP) : b < 115792089237316195423570985008687907853269984665640564039457584007913129639936 := by
 have : PP < 115792089237316195423570985008687907853269984665640564039457584007913129639936 := by decide +kernel
 omega
theorem fof_a (n a : Nat) (hn : n < 115792089237316195423570985008687907853269984665640564039457584007913129639936) (ha : a = n % 57896044618658097711785492504343953926634992332820282019728792003956564819968) (w : World) : Calls Tryz.prog 159 #[.agg (k32 n)] w fun e w' => e = .returned (.agg (e4 a)) ∧ Below w.heap.size w w' := by
 rw [ha]; exact of_any n hn w
end
section
open Go.RowKit Go.Lib
theorem ent172 : _root_.Go.Enters Tryz.prog 172 := ⟨_, Tryz.func172, by kernel_rfl, by kernel_rfl⟩
theorem ent79 : _root_.Go.Enters Tryz.prog 79 := ⟨_, Tryz.func79, by kernel_rfl, by kernel_rfl⟩
theorem ent161 : _root_.Go.Enters Tryz.prog 161 := ⟨_, Tryz.func161, by kernel_rfl, by kernel_rfl⟩
theorem ent78 : _root_.Go.Enters Tryz.prog 78 := ⟨_, Tryz.func78, by kernel_rfl, by kernel_rfl⟩
theorem ent171 : _root_.Go.Enters Tryz.prog 171 := ⟨_, Tryz.func171, by kernel_rfl, by kernel_rfl⟩
theorem ent168 : _root_.Go.Enters Tryz.prog 168 := ⟨_, Tryz.func168, by kernel_rfl, by kernel_rfl⟩
theorem qbI : _root_.Go.Enters Tryz.prog 169 := ⟨_, Tryz.func169, by kernel_rfl, by kernel_rfl⟩
theorem ent173 : _root_.Go.Enters Tryz.prog 173 := ⟨_, Tryz.func173, by kernel_rfl, by kernel_rfl⟩
def ZS (x y z1 : Nat) (b : Bool) (X Y Z : Nat) : Prop :=
 (x < 115792089237316195423570985008687907853269984665640564039457584007913129639936 ∧ y < 115792089237316195423570985008687907853269984665640564039457584007913129639936 ∧ z1 < 115792089237316195423570985008687907853269984665640564039457584007913129639936) ∧ (b = true ∧ x % PP = X ∧ y % PP = Y ∧ (z1 + 1) % PP = Z ∨ b = false ∧ 0 % PP = X ∧ 1 % PP = Y ∧ 1 % PP = Z)
def PlP (X Y Z : Nat) (w : World) (e : Ending) (w' : World) : Prop :=
 ∃ x y z : Nat, (x < 115792089237316195423570985008687907853269984665640564039457584007913129639936 ∧ y < 115792089237316195423570985008687907853269984665640564039457584007913129639936 ∧ z < 115792089237316195423570985008687907853269984665640564039457584007913129639936) ∧ (x % PP = X ∧ y % PP = Y ∧ z % PP = Z) ∧ e = .returned (.tuple #[.agg (e4 x), .agg (e4 y), .agg (e4 z)]) ∧ Below w.heap.size w w'
def PtP (X Y Z : Nat) (w : World) (e : Ending) (w' : World) : Prop :=
 ∃ (x y z1 : Nat) (b : Bool), ZS x y z1 b X Y Z ∧ e = .returned (.agg (pt x y z1 b)) ∧ Below w.heap.size w w'
theorem qby (x y z1 : Nat) (b : Bool) (X Y Z : Nat) (h : ZS x y z1 b X Y Z) (w : World) :
 Calls Tryz.prog 171 #[.agg (pt x y z1 b)] w (PlP X Y Z w) := by
 obtain ⟨⟨hx, hy, hz⟩, hc⟩ := h
 have hint := fun w => ZL 1 (by decide) w
 have hpl := fun w => plus_any z1 1 hz (by decide) w
 have Hint := Lib.hid hint; clear hint
 have Hpl := Lib.hid hpl; clear hpl
 have Hx := Lib.hid hx; clear hx
 have Hy := Lib.hid hy; clear hy
 have Hz := Lib.hid hz; clear hz
 have Hc := Lib.hid hc; clear hc
 go_enter Tryz.func171, Tryz.ntmps171
 repeat ((fail_if_success (with_reducible (show wpList _ _ _ _ _ _))); go_step)
 iterate 4 (refine wpList_step (fun K hK => ?_); go_simp; (try go_bits); refine hK _ _ ?_; clear hK K)
 refine wpList_nil ?_
 have M1 := Lib.hid ((((Has.new w  (pt x y z1 b) 182).alloc (.cells (#[.int .u64 0, .int .u64 0, .int .u64 0, .int .u64 0] : Array Value) 180)).alloc (.cells (#[.int .u64 0, .int .u64 0, .int .u64 0, .int .u64 0] : Array Value) 180)).alloc (.cells (#[.int .u64 0, .int .u64 0, .int .u64 0, .int .u64 0] : Array Value) 180))
 have M2 := Lib.hid (((HasN.new1 w (.cells (pt x y z1 b) 182) (#[.int .u64 0, .int .u64 0, .int .u64 0, .int .u64 0] : Array Value) 180 4 (by kernel_rfl)).alloc (.cells (#[.int .u64 0, .int .u64 0, .int .u64 0, .int .u64 0] : Array Value) 180)).alloc (.cells (#[.int .u64 0, .int .u64 0, .int .u64 0, .int .u64 0] : Array Value) 180))
 have M3 := Lib.hid ((HasN.new2 w (.cells (pt x y z1 b) 182) (.cells (#[.int .u64 0, .int .u64 0, .int .u64 0, .int .u64 0] : Array Value) 180) (#[.int .u64 0, .int .u64 0, .int .u64 0, .int .u64 0] : Array Value) 180 4 (by kernel_rfl)).alloc (.cells (#[.int .u64 0, .int .u64 0, .int .u64 0, .int .u64 0] : Array Value) 180))
 have M4 := Lib.hid (HasN.new3 w (.cells (pt x y z1 b) 182) (.cells (#[.int .u64 0, .int .u64 0, .int .u64 0, .int .u64 0] : Array Value) 180) (.cells (#[.int .u64 0, .int .u64 0, .int .u64 0, .int .u64 0] : Array Value) 180) (#[.int .u64 0, .int .u64 0, .int .u64 0, .int .u64 0] : Array Value) 180 4 (by kernel_rfl))
 have HB := Lib.hid (qbn w (.cells (pt x y z1 b) 182) (.cells (#[.int .u64 0, .int .u64 0, .int .u64 0, .int .u64 0] : Array Value) 180) (.cells (#[.int .u64 0, .int .u64 0, .int .u64 0, .int .u64 0] : Array Value) 180) (.cells (#[.int .u64 0, .int .u64 0, .int .u64 0, .int .u64 0] : Array Value) 180))
 obtain ⟨yw1, hwyw1⟩ : ∃ ww, ww = ((((w.alloc (.cells (pt x y z1 b) 182)).alloc (.cells (#[.int .u64 0, .int .u64 0, .int .u64 0, .int .u64 0] : Array Value) 180)).alloc (.cells (#[.int .u64 0, .int .u64 0, .int .u64 0, .int .u64 0] : Array Value) 180)).alloc (.cells (#[.int .u64 0, .int .u64 0, .int .u64 0, .int .u64 0] : Array Value) 180)) := ⟨_, rfl⟩
 rw [← hwyw1] at M1 M2 M3 M4 HB ⊢
 clear hwyw1
 repeat ((fail_if_success (with_reducible (show wpList _ _ _ _ _ _))); go_step)
 refine qm (by rfl) rfl rfl (by rfl) qbJ (by rfl) (Hint.out _) 6 rfl ?_
 rintro e uw1 ⟨rfl, hb⟩
 replace M1 := Lib.hid (M1.out.call hb)
 replace M2 := Lib.hid (M2.out.call hb)
 replace M3 := Lib.hid (M3.out.call hb)
 replace M4 := Lib.hid (M4.out.call hb)
 replace HB := Lib.hid (qf HB.out hb)
 refine ⟨_, rfl, ?_⟩
 clear hb
 (try simp only [Act.put, sI, sS, sZ])
 refine qE (by rfl) 180 rfl _ qb5 5 rfl ?_
 intro yw2 hw2
 have hlt3 := M1.out.lt
 have hlt4 := M2.out.lt
 have hlt5 := M3.out.lt
 have hlt6 := M4.out.lt
 have hsz := HB.out.size
 replace M1 := Lib.hid (M1.out.alloc (.cells z36 180))
 replace M2 := Lib.hid (M2.out.alloc (.cells z36 180))
 replace M3 := Lib.hid (M3.out.alloc (.cells z36 180))
 replace M4 := Lib.hid (M4.out.alloc (.cells z36 180))
 have M5 := Lib.hid (HasN.new uw1 z36 180 4 (by kernel_rfl))
 replace HB := Lib.hid (HB.out.alloc hsz (.cells z36 180))
 rw [← hw2] at M1 M2 M3 M4 M5 HB; clear hw2
 (try simp only [Act.put, sI, sS, sZ])
 first | (obtain ⟨Zq, hZ, mZ⟩ := M5.out) | (obtain ⟨Zq, hZ, mZ⟩ := M5.out.toN (qd ..))
 refine ql (by rfl) 180 _ _ rfl rfl (uw1.heap.size) (e4 1) rfl rfl 180 Zq mZ (by rw [qd]; kernel_rfl) (hZ.trans (qd ..).symm) (qo _ _ _) ?_
 intro yw7 hw2
 replace M1 := Lib.hid (M1.out.setRow_other (uw1.heap.size) (e4 1) (by omega))
 replace M2 := Lib.hid (M2.out.setRow_other (uw1.heap.size) (e4 1) (by omega))
 replace M3 := Lib.hid (M3.out.setRow_other (uw1.heap.size) (e4 1) (by omega))
 replace M4 := Lib.hid (M4.out.setRow_other (uw1.heap.size) (e4 1) (by omega))
 replace M5 := Lib.hid (mZ.setRow (e4 1))
 replace HB := Lib.hid (below_setRow HB.out (uw1.heap.size) (e4 1) (by omega))
 rw [← hw2] at M1 M2 M3 M4 M5 HB; clear mZ hZ hw2
 refine wpList_nil ?_
 repeat ((fail_if_success (with_reducible (show wpList _ _ _ _ _ _))); go_step)
 have hcw := pt_w M1.out
 iterate 3 (refine wpList_step (fun K hK => ?_); go_simp; (try go_bits); refine hK _ _ ?_; clear hK K)
 refine wpList_nil ?_
 clear hcw
 cases b
 · repeat ((fail_if_success (with_reducible (show wpList _ _ _ _ _ _))); go_step)
   refine wp_region_noPanic ?_
   refine Qn (fun w' => Has w' (uw1.heap.size) (e4 1) 180) 99 6 #[ff,ff,ff,ff,ff,ff] (by kernel_rfl) rfl rfl ?_
   replace M1 := Lib.hid (M1.out.drew)
   replace M2 := Lib.hid (M2.out.drew)
   replace M3 := Lib.hid (M3.out.drew)
   replace M4 := Lib.hid (M4.out.drew)
   replace M5 := Lib.hid (M5.out.drew)
   replace HB := Lib.hid (qT HB.out 1)
   obtain ⟨yw8, hwyw8⟩ : ∃ ww, ww = yw7.drew := ⟨_, rfl⟩
   rw [← hwyw8] at M1 M2 M3 M4 M5 ⊢
   have kq : Below w.heap.size w yw8 := by rw [hwyw8]; exact HB.out
   clear HB; have HB := Lib.hid kq; clear kq hwyw8
   refine qi 0 10 #[tt,ff,ff,ff,ff,ff] rfl rfl rfl (by kernel_rfl) (zf (by rfl) 180 _ rfl _ (by rfl) (e4 0) (bd36z)) (M5.out) ?_
   (try simp only [sI, sS, sZ])
   refine qi 1 11 #[tt,tt,ff,ff,ff,ff] rfl rfl rfl (by kernel_rfl) (qj (by rfl) 180 _ rfl (uw1.heap.size) rfl 180 (e4 1) (fun _ h => h) Tryz.underlying180 rfl (by rw [qd]; kernel_rfl)) (M5.out) ?_
   (try simp only [sI, sS, sZ])
   refine qi 2 12 #[tt,tt,tt,ff,ff,ff] rfl rfl rfl (by kernel_rfl) (qj (by rfl) 180 _ rfl (uw1.heap.size) rfl 180 (e4 1) (fun _ h => h) Tryz.underlying180 rfl (by rw [qd]; kernel_rfl)) (M5.out) ?_
   (try simp only [sI, sS, sZ])
   refine qq (i := 3) (by kernel_rfl) ?_
   first | (obtain ⟨Zq, hZ, mZ⟩ := M2.out) | (obtain ⟨Zq, hZ, mZ⟩ := M2.out.toN (qd ..))
   refine Ql 3 #[tt,tt,tt,tt,ff,ff] rfl rfl rfl (by rfl) 180 _ _ rfl (w.heap.size + 1) (e4 0) rfl rfl 180 Zq mZ (by rw [qd]; kernel_rfl) (hZ.trans (qd ..).symm) (qo _ _ _) ?_
   intro yw9 hw2
   replace M1 := Lib.hid (M1.out.setRow_other (w.heap.size + 1) (e4 0) (by omega))
   replace M3 := Lib.hid (M3.out.setRow_other (w.heap.size + 1) (e4 0) (by omega))
   replace M4 := Lib.hid (M4.out.setRow_other (w.heap.size + 1) (e4 0) (by omega))
   replace M5 := Lib.hid (M5.out.setRow_other (w.heap.size + 1) (e4 0) (by omega))
   replace M2 := Lib.hid (mZ.setRow (e4 0))
   replace HB := Lib.hid (below_setRow HB.out (w.heap.size + 1) (e4 0) (by omega))
   rw [← hw2] at M1 M3 M4 M5 M2 HB; clear mZ hZ hw2
   refine ⟨fun _ => M5.out, ?_⟩
   (try simp only [sI, sS, sZ])
   refine qq (i := 4) (by kernel_rfl) ?_
   first | (obtain ⟨Zq, hZ, mZ⟩ := M3.out) | (obtain ⟨Zq, hZ, mZ⟩ := M3.out.toN (qd ..))
   refine Ql 4 #[tt,tt,tt,tt,tt,ff] rfl rfl rfl (by rfl) 180 _ _ rfl (w.heap.size + 1 + 1) (e4 1) rfl rfl 180 Zq mZ (by rw [qd]; kernel_rfl) (hZ.trans (qd ..).symm) (qo _ _ _) ?_
   intro yw10 hw2
   replace M1 := Lib.hid (M1.out.setRow_other (w.heap.size + 1 + 1) (e4 1) (by omega))
   replace M2 := Lib.hid (M2.out.setRow_other (w.heap.size + 1 + 1) (e4 1) (by omega))
   replace M4 := Lib.hid (M4.out.setRow_other (w.heap.size + 1 + 1) (e4 1) (by omega))
   replace M5 := Lib.hid (M5.out.setRow_other (w.heap.size + 1 + 1) (e4 1) (by omega))
   replace M3 := Lib.hid (mZ.setRow (e4 1))
   replace HB := Lib.hid (below_setRow HB.out (w.heap.size + 1 + 1) (e4 1) (by omega))
   rw [← hw2] at M1 M2 M4 M5 M3 HB; clear mZ hZ hw2
   refine ⟨fun _ => M5.out, ?_⟩
   (try simp only [sI, sS, sZ])
   refine qq (i := 5) (by kernel_rfl) ?_
   first | (obtain ⟨Zq, hZ, mZ⟩ := M4.out) | (obtain ⟨Zq, hZ, mZ⟩ := M4.out.toN (qd ..))
   refine Ql 5 #[tt,tt,tt,tt,tt,tt] rfl rfl rfl (by rfl) 180 _ _ rfl (w.heap.size + 1 + 1 + 1) (e4 1) rfl rfl 180 Zq mZ (by rw [qd]; kernel_rfl) (hZ.trans (qd ..).symm) (qo _ _ _) ?_
   intro yw11 hw2
   replace M1 := Lib.hid (M1.out.setRow_other (w.heap.size + 1 + 1 + 1) (e4 1) (by omega))
   replace M2 := Lib.hid (M2.out.setRow_other (w.heap.size + 1 + 1 + 1) (e4 1) (by omega))
   replace M3 := Lib.hid (M3.out.setRow_other (w.heap.size + 1 + 1 + 1) (e4 1) (by omega))
   replace M5 := Lib.hid (M5.out.setRow_other (w.heap.size + 1 + 1 + 1) (e4 1) (by omega))
   replace M4 := Lib.hid (mZ.setRow (e4 1))
   replace HB := Lib.hid (below_setRow HB.out (w.heap.size + 1 + 1 + 1) (e4 1) (by omega))
   rw [← hw2] at M1 M2 M3 M5 M4 HB; clear mZ hZ hw2
   refine ⟨fun _ => M5.out, ?_⟩
   (try simp only [sI, sS, sZ])
   refine qD (by kernel_rfl) (NoPanic.normal ?_)
   have hr := Hc.out.resolve_left (by simp)
   go_wp2_with fail
   exact bodyPost_ret (v := .tuple #[.agg (e4 0), .agg (e4 1), .agg (e4 1)]) (qaz (fn := Tryz.f171) (p := 2) (q := 3) (r := 4) (ty := 180) (by rfl) _ _ (w.heap.size + 1) (w.heap.size + 1 + 1) (w.heap.size + 1 + 1 + 1) 180 180 180 _ _ _ _ rfl rfl rfl M2.out M3.out M4.out Tryz.underlying180 rfl (by rw [qd]; kernel_rfl) (by rw [qd]; kernel_rfl) (by rw [qd]; kernel_rfl)) rfl ⟨0, 1, 1, ⟨by decide, by decide, by decide⟩, ⟨hr.2.1, hr.2.2.1, hr.2.2.2⟩, rfl, HB.out⟩
 · repeat ((fail_if_success (with_reducible (show wpList _ _ _ _ _ _))); go_step)
   refine wp_region_noPanic ?_
   refine Qn (fun w' => Has w' (w.heap.size) (pt x y z1 true) 182 ∧ Has w' (uw1.heap.size) (e4 1) 180) 99 11 #[ff,ff,ff,ff,ff,ff,ff,ff,ff,ff,ff] (by kernel_rfl) rfl rfl ?_
   replace M1 := Lib.hid (M1.out.drew)
   replace M2 := Lib.hid (M2.out.drew)
   replace M3 := Lib.hid (M3.out.drew)
   replace M4 := Lib.hid (M4.out.drew)
   replace M5 := Lib.hid (M5.out.drew)
   replace HB := Lib.hid (qT HB.out 1)
   obtain ⟨yw8, hwyw8⟩ : ∃ ww, ww = yw7.drew := ⟨_, rfl⟩
   rw [← hwyw8] at M1 M2 M3 M4 M5 ⊢
   have kq : Below w.heap.size w yw8 := by rw [hwyw8]; exact HB.out
   clear HB; have HB := Lib.hid kq; clear kq hwyw8
   refine qi 0 13 #[tt,ff,ff,ff,ff,ff,ff,ff,ff,ff,ff] (v := ?uv1) rfl rfl rfl (by kernel_rfl) (Or.inl ⟨by rfl, ?uy1⟩) (⟨M1.out, M5.out⟩) ?urest1
   case uy1 => (intro _ _; go_simp; try with_reducible rfl)
   (try simp only [sI, sS, sZ])
   refine qi 1 14 #[tt,tt,ff,ff,ff,ff,ff,ff,ff,ff,ff] rfl rfl rfl (by kernel_rfl) (Qq (by rfl) 180 _ rfl (w.heap.size) 0 rfl (e4l x) (e4 x) rfl (fun _ h => pt_x h.1) _ Tryz.underlying180 rfl (by rw [Zc]; kernel_rfl)) (⟨M1.out, M5.out⟩) ?_
   (try simp only [sI, sS, sZ])
   refine qi 2 15 #[tt,tt,tt,ff,ff,ff,ff,ff,ff,ff,ff] (v := ?uv2) rfl rfl rfl (by kernel_rfl) (Or.inl ⟨by rfl, ?uy2⟩) (⟨M1.out, M5.out⟩) ?urest2
   case uy2 => (intro _ _; go_simp; try with_reducible rfl)
   (try simp only [sI, sS, sZ])
   refine qi 3 16 #[tt,tt,tt,tt,ff,ff,ff,ff,ff,ff,ff] rfl rfl rfl (by kernel_rfl) (Qq (by rfl) 180 _ rfl (w.heap.size) 4 rfl (e4l y) (e4 y) rfl (fun _ h => pt_y h.1) _ Tryz.underlying180 rfl (by rw [Zc]; kernel_rfl)) (⟨M1.out, M5.out⟩) ?_
   (try simp only [sI, sS, sZ])
   refine qi 4 17 #[tt,tt,tt,tt,tt,ff,ff,ff,ff,ff,ff] (v := ?uv3) rfl rfl rfl (by kernel_rfl) (Or.inl ⟨by rfl, ?uy3⟩) (⟨M1.out, M5.out⟩) ?urest3
   case uy3 => (intro _ _; go_simp; try with_reducible rfl)
   (try simp only [sI, sS, sZ])
   refine qi 5 18 #[tt,tt,tt,tt,tt,tt,ff,ff,ff,ff,ff] rfl rfl rfl (by kernel_rfl) (Qq (by rfl) 180 _ rfl (w.heap.size) 8 rfl (e4l z1) (e4 z1) rfl (fun _ h => pt_z h.1) _ Tryz.underlying180 rfl (by rw [Zc]; kernel_rfl)) (⟨M1.out, M5.out⟩) ?_
   (try simp only [sI, sS, sZ])
   refine qi 6 19 #[tt,tt,tt,tt,tt,tt,tt,ff,ff,ff,ff] rfl rfl rfl (by kernel_rfl) (qj (by rfl) 180 _ rfl (uw1.heap.size) rfl 180 (e4 1) (fun _ h => h.2) Tryz.underlying180 rfl (by rw [qd]; kernel_rfl)) (⟨M1.out, M5.out⟩) ?_
   (try simp only [sI, sS, sZ])
   refine qq (i := 7) (by kernel_rfl) ?_
   refine qM 7 20 #[tt,tt,tt,tt,tt,tt,tt,tt,ff,ff,ff] rfl rfl rfl (by rfl) rfl rfl (by rfl) ent211 (by rfl) (Hpl.out _) ?_
   rintro e uw2 ⟨m, hm, hmr, rfl, hb⟩
   replace M1 := Lib.hid (M1.out.call hb)
   replace M2 := Lib.hid (M2.out.call hb)
   replace M3 := Lib.hid (M3.out.call hb)
   replace M4 := Lib.hid (M4.out.call hb)
   replace M5 := Lib.hid (M5.out.call hb)
   replace HB := Lib.hid (qf HB.out hb)
   refine ⟨_, rfl, fun _ => ⟨M1.out, M5.out⟩, ?_⟩
   clear hb
   (try simp only [sI, sS, sZ])
   refine qq (i := 8) (by kernel_rfl) ?_
   first | (obtain ⟨Zq, hZ, mZ⟩ := M2.out) | (obtain ⟨Zq, hZ, mZ⟩ := M2.out.toN (qd ..))
   refine Ql 8 #[tt,tt,tt,tt,tt,tt,tt,tt,tt,ff,ff] rfl rfl rfl (by rfl) 180 _ _ rfl (w.heap.size + 1) (e4 x) rfl rfl 180 Zq mZ (by rw [qd]; kernel_rfl) (hZ.trans (qd ..).symm) (qo _ _ _) ?_
   intro yw9 hw2
   replace M1 := Lib.hid (M1.out.setRow_other (w.heap.size + 1) (e4 x) (by omega))
   replace M3 := Lib.hid (M3.out.setRow_other (w.heap.size + 1) (e4 x) (by omega))
   replace M4 := Lib.hid (M4.out.setRow_other (w.heap.size + 1) (e4 x) (by omega))
   replace M5 := Lib.hid (M5.out.setRow_other (w.heap.size + 1) (e4 x) (by omega))
   replace M2 := Lib.hid (mZ.setRow (e4 x))
   replace HB := Lib.hid (below_setRow HB.out (w.heap.size + 1) (e4 x) (by omega))
   rw [← hw2] at M1 M3 M4 M5 M2 HB; clear mZ hZ hw2
   refine ⟨fun _ => ⟨M1.out, M5.out⟩, ?_⟩
   (try simp only [sI, sS, sZ])
   refine qq (i := 9) (by kernel_rfl) ?_
   first | (obtain ⟨Zq, hZ, mZ⟩ := M3.out) | (obtain ⟨Zq, hZ, mZ⟩ := M3.out.toN (qd ..))
   refine Ql 9 #[tt,tt,tt,tt,tt,tt,tt,tt,tt,tt,ff] rfl rfl rfl (by rfl) 180 _ _ rfl (w.heap.size + 1 + 1) (e4 y) rfl rfl 180 Zq mZ (by rw [qd]; kernel_rfl) (hZ.trans (qd ..).symm) (qo _ _ _) ?_
   intro yw10 hw2
   replace M1 := Lib.hid (M1.out.setRow_other (w.heap.size + 1 + 1) (e4 y) (by omega))
   replace M2 := Lib.hid (M2.out.setRow_other (w.heap.size + 1 + 1) (e4 y) (by omega))
   replace M4 := Lib.hid (M4.out.setRow_other (w.heap.size + 1 + 1) (e4 y) (by omega))
   replace M5 := Lib.hid (M5.out.setRow_other (w.heap.size + 1 + 1) (e4 y) (by omega))
   replace M3 := Lib.hid (mZ.setRow (e4 y))
   replace HB := Lib.hid (below_setRow HB.out (w.heap.size + 1 + 1) (e4 y) (by omega))
   rw [← hw2] at M1 M2 M4 M5 M3 HB; clear mZ hZ hw2
   refine ⟨fun _ => ⟨M1.out, M5.out⟩, ?_⟩
   (try simp only [sI, sS, sZ])
   refine qq (i := 10) (by kernel_rfl) ?_
   first | (obtain ⟨Zq, hZ, mZ⟩ := M4.out) | (obtain ⟨Zq, hZ, mZ⟩ := M4.out.toN (qd ..))
   refine Ql 10 #[tt,tt,tt,tt,tt,tt,tt,tt,tt,tt,tt] rfl rfl rfl (by rfl) 180 _ _ rfl (w.heap.size + 1 + 1 + 1) (e4 m) rfl rfl 180 Zq mZ (by rw [qd]; kernel_rfl) (hZ.trans (qd ..).symm) (qo _ _ _) ?_
   intro yw11 hw2
   replace M1 := Lib.hid (M1.out.setRow_other (w.heap.size + 1 + 1 + 1) (e4 m) (by omega))
   replace M2 := Lib.hid (M2.out.setRow_other (w.heap.size + 1 + 1 + 1) (e4 m) (by omega))
   replace M3 := Lib.hid (M3.out.setRow_other (w.heap.size + 1 + 1 + 1) (e4 m) (by omega))
   replace M5 := Lib.hid (M5.out.setRow_other (w.heap.size + 1 + 1 + 1) (e4 m) (by omega))
   replace M4 := Lib.hid (mZ.setRow (e4 m))
   replace HB := Lib.hid (below_setRow HB.out (w.heap.size + 1 + 1 + 1) (e4 m) (by omega))
   rw [← hw2] at M1 M2 M3 M5 M4 HB; clear mZ hZ hw2
   refine ⟨fun _ => ⟨M1.out, M5.out⟩, ?_⟩
   (try simp only [sI, sS, sZ])
   refine qD (by kernel_rfl) (NoPanic.normal ?_)
   have hr := Hc.out.resolve_right (by simp)
   go_wp2_with fail
   exact bodyPost_ret (v := .tuple #[.agg (e4 x), .agg (e4 y), .agg (e4 m)]) (qaz (fn := Tryz.f171) (p := 2) (q := 3) (r := 4) (ty := 180) (by rfl) _ _ (w.heap.size + 1) (w.heap.size + 1 + 1) (w.heap.size + 1 + 1 + 1) 180 180 180 _ _ _ _ rfl rfl rfl M2.out M3.out M4.out Tryz.underlying180 rfl (by rw [qd]; kernel_rfl) (by rw [qd]; kernel_rfl) (by rw [qd]; kernel_rfl)) rfl ⟨x, y, m, ⟨Hx.out, Hy.out, hm⟩, ⟨hr.2.1, hr.2.2.1, hmr.trans hr.2.2.2⟩, rfl, HB.out⟩
end
end Go.Proofs.YtbgefoamhdgnaaaGreatDoor
