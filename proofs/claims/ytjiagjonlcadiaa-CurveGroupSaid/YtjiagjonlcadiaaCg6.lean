/- Chapter 04: points are a group, without the document's answer. For all three keys the law returns true. -/
import Derived.Laws.CopyOwn
import Derived.Deep.DeepCutAuto
import Derived.Deep.CutBlock
import Derived.Test.YtjiagjonlcadiaaCg5
section
namespace Go.Proofs.Ytjiagjonlcadiaa
open Go.RowKit Go.Lib

theorem ent117 : _root_.Go.Enters Try.prog 117 := ⟨_, Try.func117, by kernel_rfl, by kernel_rfl⟩
theorem ent104 : _root_.Go.Enters Try.prog 104 := ⟨_, Try.func104, by kernel_rfl, by kernel_rfl⟩
theorem wu32 (n : Int) (h0 : 0 ≤ n) (h1 : n < 2 ^ 32) : IntKind.u32.wrap n = n := by rw [IntKind.wrap_u32]; omega
theorem or_bit (x c : Nat) (hx : x < 65536) (hc : c < 2) : bits .or .u32 ((x : Int) * 2) (c : Int) = ((2 * x + c : Nat) : Int) := by
  rw [bits_join .u32 32 (by decide) wu32 1 _ _ (by omega) (by omega) (by omega) (by omega) (by omega) (by omega)]
  omega
theorem and_16 (v : Nat) (hv : v < 4294967296) : bits .and .u32 (v : Int) 65535 = ((v % 65536 : Nat) : Int) := by
  have h := bits_mask .u32 32 (by decide) wu32 16 (by decide) (v : Int) (by omega) (by omega)
  rw [show ((2 : Int) ^ 16 - 1) = 65535 by decide] at h
  rw [h]; omega
theorem sz_91 (w : World) : (sizeOf 91).run Try.prog w = .ok 1 w := by kernel_rfl
theorem sub_wrap (x y c v : Nat) (hx : x < 65536) (hy : y < 65536) (hc : c < 2) (hv : v = (x + 4294967296 - y - c) % 4294967296) : ((x : Int) - (y : Int) - (c : Int)) % 4294967296 = (v : Int) := by omega

set_option maxRecDepth 100000 in
set_option linter.unusedSimpArgs false in
set_option maxHeartbeats 4000000 in
theorem take_any (R n d : Nat) (hd : n = d + L0) (w : World) (hR : Has w R (r17 n) 93) :
    Calls Try.prog 117 #[.pointer (some ⟨R, 0, none⟩)] w fun e w' => e = .returned (.tuple #[]) ∧ Has w' R (r17 d) 93 ∧ But R w w' := by
  have H0 := Lib.hid (show n / 65536 ^ 0 = d / 65536 ^ 0 + L0 / 65536 ^ 0 + 0 by rw [Nat.pow_zero, Nat.div_one, Nat.div_one, Nat.div_one]; omega)
  rw [← mixd_0 d n] at hR
  have MR := Lib.hid hR
  have HB := Lib.hid (But.refl R w)
  clear hR hd
  go_enter Try.func117, Try.ntmps117
  repeat ((fail_if_success (with_reducible (show wpList _ _ _ _ _ _))); go_step)
  (refine wpList_step (fun K hK => ?_); go_simp; (try go_bits); refine hK _ _ ?_; clear hK K)
  refine wpList_nil ?_
  repeat ((fail_if_success (with_reducible (show wpList _ _ _ _ _ _))); go_step)
  refine wpList_call (by rfl) rfl rfl (by rfl) ent105 (by rfl) (order_any _) 6 rfl ?_
  rintro e uw1 ⟨rfl, hb⟩
  replace MR := Lib.hid (MR.out.call hb)
  replace HB := Lib.hid (HB.out.call hb)
  refine ⟨_, rfl, ?_⟩
  clear hb
  (try simp only [Act.put, sI, sS, sZ])
  (refine wpList_step (fun K hK => ?_); go_simp; (try go_bits); refine hK _ _ ?_; clear hK K)
  refine wpList_nil ?_
  repeat ((fail_if_success (with_reducible (show wpList _ _ _ _ _ _))); go_step)
  go_loopw [7, 2] (fun i c wr => ∃ k cc : Nat, k ≤ 17 ∧ cc < 2 ∧ i = .int .i64 (k : Int) ∧ c = .int .u32 (cc : Int) ∧ RowKit.Hid (n / 65536 ^ k = d / 65536 ^ k + L0 / 65536 ^ k + cc) ∧ Has wr R (row .u32 17 (mixd d n k)) 93 ∧ But R w wr) (fun i _ _ => (17 - intOf i).toNat)
  case atStart => exact ⟨0, 0, by omega, by omega, rfl, rfl, H0, MR.out, HB.out⟩
  case round =>
    clear MR HB H0
    obtain ⟨k, cc, hk, hcc, rfl, rfl, H0, mR, hB⟩ := hrel
    have MR := Lib.hid mR; clear mR
    have HB := Lib.hid hB; clear hB
    rcases Nat.lt_or_ge k 17 with hlt | hge
    · have kq : (k : Int) < 17 := by omega
      obtain ⟨x, hx⟩ : ∃ x, n / 65536 ^ k % 65536 = x := ⟨_, rfl⟩
      obtain ⟨y, hy⟩ : ∃ y, L0 / 65536 ^ k % 65536 = y := ⟨_, rfl⟩
      have lx : x < 65536 := by omega
      have ly : y < 65536 := by omega
      have hc1 : wr.cell? ⟨R, k, none⟩ = some (.int .u32 (x : Int)) := by rw [MR.out.cell k hlt, mixd_at, dg_nat, hx]
      have hfz := MR.out.frozen k
      have hix : ∀ w, (Instr.index 92 (.agg (r17 L0)) (.int .i64 (k : Int))).run Try.prog w = .ok (.int .u32 (y : Int)) w := fun w => by
        rw [show r17 L0 = row .u32 17 (dg 65536 L0) from rfl, run_index_row w 92 91 17 .u32 Try.underlying92 Try.underlying91 sz_91 _ k hlt, dg_nat, hy]
      obtain ⟨v, hv⟩ : ∃ v, v = (x + 4294967296 - y - cc) % 4294967296 := ⟨_, rfl⟩
      have hsub := sub_wrap x y cc v lx ly hcc hv
      have lv : v < 4294967296 := by omega
      obtain ⟨r, hr⟩ : ∃ r, r = v % 65536 := ⟨_, rfl⟩
      obtain ⟨c2, hc2⟩ : ∃ c, c = v / 2147483648 := ⟨_, rfl⟩
      have hand : bits .and .u32 (v : Int) 65535 = (r : Int) := by rw [and_16 v lv, hr]
      have hshr : (v : Int) / 2147483648 = (c2 : Int) := by omega
      obtain ⟨s1, s2, s3⟩ := sub_rest d n L0 k cc x y H0.out hcc hx hy
      rw [← hv, ← hr] at s1
      rw [← hv, ← hc2] at s2
      rw [← hv, ← hc2] at s3
      have hup : (r : Int) = dg 65536 d k := by rw [dg_nat, s1]
      clear hr hc2
      have S1 := Lib.hid s1; clear s1
      have S2 := Lib.hid s2; clear s2
      have S3 := Lib.hid s3; clear s3
      have Hv := Lib.hid hv; clear hv
      have Hx := Lib.hid hx; clear hx
      have Hy := Lib.hid hy; clear hy
      have Hup := Lib.hid hup; clear hup
      repeat ((fail_if_success (with_reducible (show wpList _ _ _ _ _ _))); go_step)
      (refine wpList_step (fun K hK => ?_); go_simp; (try go_bits); refine hK _ _ ?_; clear hK K)
      refine wpList_nil ?_
      repeat ((fail_if_success (with_reducible (show wpList _ _ _ _ _ _))); go_step)
      iterate 4 (refine wpList_step (fun K hK => ?_); go_simp; (try go_bits); refine hK _ _ ?_; clear hK K)
      refine wpList_nil ?_
      clear hix
      repeat ((fail_if_success (with_reducible (show wpList _ _ _ _ _ _))); go_step)
      iterate 10 (refine wpList_step (fun K hK => ?_); go_simp; (try go_bits); refine hK _ _ ?_; clear hK K)
      refine wpList_nil ?_
      clear hsub hc1
      repeat ((fail_if_success (with_reducible (show wpList _ _ _ _ _ _))); go_step)
      have hc1 : wr.cell? ⟨R, k, none⟩ = some (.int .u32 (x : Int)) := by rw [MR.out.cell k hlt, mixd_at, dg_nat, Hx.out]
      iterate 9 (refine wpList_step (fun K hK => ?_); go_simp; (try go_bits); refine hK _ _ ?_; clear hK K)
      
      clear hc1 hfz hand
      have kq := MR.out.set (k) ((r : Int)); rw [mixd_upd d n k _ Hup.out] at kq; clear MR; have MR := Lib.hid kq; clear kq
      replace HB := Lib.hid (But.set HB.out ⟨R, k, none⟩ (.int .u32 ((r : Int))) rfl)
      obtain ⟨yw101, hwyw101⟩ : ∃ ww, ww = wr.setCell ⟨R, k, none⟩ (.int .u32 ((r : Int))) := ⟨_, rfl⟩
      rw [← hwyw101] at MR HB ⊢
      clear hwyw101
      (refine wpList_step (fun K hK => ?_); go_simp; (try go_bits); refine hK _ _ ?_; clear hK K)
      refine wpList_nil ?_
      clear hshr
      repeat ((fail_if_success (with_reducible (show wpList _ _ _ _ _ _))); go_step)
      iterate 2 (refine wpList_step (fun K hK => ?_); go_simp; (try go_bits); refine hK _ _ ?_; clear hK K)
      refine wpList_nil ?_
      go_roundw
      case measure => simp [intOf]; omega
      case rel => (repeat apply Exists.intro); exact ⟨⟨k + 1, c2, by omega, S3.out, by go_num, rfl, S2, MR.out, HB.out⟩, rfl⟩
    · have hk17 : k = 17 := by omega
      subst hk17
      clear hk hge
      have mR := MR.out
      rw [mixd_17] at mR
      repeat ((fail_if_success (with_reducible (show wpList _ _ _ _ _ _))); go_step)
      (refine wpList_step (fun K hK => ?_); go_simp; (try go_bits); refine hK _ _ ?_; clear hK K)
      refine wpList_nil ?_
      go_wp2_with fail
      go_end0
      exact ⟨rfl, mR, HB.out⟩

set_option maxRecDepth 100000 in
set_option linter.unusedSimpArgs false in
set_option maxHeartbeats 4000000 in
theorem bit_any (R n b : Nat) (hn : n < L0) (hb : b < 2) (w : World) (hR : Has w R (r17 n) 93) :
    Calls Try.prog 104 #[.pointer (some ⟨R, 0, none⟩), .int .u32 (b : Int)] w fun e w' => e = .returned (.tuple #[]) ∧ Has w' R (r17 ((2 * n + b) % L0)) 93 ∧ But R w w' := by
  obtain ⟨m, hm⟩ : ∃ m, m = 2 * n + b := ⟨_, rfl⟩
  have hl := L0_17
  have hlv : L0 = 7237005577332262213973186563042994240857116359379907606001950938285454250989 := rfl
  have hp17 : (65536 : Nat) ^ 17 = 7588550360256754183279148073529370729071901715047420004889892225542594864082845696 := by decide +kernel
  have hm17 : m < 65536 ^ 17 := by rw [hp17]; rw [hlv] at hn; omega
  have hm2 : m < L0 + L0 := by omega
  rw [← hm]
  have H0 := Lib.hid (show m / 65536 ^ 0 = 2 * (n / 65536 ^ 0) + b by rw [Nat.pow_zero, Nat.div_one, Nat.div_one]; exact hm)
  rw [← mixd_0 m n] at hR
  have MR := Lib.hid hR
  have HB := Lib.hid (But.refl R w)
  clear hR hl hlv hp17 hm hn
  have Hm17 := Lib.hid hm17; clear hm17
  have Hm2 := Lib.hid hm2; clear hm2
  go_enter Try.func104, Try.ntmps104
  repeat ((fail_if_success (with_reducible (show wpList _ _ _ _ _ _))); go_step)
  (refine wpList_step (fun K hK => ?_); go_simp; (try go_bits); refine hK _ _ ?_; clear hK K)
  refine wpList_nil ?_
  repeat ((fail_if_success (with_reducible (show wpList _ _ _ _ _ _))); go_step)
  go_loopw [6, 1] (fun i c wr => ∃ k cc : Nat, k ≤ 17 ∧ cc < 2 ∧ i = .int .i64 (k : Int) ∧ c = .int .u32 (cc : Int) ∧ RowKit.Hid (m / 65536 ^ k = 2 * (n / 65536 ^ k) + cc) ∧ Has wr R (row .u32 17 (mixd m n k)) 93 ∧ But R w wr) (fun i _ _ => (17 - intOf i).toNat)
  case atStart => exact ⟨0, b, by omega, hb, rfl, rfl, H0, MR.out, HB.out⟩
  case round =>
    clear MR HB H0
    obtain ⟨k, cc, hk, hcc, rfl, rfl, H0, mR, hB⟩ := hrel
    have MR := Lib.hid mR; clear mR
    have HB := Lib.hid hB; clear hB
    rcases Nat.lt_or_ge k 17 with hlt | hge
    · have kq : (k : Int) < 17 := by omega
      obtain ⟨x, hx⟩ : ∃ x, n / 65536 ^ k % 65536 = x := ⟨_, rfl⟩
      have lx : x < 65536 := by omega
      have hc1 : wr.cell? ⟨R, k, none⟩ = some (.int .u32 (x : Int)) := by rw [MR.out.cell k hlt, mixd_at, dg_nat, hx]
      have hfz := MR.out.frozen k
      obtain ⟨v, hv⟩ : ∃ v, v = 2 * x + cc := ⟨_, rfl⟩
      have hor : bits .or .u32 ((x : Int) * 2) (cc : Int) = (v : Int) := by rw [or_bit x cc lx hcc, hv]
      have lv : v < 4294967296 := by omega
      obtain ⟨r, hr⟩ : ∃ r, r = v % 65536 := ⟨_, rfl⟩
      obtain ⟨c2, hc2⟩ : ∃ c, c = v / 65536 := ⟨_, rfl⟩
      have hand : bits .and .u32 (v : Int) 65535 = (r : Int) := by rw [and_16 v lv, hr]
      have hshr : (v : Int) / 65536 = (c2 : Int) := by omega
      obtain ⟨s1, s2, s3⟩ := dbl_step m n k cc v x H0.out hcc hx hv
      rw [← hr] at s1
      rw [← hc2] at s2
      rw [← hc2] at s3
      have hup : (r : Int) = dg 65536 m k := by rw [dg_nat, s1]
      clear hr hc2
      have S1 := Lib.hid s1; clear s1
      have S2 := Lib.hid s2; clear s2
      have S3 := Lib.hid s3; clear s3
      have Hv := Lib.hid hv; clear hv
      have Hx := Lib.hid hx; clear hx
      have Hup := Lib.hid hup; clear hup
      repeat ((fail_if_success (with_reducible (show wpList _ _ _ _ _ _))); go_step)
      (refine wpList_step (fun K hK => ?_); go_simp; (try go_bits); refine hK _ _ ?_; clear hK K)
      refine wpList_nil ?_
      repeat ((fail_if_success (with_reducible (show wpList _ _ _ _ _ _))); go_step)
      iterate 2 (refine wpList_step (fun K hK => ?_); go_simp; (try go_bits); refine hK _ _ ?_; clear hK K)
      refine wpList_nil ?_
      repeat ((fail_if_success (with_reducible (show wpList _ _ _ _ _ _))); go_step)
      iterate 9 (refine wpList_step (fun K hK => ?_); go_simp; (try go_bits); refine hK _ _ ?_; clear hK K)
      refine wpList_nil ?_
      clear hor hc1
      repeat ((fail_if_success (with_reducible (show wpList _ _ _ _ _ _))); go_step)
      have hc1 : wr.cell? ⟨R, k, none⟩ = some (.int .u32 (x : Int)) := by rw [MR.out.cell k hlt, mixd_at, dg_nat, Hx.out]
      iterate 9 (refine wpList_step (fun K hK => ?_); go_simp; (try go_bits); refine hK _ _ ?_; clear hK K)
      
      clear hc1 hfz hand
      have kq := MR.out.set (k) ((r : Int)); rw [mixd_upd m n k _ Hup.out] at kq; clear MR; have MR := Lib.hid kq; clear kq
      replace HB := Lib.hid (But.set HB.out ⟨R, k, none⟩ (.int .u32 ((r : Int))) rfl)
      obtain ⟨yw101, hwyw101⟩ : ∃ ww, ww = wr.setCell ⟨R, k, none⟩ (.int .u32 ((r : Int))) := ⟨_, rfl⟩
      rw [← hwyw101] at MR HB ⊢
      clear hwyw101
      (refine wpList_step (fun K hK => ?_); go_simp; (try go_bits); refine hK _ _ ?_; clear hK K)
      refine wpList_nil ?_
      clear hshr
      repeat ((fail_if_success (with_reducible (show wpList _ _ _ _ _ _))); go_step)
      iterate 2 (refine wpList_step (fun K hK => ?_); go_simp; (try go_bits); refine hK _ _ ?_; clear hK K)
      refine wpList_nil ?_
      go_roundw
      case measure => simp [intOf]; omega
      case rel => (repeat apply Exists.intro); exact ⟨⟨k + 1, c2, by omega, S3.out, by go_num, rfl, S2, MR.out, HB.out⟩, rfl⟩
    · have hk17 : k = 17 := by omega
      subst hk17
      clear hk hge
      have mR := MR.out
      rw [mixd_17] at mR
      replace MR := Lib.hid mR
      clear mR
      have hal := fun w h => atLeast_any R m Hm17.out w h
      repeat ((fail_if_success (with_reducible (show wpList _ _ _ _ _ _))); go_step)
      (refine wpList_step (fun K hK => ?_); go_simp; (try go_bits); refine hK _ _ ?_; clear hK K)
      refine wpList_nil ?_
      repeat ((fail_if_success (with_reducible (show wpList _ _ _ _ _ _))); go_step)
      by_cases hle : L0 ≤ m
      · rw [decide_eq_true hle] at hal
        obtain ⟨d, hd⟩ : ∃ d, m = d + L0 := ⟨m - L0, by omega⟩
        have hfin : m % L0 = d := by
          have := Hm2.out
          rw [hd, Nat.add_mod_right, Nat.mod_eq_of_lt (by omega)]
        have htk := fun w h => take_any R m d hd w h
        clear hle hd
        have Hal := Lib.hid hal; clear hal
        have Htk := Lib.hid htk; clear htk
        have Hfin := Lib.hid hfin; clear hfin
        (refine wpList_step (fun K hK => ?_); go_simp; (try go_bits); refine hK _ _ ?_; clear hK K)
        refine wpList_call (by rfl) rfl rfl (by rfl) ent72 (by rfl) (Hal.out _ MR.out) 27 rfl ?_
        rintro e uw101 ⟨rfl, hb⟩
        replace MR := Lib.hid (MR.out.call hb)
        replace HB := Lib.hid (HB.out.call hb)
        refine ⟨_, rfl, ?_⟩
        clear hb
        (try simp only [Act.put, sI, sS, sZ])
        refine wpList_nil ?_
        repeat ((fail_if_success (with_reducible (show wpList _ _ _ _ _ _))); go_step)
        (refine wpList_step (fun K hK => ?_); go_simp; (try go_bits); refine hK _ _ ?_; clear hK K)
        refine wpList_call (by rfl) rfl rfl (by rfl) ent117 (by rfl) (Htk.out _ MR.out) 29 rfl ?_
        rintro e uw102 ⟨rfl, hmU, hb⟩
        replace MR := Lib.hid hmU; clear hmU
        replace HB := Lib.hid (But.trans HB.out hb)
        clear hb
        refine ⟨_, rfl, ?_⟩
        (try simp only [Act.put, sI, sS, sZ])
        refine wpList_nil ?_
        go_wp2_with fail
        go_end0
        exact ⟨rfl, by rw [Hfin.out]; exact MR.out, HB.out⟩
      · rw [decide_eq_false hle] at hal
        have hfin : m % L0 = m := Nat.mod_eq_of_lt (by omega)
        clear hle
        have Hal := Lib.hid hal; clear hal
        have Hfin := Lib.hid hfin; clear hfin
        (refine wpList_step (fun K hK => ?_); go_simp; (try go_bits); refine hK _ _ ?_; clear hK K)
        refine wpList_call (by rfl) rfl rfl (by rfl) ent72 (by rfl) (Hal.out _ MR.out) 27 rfl ?_
        rintro e uw101 ⟨rfl, hb⟩
        replace MR := Lib.hid (MR.out.call hb)
        replace HB := Lib.hid (HB.out.call hb)
        refine ⟨_, rfl, ?_⟩
        clear hb
        (try simp only [Act.put, sI, sS, sZ])
        refine wpList_nil ?_
        go_wp2_with fail
        go_end0
        exact ⟨rfl, by rw [Hfin.out]; exact MR.out, HB.out⟩
end Go.Proofs.Ytjiagjonlcadiaa
end
section
namespace Go
open Go.RowKit
variable {P : Program} {ops : Array Oper} {Q : Exit → Act → World → Prop} {S : World → Prop} {a : Act} {w : World}

theorem run_loadAt_c (w : World) (b j : Nat) (ty : TypeId) (v : Value) (d : TypeDesc) (hc : w.cell? ⟨b, j, none⟩ = some v) (hu : P.underlying ty = some d) (hd : d.isRow = false) : (Instr.loadAt ty (.pointer (some ⟨b, j, none⟩))).run P w = .ok v w := by
  have hag : (isAgg ty).run P w = .ok false w := by
    cases d <;> first | (simp [isAgg, run_underlying hu]; done) | (simp [TypeDesc.isRow] at hd)
  simp [Instr.loadAt, Instr.sureAddr, loadVar, hag, hc]
theorem yieldsIf_loadc {o : Oper} (hw : Region.wanted o (yielded ops a.tmps) = true) (ty : TypeId) (x : Operand) (ho : o.op = .load ty x) (b j : Nat) (hx : a.eval x = .pointer (some ⟨b, j, none⟩)) (v : Value) (d : TypeDesc)
    (hS : ∀ w, S w → w.cell? ⟨b, j, none⟩ = some v) (hu : P.underlying ty = some d) (hd : d.isRow = false) : YieldsIf P ops S o v a := by
  refine Or.inl ⟨hw, fun w hSw => ?_⟩
  unfold execOp
  simp only [ho, hx, Sem.run_bind, run_loadAt_c w b j ty v d (hS w hSw) hu hd, Result.andThen_ok]
  rfl
theorem run_storeAt_c (w : World) (b j : Nat) (ty : TypeId) (v : Value) (hc : (w.cell? ⟨b, j, none⟩).isSome = true) (hf : w.frozen? ⟨b, j, none⟩ = false) (hs : (P.info? ty).map (·.size) = some 1) (hv : v.oneCell' = true) (hcv : v.cells = #[v]) :
    (storeVar ty ⟨b, j, none⟩ v).run P w = .ok () (w.setCell ⟨b, j, none⟩ v) := by
  have h2 := run_storeCells_cells (P := P) b j [v] 0 w (fun k hk => by
    obtain rfl : k = 0 := by simpa using hk
    exact hc) (fun k hk => by
    obtain rfl : k = 0 := by simpa using hk
    exact hf) (by simpa using hv)
  cases hi : P.info? ty with
  | none => rw [hi] at hs; cases hs
  | some i =>
    rw [hi] at hs
    have hs : i.size = 1 := Option.some.inj hs
    simp only [Nat.add_zero] at h2
    have h3 : (storeCells ⟨b, j, none⟩ [v]).run P w = .ok () (w.setCell ⟨b, j, none⟩ v) := h2
    simp [storeVar, sizeOf, typeInfo, hi, hcv, hs, h3]
theorem go_storec {md : Region.Mode} {f n : Nat} {listed : Array Bool} (i : Nat) (l' : Array Bool) {oi : Oper} (hi : ops[i]? = some oi) (hd : oi.dst = none) (hl : listed.setIfInBounds i true = l') (hw : Region.wanted oi (yielded ops a.tmps) = true) (ty : TypeId) (x y : Operand) (ho : oi.op = .store ty x y)
    (b j : Nat) (v : Value) (hx : a.eval x = .pointer (some ⟨b, j, none⟩)) (hy : a.eval y = v) (hc : (w.cell? ⟨b, j, none⟩).isSome = true) (hf : w.frozen? ⟨b, j, none⟩ = false) (hs : (P.info? ty).map (·.size) = some 1) (hv : v.oneCell' = true) (hcv : v.cells = #[v])
    (h : (i ≠ f → S (w.setCell ⟨b, j, none⟩ v)) ∧ wpBut P md ops Q f S n l' a (w.setCell ⟨b, j, none⟩ v)) : BStep P md ops Q f S n listed a w i := by
  refine bstep_wp hi hw ?_
  unfold Oper.wp execOp
  simp only [ho, hx, hy, Instr.storeAt, Instr.sureAddr, Sem.run_bind, Sem.run_pure, Result.andThen_ok, run_storeAt_c w b j ty v hc hf hs hv hcv]
  exact ⟨h.1, by rw [put_none hd, hl]; exact h.2⟩
end Go
end
section
namespace Go.Proofs.Ytjiagjonlcadiaa
open Go.RowKit Go.Lib

/-- these bytes stand there -/
def Byts (w : World) (a : Option Addr) (len n : Nat) : Prop := len = 0 ∨ ∃ b o, a = some ⟨b, o, none⟩ ∧ b < w.heap.size ∧ ∀ i, i < len → w.cell? ⟨b, o + i, none⟩ = some (.int .u8 (dg 256 n i))
theorem Byts.call {w w' : World} {a : Option Addr} {len n : Nat} (h : Byts w a len n) (hb : Below w.heap.size w w') : Byts w' a len n := by
  rcases h with h | ⟨b, o, h1, h2, h3⟩
  · exact .inl h
  · exact .inr ⟨b, o, h1, Nat.lt_of_lt_of_le h2 hb.size, fun i hi => (hb.cell (p := ⟨b, o + i, none⟩) h2).trans (h3 i hi)⟩
theorem Has.byts {w : World} {b n : Nat} {t : TypeId} (h : Has w b (k32 n) t) : Byts w (some ⟨b, 0, none⟩) 32 n :=
  .inr ⟨b, 0, rfl, h.lt, fun i hi => by rw [Nat.zero_add]; exact h.cell i hi⟩

/-- what the figures are when k bytes have come -/
def figsf (n k : Nat) : Nat → Int := fun j => (if 2 * j < k then dg 256 n (2 * j) else 0) + (if 2 * j + 1 < k then 256 * dg 256 n (2 * j + 1) else 0)
theorem figsf_even (n j : Nat) : figsf n (2 * j) j = 0 := by unfold figsf; rw [if_neg (by omega), if_neg (by omega)]; rfl
theorem figsf_odd (n j : Nat) : figsf n (2 * j + 1) j = dg 256 n (2 * j) := by unfold figsf; rw [if_pos (by omega), if_neg (by omega)]; omega
theorem figsf_upd_even (n j : Nat) (x : Int) (hx : x = dg 256 n (2 * j)) : upd (figsf n (2 * j)) j x = figsf n (2 * j + 1) := by
  funext i
  unfold upd figsf
  by_cases e : i = j
  · subst e; rw [if_pos rfl, if_pos (by omega), if_neg (by omega), hx]; omega
  · rw [if_neg e]
    congr 1
    · by_cases h : 2 * i < 2 * j
      · rw [if_pos h, if_pos (by omega)]
      · rw [if_neg h, if_neg (by omega)]
    · by_cases h : 2 * i + 1 < 2 * j
      · rw [if_pos h, if_pos (by omega)]
      · rw [if_neg h, if_neg (by omega)]
theorem figsf_upd_odd (n j : Nat) (x : Int) (hx : x = dg 256 n (2 * j) + 256 * dg 256 n (2 * j + 1)) : upd (figsf n (2 * j + 1)) j x = figsf n (2 * j + 1 + 1) := by
  funext i
  unfold upd figsf
  by_cases e : i = j
  · subst e; rw [if_pos rfl, if_pos (by omega), if_pos (by omega), hx]
  · rw [if_neg e]
    congr 1
    · by_cases h : 2 * i < 2 * j + 1
      · rw [if_pos h, if_pos (by omega)]
      · rw [if_neg h, if_neg (by omega)]
    · by_cases h : 2 * i + 1 < 2 * j + 1
      · rw [if_pos h, if_pos (by omega)]
      · rw [if_neg h, if_neg (by omega)]
theorem dg_two (n j : Nat) : dg 65536 n j = dg 256 n (2 * j) + 256 * dg 256 n (2 * j + 1) := by
  unfold dg
  rw [show (65536 : Nat) ^ j = 256 ^ (2 * j) by rw [Nat.pow_mul], show (256 : Nat) ^ (2 * j + 1) = 256 ^ (2 * j) * 256 from Nat.pow_succ _ _, ← Nat.div_div_eq_div_mul]
  omega
theorem figsf_all (n len : Nat) (hn : n < 256 ^ len) : row .u32 ((len + 1) / 2) (figsf n len) = row .u32 ((len + 1) / 2) (dg 65536 n) := by
  refine row_ext _ _ _ _ fun j hj => ?_
  rw [dg_two]
  unfold figsf
  rw [if_pos (by omega)]
  by_cases h : 2 * j + 1 < len
  · rw [if_pos h]
  · rw [if_neg h]
    have e : len = 2 * j + 1 := by omega
    have : dg 256 n (2 * j + 1) = 0 := by unfold dg; rw [← e, Nat.div_eq_of_lt hn]; rfl
    rw [this]; rfl
theorem figsf_0 (n K : Nat) : row .u32 K (figsf n 0) = row .u32 K (fun _ => 0) := row_ext _ _ _ _ fun j _ => by unfold figsf; rw [if_neg (by omega), if_neg (by omega)]; rfl

theorem mkK (w : World) (K : Nat) (hK : K ≤ 1000) : (Instr.makeSlice 86 (.int .i64 (K : Int)) (.int .i64 (K : Int))).run Try.prog w = .ok (.slice (some ⟨w.heap.size, 0, none⟩) K K) (w.alloc (.cells (row .u32 K fun _ => 0) 91)) := by
  obtain ⟨i0, hi, hz0, hz1, hz2⟩ := info_parts info91
  have h := run_makeSlice (P := Try.prog) w 86 91 i0 _ Try.underlying86 hi hz0 .i64 .i64 (K : Int) (K : Int) (by omega) (by omega) (by rw [hz1]; omega) (by rw [hz2]; omega) (by omega)
  rw [hz1] at h
  simp only [Int.toNat_natCast, Nat.mul_one] at h
  have e : madeCells (Value.int .u32 0).cells K = row .u32 K fun _ => 0 := by
    apply Array.ext_getElem?
    intro j
    by_cases hj : j < K
    · rw [row_get _ _ _ _ hj]; simp [madeCells, Value.cells, hj, Nat.mod_one]
    · rw [row_none _ _ _ _ hj]; simp [madeCells]; omega
  rw [e] at h
  exact h
theorem or_low (c : Nat) (hc : c < 256) : bits .or .u32 0 (c : Int) = (c : Int) := by
  rw [bits_join .u32 32 (by decide) wu32 8 _ _ (by omega) (by omega) (by omega) (by omega) (by omega) (by omega)]; omega
theorem or_high (x c : Nat) (hx : x < 256) (hc : c < 256) : bits .or .u32 (x : Int) ((c * 256 : Nat) : Int) = ((x + 256 * c : Nat) : Int) := by
  have h1 : bits .or .u32 (x : Int) ((c * 256 : Nat) : Int) = bits .or .u32 ((c * 256 : Nat) : Int) (x : Int) := by
    rw [(bits_nat .u32 32 (by decide) wu32 x (c * 256) (by omega) (by omega)).2, (bits_nat .u32 32 (by decide) wu32 (c * 256) x (by omega) (by omega)).2, Nat.or_comm]
  rw [h1, bits_join .u32 32 (by decide) wu32 8 _ _ (by omega) (by omega) (by omega) (by omega) (by omega) (by omega)]
  omega

set_option maxRecDepth 100000 in
set_option linter.unusedSimpArgs false in
set_option maxHeartbeats 4000000 in
theorem figures_any (a : Option Addr) (len cap n : Nat) (hlen : len ≤ 1000) (hn : n < 256 ^ len) (w : World) (hb : Byts w a len n) :
    Calls Try.prog 70 #[.slice a len cap] w fun e w' => (∃ F, w.heap.size ≤ F ∧ e = .returned (.slice (some ⟨F, 0, none⟩) ((len + 1) / 2) ((len + 1) / 2)) ∧ Has w' F (row .u32 ((len + 1) / 2) (dg 65536 n)) 91) ∧ Below w.heap.size w w' := by
  have hfin := figsf_all n len hn
  obtain ⟨K, hKe⟩ : ∃ K, K = (len + 1) / 2 := ⟨_, rfl⟩
  rw [← hKe] at hfin ⊢
  have hK1 : ((len : Int) + 1) / 2 = (K : Int) := by omega
  have hKl : K ≤ 1000 := by omega
  have hK2 : len ≤ 2 * K := by omega
  clear hn hKe
  have MB := Lib.hid hb
  clear hb
  have Hfin := Lib.hid hfin; clear hfin
  go_enter Try.func70, Try.ntmps70
  repeat ((fail_if_success (with_reducible (show wpList _ _ _ _ _ _))); go_step)
  (refine wpList_step (fun K hK => ?_); go_simp; (try go_bits); refine hK _ _ ?_; clear hK K)
  refine wpList_nil ?_
  have HB := Lib.hid (Below.refl w.heap.size w)
  repeat ((fail_if_success (with_reducible (show wpList _ _ _ _ _ _))); go_step)
  iterate 4 (refine wpList_step (fun K hK => ?_); go_simp; (try go_bits); refine hK _ _ ?_; clear hK K)
  rw [hK1]
  refine wpList_make (by rfl) 86 _ _ rfl _ _ rfl rfl _ _ (mkK _ K hKl) 10 rfl ?_
  have hb := below_1 w (.cells (row .u32 K fun _ => 0) 91)
  have nwMF := Has.new w (row .u32 K fun _ => 0) 91
  obtain ⟨yw1, hwyw1⟩ : ∃ ww, ww = w.alloc (.cells (row .u32 K fun _ => 0) 91) := ⟨_, rfl⟩
  rw [← hwyw1] at hb nwMF ⊢
  clear hwyw1
  replace HB := Lib.hid (held_next HB.out hb)
  clear hb
  have MF := Lib.hid nwMF; clear nwMF
  (try simp only [Act.put, sI, sS, sZ])
  (refine wpList_step (fun K hK => ?_); go_simp; (try go_bits); refine hK _ _ ?_; clear hK K)
  refine wpList_nil ?_
  clear hK1
  rw [← figsf_0 n K] at MF
  repeat ((fail_if_success (with_reducible (show wpList _ _ _ _ _ _))); go_step)
  iterate 3 (refine wpList_step (fun K hK => ?_); go_simp; (try go_bits); refine hK _ _ ?_; clear hK K)
  refine wpList_nil ?_
  repeat ((fail_if_success (with_reducible (show wpList _ _ _ _ _ _))); go_step)
  go_loopw [13] (fun i wr => ∃ k : Nat, k ≤ len ∧ i = .int .i64 (k : Int) ∧ Has wr w.heap.size (row .u32 K (figsf n k)) 91 ∧ Below w.heap.size w wr) (fun i _ => (len - (intOf i).toNat))
  case atStart => exact ⟨0, Nat.zero_le _, rfl, MF.out, HB.out⟩
  case round =>
    clear MF HB
    obtain ⟨k, hk, rfl, mF, hB⟩ := hrel
    rcases Nat.lt_or_ge k len with hlt | hge
    · rcases MB.out with h0 | ⟨b, o, rfl, hbl, hcb⟩
      · omega
      have kq : (k : Int) < (len : Int) := by omega
      have hc1 := (hB.cell (p := ⟨b, o + k, none⟩) hbl).trans (hcb k hlt)
      clear hcb
      obtain ⟨c, hc⟩ : ∃ c, n / 256 ^ k % 256 = c := ⟨_, rfl⟩
      have lc : c < 256 := by omega
      rw [dg_nat, hc] at hc1
      have MF := Lib.hid mF; clear mF
      have HB := Lib.hid hB; clear hB
      have Hc := Lib.hid hc; clear hc
      repeat ((fail_if_success (with_reducible (show wpList _ _ _ _ _ _))); go_step)
      (refine wpList_step (fun K hK => ?_); go_simp; (try go_bits); refine hK _ _ ?_; clear hK K)
      refine wpList_nil ?_
      repeat ((fail_if_success (with_reducible (show wpList _ _ _ _ _ _))); go_step)
      iterate 5 (refine wpList_step (fun K hK => ?_); go_simp; (try go_bits); refine hK _ _ ?_; clear hK K)
      refine wpList_nil ?_
      clear hc1
      repeat ((fail_if_success (with_reducible (show wpList _ _ _ _ _ _))); go_step)
      obtain ⟨j, hj⟩ : ∃ j, j = k / 2 := ⟨_, rfl⟩
      have hjK : j < K := by omega
      have hq1 : (k : Int).tdiv 2 = (j : Int) := by rw [Int.tdiv_eq_ediv_of_nonneg (by omega)]; omega
      have hq2 : (k : Int) / 2 = (j : Int) := by omega
      rcases Nat.mod_two_eq_zero_or_one k with he | he
      · have hm1 : (k : Int).tmod 2 = 0 := by rw [Int.tmod_eq_emod_of_nonneg (by omega)]; omega
        have hm2 : (k : Int) % 2 = 0 := by omega
        have hk2 : k = 2 * j := by omega
        have hol := or_low c lc
        have hjb : (j : Int) < (K : Int) := by omega
        have hwj : IntKind.i64.wrap (j : Int) = (j : Int) := by rw [IntKind.wrap_i64]; omega
        have hw0 : IntKind.i64.wrap 0 = 0 := by decide
        have hwc : IntKind.u32.wrap (c : Int) = (c : Int) := by rw [IntKind.wrap_u32]; omega
        have hcs : (wr.cell? ⟨w.heap.size, j, none⟩).isSome = true := by rw [MF.out.cell j hjK]; rfl
        clear hj
        subst hk2
        have hup : (c : Int) = dg 256 n (2 * j) := by rw [dg_nat, Hc.out]
        have He := Lib.hid he; clear he
        have Hup := Lib.hid hup; clear hup
        refine wp_region_noPanic ?_
        refine wp_region_goS (fun w' => Has w' (w.heap.size) (row .u32 K (figsf n (2 * j))) 91) 13 14 #[ff,ff,ff,ff,ff,ff,ff,ff,ff,ff,ff,ff,ff,ff] (by kernel_rfl) rfl rfl ?_
        replace MF := Lib.hid (MF.out.drew)
        replace HB := Lib.hid (below_drewN HB.out 1)
        obtain ⟨yw101, hwyw101⟩ : ∃ ww, ww = wr.drew := ⟨_, rfl⟩
        rw [← hwyw101] at MF ⊢
        have kq : Below w.heap.size w yw101 := by rw [hwyw101]; exact HB.out
        clear HB; have HB := Lib.hid kq; clear kq hwyw101
        refine go_take2 0 18 #[tt,ff,ff,ff,ff,ff,ff,ff,ff,ff,ff,ff,ff,ff] (v := ?uv1) rfl rfl rfl (by kernel_rfl) (Or.inl ⟨by rfl, ?uy1⟩) (MF.out) ?urest1
        case uy1 => (intro _ _; go_simp; try with_reducible rfl)
        (try simp only [sI, sS, sZ])
        refine go_take2 1 19 #[tt,tt,ff,ff,ff,ff,ff,ff,ff,ff,ff,ff,ff,ff] (v := ?uv2) rfl rfl rfl (by kernel_rfl) (Or.inl ⟨by rfl, ?uy2⟩) (MF.out) ?urest2
        case uy2 => (intro _ _; go_simp; try with_reducible rfl)
        (try simp only [sI, sS, sZ])
        refine go_take2 2 20 #[tt,tt,tt,ff,ff,ff,ff,ff,ff,ff,ff,ff,ff,ff] (v := ?uv3) rfl rfl rfl (by kernel_rfl) (Or.inl ⟨by rfl, ?uy3⟩) (MF.out) ?urest3
        case uy3 => (intro _ _; go_simp; try with_reducible rfl)
        (try simp only [sI, sS, sZ])
        refine go_take2 3 21 #[tt,tt,tt,tt,ff,ff,ff,ff,ff,ff,ff,ff,ff,ff] (v := ?uv4) rfl rfl rfl (by kernel_rfl) (Or.inl ⟨by rfl, ?uy4⟩) (MF.out) ?urest4
        case uy4 => (intro _ _; go_simp; try with_reducible rfl)
        (try simp only [sI, sS, sZ])
        refine go_take2 4 22 #[tt,tt,tt,tt,tt,ff,ff,ff,ff,ff,ff,ff,ff,ff] rfl rfl rfl (by kernel_rfl) (yieldsIf_loadc (by rfl) 91 _ rfl (w.heap.size) (j) rfl (.int .u32 0) _ (fun _ h => (by rw [Has.cell h j hjK, figsf_even])) Try.underlying91 rfl) (MF.out) ?_
        (try simp only [sI, sS, sZ])
        refine go_take2 5 23 #[tt,tt,tt,tt,tt,tt,ff,ff,ff,ff,ff,ff,ff,ff] (v := ?uv5) rfl rfl rfl (by kernel_rfl) (Or.inl ⟨by rfl, ?uy5⟩) (MF.out) ?urest5
        case uy5 => (intro _ _; go_simp; try with_reducible rfl)
        (try simp only [sI, sS, sZ])
        refine go_take2 6 24 #[tt,tt,tt,tt,tt,tt,tt,ff,ff,ff,ff,ff,ff,ff] (v := ?uv6) rfl rfl rfl (by kernel_rfl) (Or.inl ⟨by rfl, ?uy6⟩) (MF.out) ?urest6
        case uy6 => (intro _ _; go_simp; try with_reducible rfl)
        (try simp only [sI, sS, sZ])
        refine go_take2 7 25 #[tt,tt,tt,tt,tt,tt,tt,tt,ff,ff,ff,ff,ff,ff] (v := ?uv7) rfl rfl rfl (by kernel_rfl) (Or.inl ⟨by rfl, ?uy7⟩) (MF.out) ?urest7
        case uy7 => (intro _ _; go_simp; try with_reducible rfl)
        (try simp only [sI, sS, sZ])
        refine go_take2 8 26 #[tt,tt,tt,tt,tt,tt,tt,tt,tt,ff,ff,ff,ff,ff] (v := ?uv8) rfl rfl rfl (by kernel_rfl) (Or.inl ⟨by rfl, ?uy8⟩) (MF.out) ?urest8
        case uy8 => (intro _ _; go_simp; try with_reducible rfl)
        (try simp only [sI, sS, sZ])
        refine go_take2 9 27 #[tt,tt,tt,tt,tt,tt,tt,tt,tt,tt,ff,ff,ff,ff] (v := ?uv9) rfl rfl rfl (by kernel_rfl) (Or.inl ⟨by rfl, ?uy9⟩) (MF.out) ?urest9
        case uy9 => (intro _ _; go_simp; try with_reducible rfl)
        (try simp only [sI, sS, sZ])
        refine go_take2 10 28 #[tt,tt,tt,tt,tt,tt,tt,tt,tt,tt,tt,ff,ff,ff] (v := ?uv10) rfl rfl rfl (by kernel_rfl) (Or.inl ⟨by rfl, ?uy10⟩) (MF.out) ?urest10
        case uy10 => (intro _ _; go_simp; try with_reducible rfl)
        (try simp only [sI, sS, sZ])
        refine go_take2 11 29 #[tt,tt,tt,tt,tt,tt,tt,tt,tt,tt,tt,tt,ff,ff] (v := ?uv11) rfl rfl rfl (by kernel_rfl) (Or.inl ⟨by rfl, ?uy11⟩) (MF.out) ?urest11
        case uy11 => (intro _ _; go_simp; try with_reducible rfl)
        (try simp only [sI, sS, sZ])
        refine go_take2 12 30 #[tt,tt,tt,tt,tt,tt,tt,tt,tt,tt,tt,tt,tt,ff] (v := ?uv12) rfl rfl rfl (by kernel_rfl) (Or.inl ⟨by rfl, ?uy12⟩) (MF.out) ?urest12
        case uy12 => (intro _ _; go_simp; try with_reducible rfl)
        (try simp only [sI, sS, sZ])
        refine wpBut_r1 (i := 13) (by kernel_rfl) ?_
        refine go_storec 13 #[tt,tt,tt,tt,tt,tt,tt,tt,tt,tt,tt,tt,tt,tt] rfl rfl rfl (by rfl) 91 _ _ rfl (w.heap.size) (j) (.int .u32 ((c : Int))) rfl rfl (by rw [MF.out.cell j hjK]; rfl) (MF.out.frozen _) (by kernel_rfl) rfl rfl ⟨fun h => (h rfl).elim, ?_⟩
        have kq := MF.out.set (j) ((c : Int)); rw [figsf_upd_even n j _ Hup.out] at kq; clear MF; have MF := Lib.hid kq; clear kq
        replace HB := Lib.hid (HB.out.setCell (p := ⟨w.heap.size, j, none⟩) (show w.heap.size ≤ w.heap.size by omega) (.int .u32 ((c : Int))))
        obtain ⟨yw102, hwyw102⟩ : ∃ ww, ww = yw101.setCell ⟨w.heap.size, j, none⟩ (.int .u32 ((c : Int))) := ⟨_, rfl⟩
        rw [← hwyw102] at MF HB ⊢
        clear hwyw102
        (try simp only [sI, sS, sZ])
        refine wpBut_done (by kernel_rfl) (NoPanic.normal ?_)
        repeat ((fail_if_success (with_reducible (show wpList _ _ _ _ _ _))); go_step)
        iterate 2 (refine wpList_step (fun K hK => ?_); go_simp; (try go_bits); refine hK _ _ ?_; clear hK K)
        refine wpList_nil ?_
        go_roundw
        case measure => simp [intOf]; omega
        case rel => (repeat apply Exists.intro); exact ⟨⟨2 * j + 1, by omega, by go_num, MF.out, HB.out⟩, rfl⟩
      · have hm1 : (k : Int).tmod 2 = 1 := by rw [Int.tmod_eq_emod_of_nonneg (by omega)]; omega
        have hm2 : (k : Int) % 2 = 1 := by omega
        have hk2 : k = 2 * j + 1 := by omega
        obtain ⟨x, hx⟩ : ∃ x, n / 256 ^ (2 * j) % 256 = x := ⟨_, rfl⟩
        have lx : x < 256 := by omega
        obtain ⟨v, hv⟩ : ∃ v, v = x + 256 * c := ⟨_, rfl⟩
        have hol := or_high x c lx lc
        obtain ⟨c8, hc8⟩ : ∃ c8, c8 = c * 256 := ⟨_, rfl⟩
        rw [← hv, ← hc8] at hol
        have hsh : IntKind.u32.wrap ((c : Int) * 256) = (c8 : Int) := by rw [IntKind.wrap_u32]; omega
        clear hc8
        have hjb : (j : Int) < (K : Int) := by omega
        have hwj : IntKind.i64.wrap (j : Int) = (j : Int) := by rw [IntKind.wrap_i64]; omega
        have hw0 : IntKind.i64.wrap 8 = 8 := by decide
        have hwc : IntKind.u32.wrap (c : Int) = (c : Int) := by rw [IntKind.wrap_u32]; omega
        have hfx : figsf n k j = (x : Int) := by rw [hk2, figsf_odd, dg_nat, hx]
        have hfu : upd (figsf n k) j (v : Int) = figsf n (k + 1) := by
          have hc := Hc.out
          rw [hk2] at hc ⊢
          refine figsf_upd_odd n j _ ?_
          rw [dg_nat, dg_nat, hc, hx, hv]; omega
        clear hj hk2
        have He := Lib.hid he; clear he
        have Hfx := Lib.hid hfx; clear hfx
        have Hfu := Lib.hid hfu; clear hfu
        have Hx := Lib.hid hx; clear hx
        have Hv := Lib.hid hv; clear hv
        refine wp_region_noPanic ?_
        refine wp_region_goS (fun w' => Has w' (w.heap.size) (row .u32 K (figsf n k)) 91) 13 14 #[ff,ff,ff,ff,ff,ff,ff,ff,ff,ff,ff,ff,ff,ff] (by kernel_rfl) rfl rfl ?_
        replace MF := Lib.hid (MF.out.drew)
        replace HB := Lib.hid (below_drewN HB.out 1)
        obtain ⟨yw101, hwyw101⟩ : ∃ ww, ww = wr.drew := ⟨_, rfl⟩
        rw [← hwyw101] at MF ⊢
        have kq : Below w.heap.size w yw101 := by rw [hwyw101]; exact HB.out
        clear HB; have HB := Lib.hid kq; clear kq hwyw101
        refine go_take2 0 18 #[tt,ff,ff,ff,ff,ff,ff,ff,ff,ff,ff,ff,ff,ff] (v := ?uv13) rfl rfl rfl (by kernel_rfl) (Or.inl ⟨by rfl, ?uy13⟩) (MF.out) ?urest13
        case uy13 => (intro _ _; go_simp; try with_reducible rfl)
        (try simp only [sI, sS, sZ])
        refine go_take2 1 19 #[tt,tt,ff,ff,ff,ff,ff,ff,ff,ff,ff,ff,ff,ff] (v := ?uv14) rfl rfl rfl (by kernel_rfl) (Or.inl ⟨by rfl, ?uy14⟩) (MF.out) ?urest14
        case uy14 => (intro _ _; go_simp; try with_reducible rfl)
        (try simp only [sI, sS, sZ])
        refine go_take2 2 20 #[tt,tt,tt,ff,ff,ff,ff,ff,ff,ff,ff,ff,ff,ff] (v := ?uv15) rfl rfl rfl (by kernel_rfl) (Or.inl ⟨by rfl, ?uy15⟩) (MF.out) ?urest15
        case uy15 => (intro _ _; go_simp; try with_reducible rfl)
        (try simp only [sI, sS, sZ])
        refine go_take2 3 21 #[tt,tt,tt,tt,ff,ff,ff,ff,ff,ff,ff,ff,ff,ff] (v := ?uv16) rfl rfl rfl (by kernel_rfl) (Or.inl ⟨by rfl, ?uy16⟩) (MF.out) ?urest16
        case uy16 => (intro _ _; go_simp; try with_reducible rfl)
        (try simp only [sI, sS, sZ])
        refine go_take2 4 22 #[tt,tt,tt,tt,tt,ff,ff,ff,ff,ff,ff,ff,ff,ff] rfl rfl rfl (by kernel_rfl) (yieldsIf_loadc (by rfl) 91 _ rfl (w.heap.size) (j) rfl (.int .u32 (x : Int)) _ (fun _ h => (by rw [Has.cell h j hjK, Hfx.out])) Try.underlying91 rfl) (MF.out) ?_
        (try simp only [sI, sS, sZ])
        refine go_take2 5 23 #[tt,tt,tt,tt,tt,tt,ff,ff,ff,ff,ff,ff,ff,ff] (v := ?uv17) rfl rfl rfl (by kernel_rfl) (Or.inl ⟨by rfl, ?uy17⟩) (MF.out) ?urest17
        case uy17 => (intro _ _; go_simp; try with_reducible rfl)
        (try simp only [sI, sS, sZ])
        refine go_take2 6 24 #[tt,tt,tt,tt,tt,tt,tt,ff,ff,ff,ff,ff,ff,ff] (v := ?uv18) rfl rfl rfl (by kernel_rfl) (Or.inl ⟨by rfl, ?uy18⟩) (MF.out) ?urest18
        case uy18 => (intro _ _; go_simp; try with_reducible rfl)
        (try simp only [sI, sS, sZ])
        refine go_take2 7 25 #[tt,tt,tt,tt,tt,tt,tt,tt,ff,ff,ff,ff,ff,ff] (v := ?uv19) rfl rfl rfl (by kernel_rfl) (Or.inl ⟨by rfl, ?uy19⟩) (MF.out) ?urest19
        case uy19 => (intro _ _; go_simp; try with_reducible rfl)
        (try simp only [sI, sS, sZ])
        refine go_take2 8 26 #[tt,tt,tt,tt,tt,tt,tt,tt,tt,ff,ff,ff,ff,ff] (v := ?uv20) rfl rfl rfl (by kernel_rfl) (Or.inl ⟨by rfl, ?uy20⟩) (MF.out) ?urest20
        case uy20 => (intro _ _; go_simp; try with_reducible rfl)
        (try simp only [sI, sS, sZ])
        refine go_take2 9 27 #[tt,tt,tt,tt,tt,tt,tt,tt,tt,tt,ff,ff,ff,ff] (v := ?uv21) rfl rfl rfl (by kernel_rfl) (Or.inl ⟨by rfl, ?uy21⟩) (MF.out) ?urest21
        case uy21 => (intro _ _; go_simp; try with_reducible rfl)
        (try simp only [sI, sS, sZ])
        refine go_take2 10 28 #[tt,tt,tt,tt,tt,tt,tt,tt,tt,tt,tt,ff,ff,ff] (v := ?uv22) rfl rfl rfl (by kernel_rfl) (Or.inl ⟨by rfl, ?uy22⟩) (MF.out) ?urest22
        case uy22 => (intro _ _; go_simp; try with_reducible rfl)
        (try simp only [sI, sS, sZ])
        refine go_take2 11 29 #[tt,tt,tt,tt,tt,tt,tt,tt,tt,tt,tt,tt,ff,ff] (v := ?uv23) rfl rfl rfl (by kernel_rfl) (Or.inl ⟨by rfl, ?uy23⟩) (MF.out) ?urest23
        case uy23 => (intro _ _; go_simp; try with_reducible rfl)
        (try simp only [sI, sS, sZ])
        refine go_take2 12 30 #[tt,tt,tt,tt,tt,tt,tt,tt,tt,tt,tt,tt,tt,ff] (v := ?uv24) rfl rfl rfl (by kernel_rfl) (Or.inl ⟨by rfl, ?uy24⟩) (MF.out) ?urest24
        case uy24 => (intro _ _; go_simp; try with_reducible rfl)
        (try simp only [sI, sS, sZ])
        refine wpBut_r1 (i := 13) (by kernel_rfl) ?_
        refine go_storec 13 #[tt,tt,tt,tt,tt,tt,tt,tt,tt,tt,tt,tt,tt,tt] rfl rfl rfl (by rfl) 91 _ _ rfl (w.heap.size) (j) (.int .u32 ((v : Int))) rfl rfl (by rw [MF.out.cell j hjK]; rfl) (MF.out.frozen _) (by kernel_rfl) rfl rfl ⟨fun h => (h rfl).elim, ?_⟩
        have kq := MF.out.set (j) ((v : Int)); rw [Hfu.out] at kq; clear MF; have MF := Lib.hid kq; clear kq
        replace HB := Lib.hid (HB.out.setCell (p := ⟨w.heap.size, j, none⟩) (show w.heap.size ≤ w.heap.size by omega) (.int .u32 ((v : Int))))
        obtain ⟨yw102, hwyw102⟩ : ∃ ww, ww = yw101.setCell ⟨w.heap.size, j, none⟩ (.int .u32 ((v : Int))) := ⟨_, rfl⟩
        rw [← hwyw102] at MF HB ⊢
        clear hwyw102
        (try simp only [sI, sS, sZ])
        refine wpBut_done (by kernel_rfl) (NoPanic.normal ?_)
        repeat ((fail_if_success (with_reducible (show wpList _ _ _ _ _ _))); go_step)
        iterate 2 (refine wpList_step (fun K hK => ?_); go_simp; (try go_bits); refine hK _ _ ?_; clear hK K)
        refine wpList_nil ?_
        go_roundw
        case measure => simp [intOf]; omega
        case rel => (repeat apply Exists.intro); exact ⟨⟨k + 1, by omega, by go_num, MF.out, HB.out⟩, rfl⟩
    · have hkl : k = len := by omega
      subst hkl
      clear hk hge
      have mF2 := mF
      rw [Hfin.out] at mF2
      have MF := Lib.hid mF; clear mF
      have HB := Lib.hid hB; clear hB
      repeat ((fail_if_success (with_reducible (show wpList _ _ _ _ _ _))); go_step)
      (refine wpList_step (fun K hK => ?_); go_simp; (try go_bits); refine hK _ _ ?_; clear hK K)
      refine wpList_nil ?_
      repeat ((fail_if_success (with_reducible (show wpList _ _ _ _ _ _))); go_step)
      iterate 2 (refine wpList_step (fun K hK => ?_); go_simp; (try go_bits); refine hK _ _ ?_; clear hK K)
      refine wpList_nil ?_
      go_wp2_with fail
      go_ret
      exact ⟨⟨_, Nat.le_refl _, rfl, mF2⟩, HB.out⟩
end Go.Proofs.Ytjiagjonlcadiaa
end
section
namespace Go.Proofs.Ytjiagjonlcadiaa
open Go.RowKit Go.Lib Go.Shelf

attribute [local go_sem] Oper.semAt_some

theorem al90 (w : World) : (Instr.alloc 90 true (.tuple #[])).run Try.prog w = .ok (.pointer (some ⟨w.heap.size, 0, none⟩)) (w.alloc (.cells #[.pointer none] 90)) := by go_simp
theorem bd93z : Try.prog.built 93 [] = some (r17 0) := by kernel_rfl
theorem z24k : ((#[.int .u8 0, .int .u8 0, .int .u8 0, .int .u8 0, .int .u8 0, .int .u8 0, .int .u8 0, .int .u8 0, .int .u8 0, .int .u8 0, .int .u8 0, .int .u8 0, .int .u8 0, .int .u8 0, .int .u8 0, .int .u8 0, .int .u8 0, .int .u8 0, .int .u8 0, .int .u8 0, .int .u8 0, .int .u8 0, .int .u8 0, .int .u8 0, .int .u8 0, .int .u8 0, .int .u8 0, .int .u8 0, .int .u8 0, .int .u8 0, .int .u8 0, .int .u8 0] : Array Value)) = k32 0 := by kernel_rfl
theorem top_step (N len k : Nat) (hk : k < len) : N / 65536 ^ (len - k) * 65536 + N / 65536 ^ (len - 1 - k) % 65536 = N / 65536 ^ (len - (k + 1)) := by
  rw [show len - k = len - 1 - k + 1 by omega, show len - (k + 1) = len - 1 - k by omega, Nat.pow_succ, ← Nat.div_div_eq_div_mul]
  omega
theorem bit_step (T f j b : Nat) (hj : j < 16) (hb : f / 2 ^ j % 2 = b) : 2 * (T * 2 ^ (16 - (j + 1)) + f / 2 ^ (j + 1)) + b = T * 2 ^ (16 - j) + f / 2 ^ j := by
  rw [show 16 - j = 16 - (j + 1) + 1 by omega, Nat.pow_succ 2 (16 - (j + 1)), Nat.pow_succ 2 j, ← Nat.div_div_eq_div_mul, ← Nat.mul_assoc]
  generalize T * 2 ^ (16 - (j + 1)) = P
  generalize f / 2 ^ j = q at *
  omega
theorem bit_rest (X b : Nat) : (2 * (X % L0) + b) % L0 = (2 * X + b) % L0 := by
  rw [Nat.add_mod, Nat.mul_mod, Nat.mod_mod, ← Nat.mul_mod, ← Nat.add_mod]
theorem bit_and (f j b : Nat) (hf : f < 65536) (hb : f / 2 ^ j % 2 = b) : bits .and .u32 ((f : Int) / 2 ^ j) 1 = (b : Int) := by
  have e : ((f : Int) / 2 ^ j) = ((f / 2 ^ j : Nat) : Int) := by rw [Int.natCast_ediv, Int.natCast_pow]; rfl
  have hl : f / 2 ^ j ≤ f := Nat.div_le_self _ _
  rw [e]
  generalize f / 2 ^ j = q at *
  have h := bits_mask .u32 32 (by decide) wu32 1 (by decide) (q : Int) (by omega) (by omega)
  rw [show ((2 : Int) ^ 1 - 1) = 1 by decide] at h
  rw [h, ← hb]
  omega

/-- so far k bytes of v -/
def mixb (v k : Nat) : Nat → Int := fun j => if j < k then dg 256 v j else 0
theorem mixb_0 (v : Nat) : row .u8 32 (mixb v 0) = k32 0 := row_ext _ _ _ _ fun j _ => by
  unfold mixb dg; rw [if_neg (by omega), Nat.zero_div]; rfl
theorem mixb_32 (v : Nat) : row .u8 32 (mixb v 32) = k32 v := row_ext _ _ _ _ fun j hj => by unfold mixb; rw [if_pos hj]
theorem mixb_upd (v k : Nat) (x : Int) (h : x = dg 256 v k) : upd (mixb v k) k x = mixb v (k + 1) := by
  funext j
  unfold upd mixb
  by_cases e : j = k
  · rw [if_pos e, if_pos (by omega), h, e]
  · rw [if_neg e]
    by_cases e2 : j < k
    · rw [if_pos e2, if_pos (by omega)]
    · rw [if_neg e2, if_neg (by omega)]
/-- block D holds the rounds' calls that were put off: none -/
def DefAt0 (W : World) (D : Nat) : Prop := W.heap[D]? = some (.deferred (some []))
section
variable {W W' : World} {D : Nat}
theorem DefAt0.call (h : DefAt0 W D) (hb : Below W.heap.size W W') : DefAt0 W' D := (hb.block D (Array.getElem?_eq_some_iff.1 h).1).trans h
theorem DefAt0.other (h : DefAt0 W D) (a : Addr) (v : Value) (hb : D ≠ a.block) : DefAt0 (W.setCell a v) D := (heap_setCell_other W a D v hb).trans h
theorem DefAt0.setRow_other (h : DefAt0 W D) (g : Nat) (c : Array Value) (hg : D ≠ g) : DefAt0 (W.setRow g c) D := (Go.setRow_other W g D c hg).trans h
end

set_option maxRecDepth 100000 in
set_option linter.unusedSimpArgs false in
set_option linter.unusedVariables false in
set_option maxHeartbeats 8000000 in
theorem divide_any (b len cap N : Nat) (hlen : len ≤ 1000) (hN : N < 65536 ^ len) (w : World) (hf : Figs w b len (dg 65536 N)) :
    Calls Try.prog 69 #[.slice (some ⟨b, 0, none⟩) len cap] w fun e w' => e = .returned (.agg (k32 (N % L0))) ∧ Below w.heap.size w w' := by
  have hb0 := hf.lt
  have MG := Lib.hid hf
  have HN := Lib.hid hN
  clear hf hN
  refine (callsIn_wide (n := 3)).1 (callsIn_of_wp_marks Try.func69 rfl trivial (wpIn_wide.2 ?_) rfl)
  simp only [Try.ntmps69, List.size_toArray, List.length_cons, List.length_nil, Nat.reduceAdd, Nat.reduceSub, Array.replicate_succ, Array.replicate_zero, List.push_toArray, List.append_toArray, List.nil_append, List.cons_append]
  repeat ((fail_if_success (with_reducible (show wpList _ _ _ _ _ _))); go_step)
  (refine wpList_step (fun K hK => ?_); go_simp; (try go_bits); refine hK _ _ ?_; clear hK K)
  refine wpList_nil ?_
  rw [z24k]
  have M2 := Lib.hid (Has.new w (k32 0) 24)
  have HB := Lib.hid (below_1 w (.cells (k32 0) 24))
  replace MG := Lib.hid (MG.out.alloc (.cells (k32 0) 24))
  obtain ⟨yw1, hwyw1⟩ : ∃ ww, ww = w.alloc (.cells (k32 0) 24) := ⟨_, rfl⟩
  rw [← hwyw1] at MG M2 HB ⊢
  clear hwyw1
  repeat ((fail_if_success (with_reducible (show wpList _ _ _ _ _ _))); go_step)
  refine wpList_built (by rfl) 93 _ rfl _ (by rfl) (r17 0) (bd93z) 7 rfl ?_
  (try simp only [Act.put, sI, sS, sZ])
  have gR := M2.out.lt
  refine wpList_step (fun K hK => ?_)
  go_simp
  refine hK _ _ ?_
  clear hK K
  have hb := below_1 yw1 (.cells (r17 0) 93)
  have nwMR := Has.new yw1 (r17 0) 93
  obtain ⟨yw2, hwyw2⟩ : ∃ ww, ww = yw1.alloc (.cells (r17 0) 93) := ⟨_, rfl⟩
  rw [← hwyw2] at hb nwMR ⊢
  clear hwyw2
  replace MG := Lib.hid (MG.out.call hb)
  replace M2 := Lib.hid (M2.out.call hb)
  replace HB := Lib.hid (held_next HB.out hb)
  clear hb
  have MR := Lib.hid nwMR; clear nwMR
  (try simp only [Act.put, sI, sS, sZ])
  refine wpList_alloc (by rfl) 90 rfl _ al90 3 rfl ?_
  intro yw3 hw2
  have hlt4 := MG.out.lt
  have hlt5 := M2.out.lt
  have hlt6 := MR.out.lt
  have hsz := HB.out.size
  replace MG := Lib.hid (MG.out.alloc (.cells #[.pointer none] 90))
  replace M2 := Lib.hid (M2.out.alloc (.cells #[.pointer none] 90))
  replace MR := Lib.hid (MR.out.alloc (.cells #[.pointer none] 90))
  have MP := Lib.hid (Has.new yw2 #[.pointer none] 90)
  replace HB := Lib.hid (HB.out.alloc hsz (.cells #[.pointer none] 90))
  rw [← hw2] at MG M2 MR MP HB; clear hw2
  (try simp only [Act.put, sI, sS, sZ])
  
  refine wpList_store1 (by rfl) 90 _ _ rfl rfl (yw2.heap.size) (.pointer (some ⟨yw1.heap.size, 0, none⟩)) rfl rfl _ _ MP.out (by kernel_rfl) rfl rfl ?_
  intro yw7 hw2
  replace MG := Lib.hid (MG.out.other ⟨yw2.heap.size, 0, none⟩ (.pointer (some ⟨yw1.heap.size, 0, none⟩)) (show _ ≠ yw2.heap.size by omega))
  replace M2 := Lib.hid (M2.out.other ⟨yw2.heap.size, 0, none⟩ (.pointer (some ⟨yw1.heap.size, 0, none⟩)) (show _ ≠ yw2.heap.size by omega))
  replace MR := Lib.hid (MR.out.other ⟨yw2.heap.size, 0, none⟩ (.pointer (some ⟨yw1.heap.size, 0, none⟩)) (show _ ≠ yw2.heap.size by omega))
  replace MP := Lib.hid (MP.out.setAt 0 (.pointer (some ⟨yw1.heap.size, 0, none⟩)))
  replace HB := Lib.hid (HB.out.setCell (p := ⟨yw2.heap.size, 0, none⟩) (show w.heap.size ≤ yw2.heap.size by omega) (.pointer (some ⟨yw1.heap.size, 0, none⟩)))
  rw [← hw2] at MG M2 MR MP HB; clear hw2
  replace MP : RowKit.Hid (Has yw7 (yw2.heap.size) #[.pointer (some ⟨yw1.heap.size, 0, none⟩)] 90) := MP
  refine wpList_nil ?_
  have gP : yw1.heap.size < yw2.heap.size := by omega
  repeat ((fail_if_success (with_reducible (show wpList _ _ _ _ _ _))); go_step)
  have MYl := MP.out.lt
  (refine wpList_step (fun K hK => ?_); go_simp; (try go_bits); refine hK _ _ ?_; clear hK K)
  refine wpList_call (by rfl) rfl rfl (by rfl) ent103 (by rfl) (bkf_call _ _ _ _) 10 rfl ?_
  rintro e uw1 ⟨⟨rfl, hbs⟩, hb⟩
  replace MG := Lib.hid (MG.out.call hb)
  replace M2 := Lib.hid (M2.out.call hb)
  replace MR := Lib.hid (MR.out.call hb)
  replace MP := Lib.hid (MP.out.call hb)
  replace HB := Lib.hid (held_next HB.out hb)
  have MS := Lib.hid hbs; clear hbs
  refine ⟨_, rfl, ?_⟩
  clear hb
  (try simp only [Act.put, sI, sS, sZ])
  refine wpList_nil ?_
  obtain ⟨BS, hBS⟩ : ∃ B, B = yw7.heap.size := ⟨_, rfl⟩
  rw [← hBS] at MS MYl ⊢
  clear hBS
  repeat ((fail_if_success (with_reducible (show wpList _ _ _ _ _ _))); go_step)
  have hlS := MS.out.lt
  have hlb := MG.out.lt
  have hsz := HB.out.size
  have hst := bkf_seq BS b len cap (dg 65536 N) (by omega) uw1 MS.out MG.out
  have hf : ∀ (k : Nat) (t : Array Value), ((#[11] : Array Tmp).zip #[Value.int .u32 (dg 65536 N (len - 1 - k))]).foldl (fun t (p, v) => t.setIfInBounds p v) t = t.setIfInBounds 11 (.int .u32 (dg 65536 N (len - 1 - k))) := fun k t => by simp
  refine range_z (gf := 115) (lb := #[.pointer (some ⟨BS, 0, none⟩)]) rfl ent115 hst (Below.refl _ _) (fun _ => rfl) (fun j hj => by rcases hj with rfl | rfl <;> omega)
    (fun s k V => uw1.heap.size ≤ s ∧ Has V yw1.heap.size (r17 (N / 65536 ^ (len - k) % L0)) 93 ∧ Has V yw2.heap.size #[.pointer (some ⟨yw1.heap.size, 0, none⟩)] 90 ∧ Has V w.heap.size (k32 0) 24 ∧ Below w.heap.size w V) ?h0 ?hz (fun k t => t.setIfInBounds 4 (.int .u32 (dg 65536 N (len - 1 - k)))) ?assign ?body ?done
  case h0 =>
    intro W1 hb hs
    refine ⟨hb.size, ?_, MP.out.below hb (by omega), M2.out.below hb (by omega), HB.out.trans (hb.mono hsz)⟩
    have := MR.out.below hb (by omega)
    rwa [Nat.sub_zero, Nat.div_eq_of_lt HN.out, Nat.zero_mod]
  case hz =>
    rintro s k A B ⟨h1, h2, h3, h4, h5⟩ hq
    exact ⟨h1, (hq.block _ (by omega)).trans h2, (hq.block _ (by omega)).trans h3, (hq.block _ (by omega)).trans h4, hq.below h5 hsz⟩
  case assign =>
    intro m l2 k V K hK
    simp only [hf, sI, sS, sZ] at hK ⊢
    gi_wp2
    exact hK
  case body =>
    rintro m l2 s k V hs hsV hk ⟨h1, h2, h3, h4, h5⟩
    obtain ⟨f, hfd⟩ : ∃ f, N / 65536 ^ (len - 1 - k) % 65536 = f := ⟨_, rfl⟩
    have lf : f < 65536 := by omega
    have htop := top_step N len k hk
    rw [hfd] at htop
    have hfd2 : dg 65536 N (len - 1 - k) = (f : Int) := by rw [dg_nat, hfd]
    obtain ⟨T, hT⟩ : ∃ T, T = N / 65536 ^ (len - k) := ⟨_, rfl⟩
    rw [← hT] at h2 htop
    have Htop := Lib.hid htop
    simp only [hf, hfd2, sI, sS, sZ]
    have KO := But.refl yw1.heap.size V
    clear hf hst MG M2 MR MP MS HB hfd hfd2 hT htop
    have MR := Lib.hid h2
    have MP := Lib.hid h3
    have M2 := Lib.hid h4
    have HB := Lib.hid h5
    replace KO := Lib.hid KO
    clear h2 h3 h4 h5
    repeat ((fail_if_success (with_reducible (show wpListIn _ _ _ _ _ _ _ _))); gi_step)
    refine wpr_lit (by kernel_rfl) ?_
    (refine wpList_step (fun K hK => ?_); go_simp; (try go_bits); refine hK _ _ ?_; clear hK K)
    refine wpList_nil ?_
    repeat ((fail_if_success (with_reducible (show wpListIn _ _ _ _ _ _ _ _))); gi_step)
    gi_loopw [5] (fun i wr => ∃ j : Nat, j ≤ 16 ∧ i = .int .i64 ((j : Int) - 1) ∧ Has wr yw1.heap.size (r17 ((T * 2 ^ (16 - j) + f / 2 ^ j) % L0)) 93 ∧ Has wr yw2.heap.size #[.pointer (some ⟨yw1.heap.size, 0, none⟩)] 90 ∧ Has wr w.heap.size (k32 0) 24 ∧ But yw1.heap.size V wr ∧ Below w.heap.size w wr) (fun i _ => (intOf i + 1).toNat)
    case atStart =>
      refine ⟨16, Nat.le_refl _, rfl, ?_, MP.out, M2.out, KO.out, HB.out⟩
      rw [show T * 2 ^ (16 - 16) + f / 2 ^ 16 = T by rw [Nat.sub_self, Nat.pow_zero, Nat.mul_one, Nat.div_eq_of_lt (show f < 2 ^ 16 by omega), Nat.add_zero]]
      exact MR.out
    case round =>
      clear MR MP M2 HB KO
      obtain ⟨j, hj, rfl, mR, mP, m2, kO, hB⟩ := hrel
      have MR := Lib.hid mR; clear mR
      have MP := Lib.hid mP; clear mP
      have M2 := Lib.hid m2; clear m2
      have KO := Lib.hid kO; clear kO
      have HB := Lib.hid hB; clear hB
      rcases Nat.eq_zero_or_pos j with hj0 | hj0
      · subst hj0
        repeat ((fail_if_success (with_reducible (show wpListIn _ _ _ _ _ _ _ _))); gi_step)
        refine wpr_lit (by kernel_rfl) ?_
        iterate 2 (refine wpList_step (fun K hK => ?_); go_simp; (try go_bits); refine hK _ _ ?_; clear hK K)
        refine wpList_nil ?_
        repeat ((fail_if_success (with_reducible (show wpListIn _ _ _ _ _ _ _ _))); gi_step)
        have hfin := MR.out
        rw [Nat.sub_zero, Nat.pow_zero, Nat.div_one, show (2 : Nat) ^ 16 = 65536 by decide, Htop.out] at hfin
        exact ⟨⟨h1, hfin, MP.out, M2.out, HB.out⟩, KO.out.size, fun q hq => KO.out.block q (by rcases hq with ⟨_, h⟩ | rfl | rfl <;> omega) (by rcases hq with ⟨h, _⟩ | rfl | rfl <;> omega)⟩
      · obtain ⟨i, rfl⟩ : ∃ i, j = i + 1 := ⟨j - 1, by omega⟩
        rw [show ((i + 1 : Nat) : Int) - 1 = (i : Int) by omega]
        have hi16 : i < 16 := by omega
        obtain ⟨bt, hbt⟩ : ∃ bt, f / 2 ^ i % 2 = bt := ⟨_, rfl⟩
        have lbt : bt < 2 := by omega
        have hand := bit_and f i bt lf hbt
        have hwj : IntKind.i64.wrap (i : Int) = (i : Int) := by rw [IntKind.wrap_i64]; omega
        have hstep := bit_step T f i bt hi16 hbt
        obtain ⟨X, hX⟩ : ∃ X, X = T * 2 ^ (16 - (i + 1)) + f / 2 ^ (i + 1) := ⟨_, rfl⟩
        rw [← hX] at hstep MR
        have hbr := bit_rest X bt
        rw [hstep] at hbr
        clear hX hj hj0 hbt hstep
        have Hbr := Lib.hid hbr; clear hbr
        repeat ((fail_if_success (with_reducible (show wpListIn _ _ _ _ _ _ _ _))); gi_step)
        refine wpr_lit (by kernel_rfl) ?_
        iterate 2 (refine wpList_step (fun K hK => ?_); go_simp; (try go_bits); refine hK _ _ ?_; clear hK K)
        refine wpList_nil ?_
        repeat ((fail_if_success (with_reducible (show wpListIn _ _ _ _ _ _ _ _))); gi_step)
        refine wpr_noPanic ?_
        refine wpr_goS (fun w' => Has w' (yw2.heap.size) (#[.pointer (some ⟨yw1.heap.size, 0, none⟩)]) 90) 99 6 #[ff,ff,ff,ff,ff,ff] (by kernel_rfl) rfl rfl ?_
        replace MR := Lib.hid (MR.out.drew)
        replace MP := Lib.hid (MP.out.drew)
        replace M2 := Lib.hid (M2.out.drew)
        replace KO := Lib.hid (KO.out.drew)
        replace HB := Lib.hid (below_drewN HB.out 1)
        obtain ⟨yw401, hwyw401⟩ : ∃ ww, ww = wr.drew := ⟨_, rfl⟩
        rw [← hwyw401] at MR MP M2 KO ⊢
        have kq : Below w.heap.size w yw401 := by rw [hwyw401]; exact HB.out
        clear HB; have HB := Lib.hid kq; clear kq hwyw401
        refine go_take2 0 16 #[tt,ff,ff,ff,ff,ff] rfl rfl rfl (by kernel_rfl) (yieldsIf_load1 (by rfl) 90 _ rfl (yw2.heap.size) rfl (.pointer (some ⟨yw1.heap.size, 0, none⟩)) _ (fun _ h => Has.one (h)) Try.underlying90 rfl) (MP.out) ?_
        (try simp only [sI, sS, sZ])
        refine go_take2 1 17 #[tt,tt,ff,ff,ff,ff] (v := ?uv1) rfl rfl rfl (by kernel_rfl) (Or.inl ⟨by rfl, ?uy1⟩) (MP.out) ?urest1
        case uy1 => (intro _ _; go_simp; try with_reducible rfl)
        (try simp only [sI, sS, sZ])
        refine go_take2 2 18 #[tt,tt,tt,ff,ff,ff] (v := ?uv2) rfl rfl rfl (by kernel_rfl) (Or.inl ⟨by rfl, ?uy2⟩) (MP.out) ?urest2
        case uy2 => (intro _ _; go_simp; try with_reducible rfl)
        (try simp only [sI, sS, sZ])
        refine go_take2 3 19 #[tt,tt,tt,tt,ff,ff] (v := ?uv3) rfl rfl rfl (by kernel_rfl) (Or.inl ⟨by rfl, ?uy3⟩) (MP.out) ?urest3
        case uy3 => (intro _ _; go_simp; try with_reducible rfl)
        (try simp only [sI, sS, sZ])
        refine go_take2 4 20 #[tt,tt,tt,tt,tt,ff] (v := ?uv4) rfl rfl rfl (by kernel_rfl) (Or.inl ⟨by rfl, ?uy4⟩) (MP.out) ?urest4
        case uy4 => (intro _ _; go_simp; try with_reducible rfl)
        (try simp only [sI, sS, sZ])
        refine wpBut_r1 (i := 5) (by kernel_rfl) ?_
        refine go_call 5 21 #[tt,tt,tt,tt,tt,tt] rfl rfl rfl (by rfl) rfl rfl (by rfl) ent104 (by rfl) (bit_any yw1.heap.size (X % L0) bt (Nat.mod_lt _ (by decide)) lbt _ MR.out) ?_
        rintro e uw401 ⟨rfl, hmU, hb⟩
        replace MR := Lib.hid hmU; clear hmU
        replace MP := Lib.hid (MP.out.but hb (by omega))
        replace M2 := Lib.hid (M2.out.but hb (by omega))
        replace KO := Lib.hid (But.trans KO.out hb)
        replace HB := Lib.hid (below_but HB.out hb (by omega) HB.out.size)
        rw [Hbr.out] at MR
        clear hb
        refine ⟨_, rfl, fun _ => MP.out, ?_⟩
        (try simp only [sI, sS, sZ])
        refine wpBut_done (by kernel_rfl) (NoPanic.normal ?_)
        clear hand hwj
        repeat ((fail_if_success (with_reducible (show wpListIn _ _ _ _ _ _ _ _))); gi_step)
        refine wpr_lit (by kernel_rfl) ?_
        iterate 3 (refine wpList_step (fun K hK => ?_); go_simp; (try go_bits); refine hK _ _ ?_; clear hK K)
        refine wpList_nil ?_
        go_roundw
        case measure => simp [intOf]
        case rel => (repeat apply Exists.intro); exact ⟨⟨i, by omega, rfl, MR.out, MP.out, M2.out, KO.out, HB.out⟩, rfl⟩
  case done =>
    rintro s V hs hsV ⟨h1, h2, h3, h4, h5⟩ hD
    rw [Nat.sub_self, Nat.pow_zero, Nat.div_one] at h2
    obtain ⟨v, hv⟩ : ∃ v, v = N % L0 := ⟨_, rfl⟩
    rw [← hv] at h2
    have Hv := Lib.hid hv
    have hD2 : DefAt0 V uw1.heap.size := hD
    clear hf hst MG M2 MR MP MS HB HN hv hD
    have m2 := h4
    rw [← mixb_0 v] at m2
    have MR := Lib.hid h2
    have MP := Lib.hid h3
    have M2 := Lib.hid m2
    have HB := Lib.hid h5
    have MD := Lib.hid hD2
    clear h2 h3 h4 h5 m2 hD2
    repeat ((fail_if_success (with_reducible (show wpList _ _ _ _ _ _))); go_step)
    (refine wpList_step (fun K hK => ?_); go_simp; (try go_bits); refine hK _ _ ?_; clear hK K)
    refine wpList_nil ?_
    repeat ((fail_if_success (with_reducible (show wpList _ _ _ _ _ _))); go_step)
    go_loopw [22] (fun i wr => ∃ k : Nat, k ≤ 32 ∧ i = .int .i64 (k : Int) ∧ Has wr yw1.heap.size (r17 v) 93 ∧ Has wr yw2.heap.size #[.pointer (some ⟨yw1.heap.size, 0, none⟩)] 90 ∧ Has wr w.heap.size (row .u8 32 (mixb v k)) 24 ∧ DefAt0 wr uw1.heap.size ∧ Below w.heap.size w wr) (fun i _ => (32 - (intOf i).toNat))
    case atStart => exact ⟨0, by omega, rfl, MR.out, MP.out, M2.out, MD.out, HB.out⟩
    case round =>
      clear MR MP M2 MD HB
      obtain ⟨k, hk, rfl, mR, mP, m2, mD, hB⟩ := hrel
      have MR := Lib.hid mR; clear mR
      have MP := Lib.hid mP; clear mP
      have M2 := Lib.hid m2; clear m2
      have MD := Lib.hid mD; clear mD
      have HB := Lib.hid hB; clear hB
      rcases Nat.lt_or_ge k 32 with hlt | hge
      · have kq : (k : Int) < 32 := by omega
        obtain ⟨j, hj⟩ : ∃ j, j = k / 2 := ⟨_, rfl⟩
        have hj17 : j < 17 := by omega
        have hjb : (j : Int) < 17 := by omega
        obtain ⟨x, hx⟩ : ∃ x, v / 65536 ^ j % 65536 = x := ⟨_, rfl⟩
        have lx : x < 65536 := by omega
        have hpc := MP.out.one
        have hc1 : wr.cell? ⟨yw1.heap.size, j, none⟩ = some (.int .u32 (x : Int)) := by
          have h := MR.out
          unfold r17 at h
          rw [h.cell j hj17, dg_nat, hx]
        have hcw : wr.cell? ⟨w.heap.size, k, none⟩ = some (.int .u8 0) := by rw [M2.out.cell k hlt]; unfold mixb; rw [if_neg (by omega)]
        have hfz := M2.out.frozen k
        have hdt := dg_two v j
        rw [dg_nat, hx, dg_nat, dg_nat] at hdt
        have hq1 : (k : Int).tdiv 2 = (j : Int) := by rw [Int.tdiv_eq_ediv_of_nonneg (by omega)]; omega
        have hq2 : (k : Int) / 2 = (j : Int) := by omega
        rcases Nat.mod_two_eq_zero_or_one k with he | he
        · have hm1 : (k : Int).tmod 2 = 0 := by rw [Int.tmod_eq_emod_of_nonneg (by omega)]; omega
          have hm2 : (k : Int) % 2 = 0 := by omega
          have hk2 : k = 2 * j := by omega
          obtain ⟨y, hy⟩ : ∃ y, y = x % 256 := ⟨_, rfl⟩
          have hwx : IntKind.u8.wrap (x : Int) = (y : Int) := by rw [IntKind.wrap_u8]; omega
          have hwx2 : (x : Int) % 256 = (y : Int) := by omega
          have hup : (y : Int) = dg 256 v k := by rw [dg_nat, hk2]; omega
          clear hj hy hdt hk2
          have Hx := Lib.hid hx; clear hx
          have Hup := Lib.hid hup; clear hup
          have He := Lib.hid he; clear he
          repeat ((fail_if_success (with_reducible (show wpList _ _ _ _ _ _))); go_step)
          (refine wpList_step (fun K hK => ?_); go_simp; (try go_bits); refine hK _ _ ?_; clear hK K)
          refine wpList_nil ?_
          repeat ((fail_if_success (with_reducible (show wpList _ _ _ _ _ _))); go_step)
          iterate 2 (refine wpList_step (fun K hK => ?_); go_simp; (try go_bits); refine hK _ _ ?_; clear hK K)
          refine wpList_nil ?_
          repeat ((fail_if_success (with_reducible (show wpList _ _ _ _ _ _))); go_step)
          iterate 14 (refine wpList_step (fun K hK => ?_); go_simp; (try go_bits); refine hK _ _ ?_; clear hK K)
          
          have kq := M2.out.set (k) ((y : Int)); rw [mixb_upd v k _ Hup.out] at kq; clear M2; have M2 := Lib.hid kq; clear kq
          have kq := MR.out.other ⟨w.heap.size, k, none⟩ (.int .u8 ((y : Int))) (by simp <;> omega); clear MR; have MR := Lib.hid kq; clear kq
          have kq := MP.out.other ⟨w.heap.size, k, none⟩ (.int .u8 ((y : Int))) (by simp <;> omega); clear MP; have MP := Lib.hid kq; clear kq
          have kq := MD.out.other ⟨w.heap.size, k, none⟩ (.int .u8 ((y : Int))) (by simp <;> omega); clear MD; have MD := Lib.hid kq; clear kq
          replace HB := Lib.hid (HB.out.setCell (p := ⟨w.heap.size, k, none⟩) (show w.heap.size ≤ w.heap.size by omega) (.int .u8 ((y : Int))))
          obtain ⟨yw601, hwyw601⟩ : ∃ ww, ww = wr.setCell ⟨w.heap.size, k, none⟩ (.int .u8 ((y : Int))) := ⟨_, rfl⟩
          rw [← hwyw601] at MR MP M2 MD HB ⊢
          clear hwyw601
          refine wpList_nil ?_
          clear hc1 hcw hfz hpc hwx hwx2 hm1 hm2 hq1 hq2
          repeat ((fail_if_success (with_reducible (show wpList _ _ _ _ _ _))); go_step)
          iterate 2 (refine wpList_step (fun K hK => ?_); go_simp; (try go_bits); refine hK _ _ ?_; clear hK K)
          refine wpList_nil ?_
          go_roundw
          case measure => simp [intOf]; omega
          case rel => (repeat apply Exists.intro); exact ⟨⟨k + 1, by omega, by go_num, MR.out, MP.out, M2.out, MD.out, HB.out⟩, rfl⟩
        · have hm1 : (k : Int).tmod 2 = 1 := by rw [Int.tmod_eq_emod_of_nonneg (by omega)]; omega
          have hm2 : (k : Int) % 2 = 1 := by omega
          have hk2 : k = 2 * j + 1 := by omega
          obtain ⟨y, hy⟩ : ∃ y, y = x / 256 := ⟨_, rfl⟩
          have hwx2 : (x : Int) / 256 = (y : Int) := by omega
          have hwx : IntKind.u8.wrap (y : Int) = (y : Int) := by rw [IntKind.wrap_u8]; omega
          have hwx3 : (y : Int) % 256 = (y : Int) := by omega
          have hup : (y : Int) = dg 256 v k := by rw [dg_nat, hk2]; omega
          clear hj hy hdt hk2
          have Hx := Lib.hid hx; clear hx
          have Hup := Lib.hid hup; clear hup
          have He := Lib.hid he; clear he
          repeat ((fail_if_success (with_reducible (show wpList _ _ _ _ _ _))); go_step)
          (refine wpList_step (fun K hK => ?_); go_simp; (try go_bits); refine hK _ _ ?_; clear hK K)
          refine wpList_nil ?_
          repeat ((fail_if_success (with_reducible (show wpList _ _ _ _ _ _))); go_step)
          iterate 2 (refine wpList_step (fun K hK => ?_); go_simp; (try go_bits); refine hK _ _ ?_; clear hK K)
          refine wpList_nil ?_
          repeat ((fail_if_success (with_reducible (show wpList _ _ _ _ _ _))); go_step)
          iterate 14 (refine wpList_step (fun K hK => ?_); go_simp; (try go_bits); refine hK _ _ ?_; clear hK K)
          
          have kq := M2.out.set (k) ((y : Int)); rw [mixb_upd v k _ Hup.out] at kq; clear M2; have M2 := Lib.hid kq; clear kq
          have kq := MR.out.other ⟨w.heap.size, k, none⟩ (.int .u8 ((y : Int))) (by simp <;> omega); clear MR; have MR := Lib.hid kq; clear kq
          have kq := MP.out.other ⟨w.heap.size, k, none⟩ (.int .u8 ((y : Int))) (by simp <;> omega); clear MP; have MP := Lib.hid kq; clear kq
          have kq := MD.out.other ⟨w.heap.size, k, none⟩ (.int .u8 ((y : Int))) (by simp <;> omega); clear MD; have MD := Lib.hid kq; clear kq
          replace HB := Lib.hid (HB.out.setCell (p := ⟨w.heap.size, k, none⟩) (show w.heap.size ≤ w.heap.size by omega) (.int .u8 ((y : Int))))
          obtain ⟨yw601, hwyw601⟩ : ∃ ww, ww = wr.setCell ⟨w.heap.size, k, none⟩ (.int .u8 ((y : Int))) := ⟨_, rfl⟩
          rw [← hwyw601] at MR MP M2 MD HB ⊢
          clear hwyw601
          refine wpList_nil ?_
          clear hc1 hcw hfz hpc hwx hwx2 hwx3 hm1 hm2 hq1 hq2
          repeat ((fail_if_success (with_reducible (show wpList _ _ _ _ _ _))); go_step)
          iterate 2 (refine wpList_step (fun K hK => ?_); go_simp; (try go_bits); refine hK _ _ ?_; clear hK K)
          refine wpList_nil ?_
          go_roundw
          case measure => simp [intOf]; omega
          case rel => (repeat apply Exists.intro); exact ⟨⟨k + 1, by omega, by go_num, MR.out, MP.out, M2.out, MD.out, HB.out⟩, rfl⟩
      · have hk32 : k = 32 := by omega
        subst hk32
        clear hk hge
        rw [mixb_32] at M2
        repeat ((fail_if_success (with_reducible (show wpList _ _ _ _ _ _))); go_step)
        (refine wpList_step (fun K hK => ?_); go_simp; (try go_bits); refine hK _ _ ?_; clear hK K)
        refine wpList_nil ?_
        repeat ((fail_if_success (with_reducible (show wpList _ _ _ _ _ _))); go_step)
        refine wpList_load (by rfl) 24 _ rfl (w.heap.size) rfl 24 (k32 v) M2.out Try.underlying24 rfl (by rw [k32_size]; kernel_rfl) 39 rfl ?_
        (try simp only [Act.put, sI, sS, sZ])
        first | (obtain ⟨Zq, hZ, mZ⟩ := M2.out) | (obtain ⟨Zq, hZ, mZ⟩ := M2.out.toN (k32_size ..))
        refine wpList_store2 (by rfl) 24 _ _ rfl rfl (w.heap.size) (k32 v) rfl rfl 24 Zq mZ (by rw [k32_size]; kernel_rfl) (hZ.trans (k32_size ..).symm) (row_one _ _ _) ?_
        intro yw601 hw2
        replace MR := Lib.hid (MR.out.setRow_other (w.heap.size) (k32 v) (by omega))
        replace MP := Lib.hid (MP.out.setRow_other (w.heap.size) (k32 v) (by omega))
        replace MD := Lib.hid (MD.out.setRow_other (w.heap.size) (k32 v) (by omega))
        replace M2 := Lib.hid (mZ.setRow (k32 v))
        replace HB := Lib.hid (below_setRow HB.out (w.heap.size) (k32 v) (by omega))
        rw [← hw2] at MR MP MD M2 HB; clear mZ hZ hw2
        refine wpList_nil ?_
        repeat ((fail_if_success (with_reducible (show wpList _ _ _ _ _ _))); go_step)
        refine ⟨by simp, .inl ⟨_, _, rfl, run_takeDeferred MD.out, ?_⟩⟩
        have m2' : Has (World.putObj yw601 uw1.heap.size (.deferred none)) w.heap.size (k32 v) 24 := (World.putObj_heap_other (by omega)).trans M2.out
        have hBD : Below w.heap.size w (World.putObj yw601 uw1.heap.size (.deferred none)) := HB.out.trans (belowK_b (w := w) (Nat.le_refl _) _ _ _ _ hsz MD.out rfl rfl)
        exact ⟨.agg (k32 v), results_cell_row (t := 24) (by rfl) _ _ (w.heap.size) _ _ _ rfl m2' Try.underlying24 rfl (by rw [k32_size]; kernel_rfl), by rw [Hv.out], hBD⟩
end Go.Proofs.Ytjiagjonlcadiaa
end
section
namespace Go.Proofs.Ytjiagjonlcadiaa
open Go.RowKit Go.Lib

theorem ent69 : _root_.Go.Enters Try.prog 69 := ⟨_, Try.func69, by kernel_rfl, by kernel_rfl⟩
theorem ent70 : _root_.Go.Enters Try.prog 70 := ⟨_, Try.func70, by kernel_rfl, by kernel_rfl⟩



theorem p256_32 : (256 : Nat) ^ 32 = 115792089237316195423570985008687907853269984665640564039457584007913129639936 := by decide +kernel
theorem p256_16 : (65536 : Nat) ^ 16 = 115792089237316195423570985008687907853269984665640564039457584007913129639936 := by decide +kernel

end Go.Proofs.Ytjiagjonlcadiaa
end
section
namespace Go.Proofs.Ytjiagjonlcadiaa
open Go.RowKit Go.Lib

theorem info34 : (Try.prog.info? 34).map (fun i => (i.zero, i.size, i.bytes)) = some (some (.int .u64 0), 1, 8) := by kernel_rfl
theorem mkW (w : World) : (Instr.makeSlice 94 (.int .i64 34) (.int .i64 34)).run Try.prog w = .ok (.slice (some ⟨w.heap.size, 0, none⟩) 34 34) (w.alloc (.cells (row .u64 34 fun _ => 0) 34)) := by
  obtain ⟨i0, hi, hz0, hz1, hz2⟩ := info_parts info34
  have h := run_makeSlice (P := Try.prog) w 94 34 i0 _ Try.underlying94 hi hz0 .i64 .i64 34 34 (by decide) (by decide) (by rw [hz1]; decide) (by rw [hz2]; decide) (by decide)
  rw [hz1] at h
  have e : madeCells (Value.int .u64 0).cells 34 = row .u64 34 fun _ => 0 := by
    apply Array.ext_getElem?
    intro j
    by_cases hj : j < 34
    · rw [row_get _ _ _ _ hj]; simp [madeCells, Value.cells, hj, Nat.mod_one]
    · rw [row_none _ _ _ _ hj]; simp [madeCells]; omega
  have h2 : madeCells (Value.int .u64 0).cells ((34 : Int).toNat * 1) = row .u64 34 fun _ => 0 := e
  rw [h2] at h
  exact h
theorem sumf_16 (n : Nat) (hn : n < 65536 ^ 16) : sumf 65536 (dg 65536 n) 16 = n := by
  have := sumf_dg 65536 n 16
  rw [Nat.mod_eq_of_lt hn] at this
  exact this
theorem mul16 (x y : Int) (hx0 : 0 ≤ x) (hx : x < 65536) (hy0 : 0 ≤ y) (hy : y < 65536) : 0 ≤ x * y ∧ x * y ≤ 4294836225 :=
  ⟨Int.mul_nonneg hx0 hy0, by have := Int.mul_le_mul (show x ≤ 65535 by omega) (show y ≤ 65535 by omega) hy0 (by decide); omega⟩
/-- figures carried over: what they make is the number -/
theorem carried (V : Nat) (h o : Nat → Int) (c : Int) (hc : 0 ≤ c) (ho : ∀ j, j < 34 → 0 ≤ o j ∧ o j < 65536) (hV : V < 65536 ^ 34) (hs : sumf 65536 h 34 = V) (he : sumf 65536 h 34 = c * 65536 ^ 34 + sumf 65536 o 34) : row .u32 34 o = row .u32 34 (dg 65536 V) := by
  have h0 := sumf_nonneg 65536 (by decide) o 34 (fun i hi => (ho i hi).1)
  have hp : ((65536 : Int) ^ 34) = ((65536 ^ 34 : Nat) : Int) := by rw [Int.natCast_pow]; rfl
  have hc0 : c = 0 := by
    rcases Int.lt_or_le 0 c with h1 | h1
    · have h2 : 1 * (65536 : Int) ^ 34 ≤ c * 65536 ^ 34 := Int.mul_le_mul_of_nonneg_right (by omega) (Int.le_of_lt (Int.pow_pos (by decide)))
      rw [hs] at he
      rw [hp] at h2 he
      generalize 65536 ^ 34 = P at *
      omega
    · omega
  rw [hc0, Int.zero_mul, Int.zero_add, hs] at he
  refine row_ext _ _ _ _ (sumf_uniq 65536 o V 34 ho he.symm)
theorem carry16 (h o : Nat → Int) (k : Nat) (c n : Int) (he : sumf 65536 h k = c * 65536 ^ k + sumf 65536 o k) (hn : n = h k + c) : sumf 65536 h (k + 1) = n / 65536 * 65536 ^ (k + 1) + sumf 65536 (upd o k (n % 65536)) (k + 1) := by
  show sumf 65536 h k + h k * 65536 ^ k = n / 65536 * 65536 ^ (k + 1) + (sumf 65536 (upd o k (n % 65536)) k + upd o k (n % 65536) k * 65536 ^ k)
  rw [sumf_upd_above _ _ _ _ _ (Nat.le_refl k), upd_same, he, Int.pow_succ]
  have e : n = 65536 * (n / 65536) + n % 65536 := by omega
  generalize n / 65536 = q at *
  generalize n % 65536 = r at *
  have e2 : h k = 65536 * q + r - c := by omega
  rw [e2]
  generalize (65536 : Int) ^ k = P
  grind
theorem figures32 (a : Option Addr) (n : Nat) (hn : n < 115792089237316195423570985008687907853269984665640564039457584007913129639936) (w : World) (hb : Byts w a 32 n) :
    Calls Try.prog 70 #[.slice a 32 32] w fun e w' => (∃ F, w.heap.size ≤ F ∧ e = .returned (.slice (some ⟨F, 0, none⟩) 16 16) ∧ Has w' F (row .u32 16 (dg 65536 n)) 91) ∧ Below w.heap.size w w' :=
  figures_any a 32 32 n (by decide) (by rw [p256_32]; exact hn) w hb
theorem mkK34 (w : World) : (Instr.makeSlice 86 (.int .i64 34) (.int .i64 34)).run Try.prog w = .ok (.slice (some ⟨w.heap.size, 0, none⟩) 34 34) (w.alloc (.cells (row .u32 34 fun _ => 0) 91)) := mkK w 34 (by decide)
theorem p16_34 : (65536 : Nat) ^ 34 = 57586096570152913699974892898380567793532123114264532903689671329431521032595044740083720782129802971518987656109067457577065805510327036019308994315074097345724416 := by decide +kernel

set_option maxRecDepth 100000 in
set_option linter.unusedSimpArgs false in
set_option maxHeartbeats 8000000 in
theorem times3_any (A B C : Nat) (hA : A < 115792089237316195423570985008687907853269984665640564039457584007913129639936) (hB : B < 115792089237316195423570985008687907853269984665640564039457584007913129639936) (hC : C < 115792089237316195423570985008687907853269984665640564039457584007913129639936) (w : World) :
    Calls Try.prog 26 #[.agg (k32 A), .agg (k32 B), .agg (k32 C)] w fun e w' => e = .returned (.agg (k32 ((A * B + C) % L0))) ∧ Below w.heap.size w w' := by
  have hfA := fun a w h => figures32 a A hA w h
  have hfB := fun a w h => figures32 a B hB w h
  have hfC := fun a w h => figures32 a C hC w h
  have hsA := sumf_16 A (by rw [p256_16]; exact hA)
  have hsB := sumf_16 B (by rw [p256_16]; exact hB)
  have hsC := sumf_16 C (by rw [p256_16]; exact hC)
  have hV : A * B + C < 65536 ^ 34 := by
    rw [p16_34]
    have h1 : A * B < 115792089237316195423570985008687907853269984665640564039457584007913129639936 * 115792089237316195423570985008687907853269984665640564039457584007913129639936 := Nat.mul_lt_mul'' hA hB
    omega
  have hdi := fun F w h => divide_any F 34 34 (A * B + C) (by decide) hV w h
  have hdA := fun j => dg65 A j
  have hdB := fun j => dg65 B j
  have hdC := fun j => dg65 C j
  have HfA := Lib.hid hfA; clear hfA
  have HfB := Lib.hid hfB; clear hfB
  have HfC := Lib.hid hfC; clear hfC
  have HsA := Lib.hid hsA; clear hsA
  have HsB := Lib.hid hsB; clear hsB
  have HsC := Lib.hid hsC; clear hsC
  have HV := Lib.hid hV; clear hV
  have Hdi := Lib.hid hdi; clear hdi
  have HdA := Lib.hid hdA; clear hdA
  have HdB := Lib.hid hdB; clear hdB
  have HdC := Lib.hid hdC; clear hdC
  clear hA hB hC
  go_enter Try.func26, Try.ntmps26
  repeat ((fail_if_success (with_reducible (show wpList _ _ _ _ _ _))); go_step)
  iterate 4 (refine wpList_step (fun K hK => ?_); go_simp; (try go_bits); refine hK _ _ ?_; clear hK K)
  refine wpList_nil ?_
  have M3 := Lib.hid ((((Has.new w  (k32 A) 24).alloc (.cells (k32 B) 24)).alloc (.cells (k32 C) 24)).alloc (.cells (#[.int .u8 0, .int .u8 0, .int .u8 0, .int .u8 0, .int .u8 0, .int .u8 0, .int .u8 0, .int .u8 0, .int .u8 0, .int .u8 0, .int .u8 0, .int .u8 0, .int .u8 0, .int .u8 0, .int .u8 0, .int .u8 0, .int .u8 0, .int .u8 0, .int .u8 0, .int .u8 0, .int .u8 0, .int .u8 0, .int .u8 0, .int .u8 0, .int .u8 0, .int .u8 0, .int .u8 0, .int .u8 0, .int .u8 0, .int .u8 0, .int .u8 0, .int .u8 0] : Array Value) 24))
  have M4 := Lib.hid (((Has.new1 w (.cells (k32 A) 24) (k32 B) 24).alloc (.cells (k32 C) 24)).alloc (.cells (#[.int .u8 0, .int .u8 0, .int .u8 0, .int .u8 0, .int .u8 0, .int .u8 0, .int .u8 0, .int .u8 0, .int .u8 0, .int .u8 0, .int .u8 0, .int .u8 0, .int .u8 0, .int .u8 0, .int .u8 0, .int .u8 0, .int .u8 0, .int .u8 0, .int .u8 0, .int .u8 0, .int .u8 0, .int .u8 0, .int .u8 0, .int .u8 0, .int .u8 0, .int .u8 0, .int .u8 0, .int .u8 0, .int .u8 0, .int .u8 0, .int .u8 0, .int .u8 0] : Array Value) 24))
  have M5 := Lib.hid ((Has.new2 w (.cells (k32 A) 24) (.cells (k32 B) 24) (k32 C) 24).alloc (.cells (#[.int .u8 0, .int .u8 0, .int .u8 0, .int .u8 0, .int .u8 0, .int .u8 0, .int .u8 0, .int .u8 0, .int .u8 0, .int .u8 0, .int .u8 0, .int .u8 0, .int .u8 0, .int .u8 0, .int .u8 0, .int .u8 0, .int .u8 0, .int .u8 0, .int .u8 0, .int .u8 0, .int .u8 0, .int .u8 0, .int .u8 0, .int .u8 0, .int .u8 0, .int .u8 0, .int .u8 0, .int .u8 0, .int .u8 0, .int .u8 0, .int .u8 0, .int .u8 0] : Array Value) 24))
  have M6 := Lib.hid (HasN.new3 w (.cells (k32 A) 24) (.cells (k32 B) 24) (.cells (k32 C) 24) (#[.int .u8 0, .int .u8 0, .int .u8 0, .int .u8 0, .int .u8 0, .int .u8 0, .int .u8 0, .int .u8 0, .int .u8 0, .int .u8 0, .int .u8 0, .int .u8 0, .int .u8 0, .int .u8 0, .int .u8 0, .int .u8 0, .int .u8 0, .int .u8 0, .int .u8 0, .int .u8 0, .int .u8 0, .int .u8 0, .int .u8 0, .int .u8 0, .int .u8 0, .int .u8 0, .int .u8 0, .int .u8 0, .int .u8 0, .int .u8 0, .int .u8 0, .int .u8 0] : Array Value) 24 32 (by kernel_rfl))
  have HB := Lib.hid (below_4 w (.cells (k32 A) 24) (.cells (k32 B) 24) (.cells (k32 C) 24) (.cells (#[.int .u8 0, .int .u8 0, .int .u8 0, .int .u8 0, .int .u8 0, .int .u8 0, .int .u8 0, .int .u8 0, .int .u8 0, .int .u8 0, .int .u8 0, .int .u8 0, .int .u8 0, .int .u8 0, .int .u8 0, .int .u8 0, .int .u8 0, .int .u8 0, .int .u8 0, .int .u8 0, .int .u8 0, .int .u8 0, .int .u8 0, .int .u8 0, .int .u8 0, .int .u8 0, .int .u8 0, .int .u8 0, .int .u8 0, .int .u8 0, .int .u8 0, .int .u8 0] : Array Value) 24))
  obtain ⟨yw1, hwyw1⟩ : ∃ ww, ww = ((((w.alloc (.cells (k32 A) 24)).alloc (.cells (k32 B) 24)).alloc (.cells (k32 C) 24)).alloc (.cells (#[.int .u8 0, .int .u8 0, .int .u8 0, .int .u8 0, .int .u8 0, .int .u8 0, .int .u8 0, .int .u8 0, .int .u8 0, .int .u8 0, .int .u8 0, .int .u8 0, .int .u8 0, .int .u8 0, .int .u8 0, .int .u8 0, .int .u8 0, .int .u8 0, .int .u8 0, .int .u8 0, .int .u8 0, .int .u8 0, .int .u8 0, .int .u8 0, .int .u8 0, .int .u8 0, .int .u8 0, .int .u8 0, .int .u8 0, .int .u8 0, .int .u8 0, .int .u8 0] : Array Value) 24)) := ⟨_, rfl⟩
  rw [← hwyw1] at M3 M4 M5 M6 HB ⊢
  clear hwyw1
  repeat ((fail_if_success (with_reducible (show wpList _ _ _ _ _ _))); go_step)
  have gW := M6.out.lt
  refine wpList_make (by rfl) 94 _ _ rfl _ _ rfl rfl _ _ (mkW _) 18 rfl ?_
  have hb := below_1 yw1 (.cells (row .u64 34 fun _ => 0) 34)
  have nwMW := Has.new yw1 (row .u64 34 fun _ => 0) 34
  obtain ⟨yw2, hwyw2⟩ : ∃ ww, ww = yw1.alloc (.cells (row .u64 34 fun _ => 0) 34) := ⟨_, rfl⟩
  rw [← hwyw2] at hb nwMW ⊢
  clear hwyw2
  replace M3 := Lib.hid (M3.out.call hb)
  replace M4 := Lib.hid (M4.out.call hb)
  replace M5 := Lib.hid (M5.out.call hb)
  replace M6 := Lib.hid (M6.out.call hb)
  replace HB := Lib.hid (held_next HB.out hb)
  clear hb
  have MW := Lib.hid nwMW; clear nwMW
  (try simp only [Act.put, sI, sS, sZ])
  (refine wpList_step (fun K hK => ?_); go_simp; (try go_bits); refine hK _ _ ?_; clear hK K)
  refine wpList_nil ?_
  obtain ⟨BW, hBW⟩ : ∃ B, B = yw1.heap.size := ⟨_, rfl⟩
  rw [← hBW] at MW gW ⊢
  clear hBW
  repeat ((fail_if_success (with_reducible (show wpList _ _ _ _ _ _))); go_step)
  have gB0 := MW.out.lt
  refine wp_region_noPanic ?_
  refine wp_region_goS (fun _ => True) 99 6 #[ff,ff,ff,ff,ff,ff] (by kernel_rfl) rfl rfl ?_
  replace M3 := Lib.hid (M3.out.drew)
  replace M4 := Lib.hid (M4.out.drew)
  replace M5 := Lib.hid (M5.out.drew)
  replace M6 := Lib.hid (M6.out.drew)
  replace MW := Lib.hid (MW.out.drew)
  replace HB := Lib.hid (below_drewN HB.out 1)
  obtain ⟨yw3, hwyw3⟩ : ∃ ww, ww = yw2.drew := ⟨_, rfl⟩
  rw [← hwyw3] at M3 M4 M5 M6 MW ⊢
  have kq : Below w.heap.size w yw3 := by rw [hwyw3]; exact HB.out
  clear HB; have HB := Lib.hid kq; clear kq hwyw3
  refine go_take2 0 19 #[tt,ff,ff,ff,ff,ff] (v := ?uv1) rfl rfl rfl (by kernel_rfl) (Or.inl ⟨by rfl, ?uy1⟩) (trivial) ?urest1
  case uy1 => (intro _ _; go_simp; try with_reducible rfl)
  (try simp only [sI, sS, sZ])
  refine go_take2 2 21 #[tt,ff,tt,ff,ff,ff] (v := ?uv2) rfl rfl rfl (by kernel_rfl) (Or.inl ⟨by rfl, ?uy2⟩) (trivial) ?urest2
  case uy2 => (intro _ _; go_simp; try with_reducible rfl)
  (try simp only [sI, sS, sZ])
  refine wpBut_r1 (i := 1) (by kernel_rfl) ?_
  have ltW := MW.out.lt
  refine go_call 1 20 #[tt,tt,tt,ff,ff,ff] rfl rfl rfl (by rfl) rfl rfl (by rfl) ent70 (by rfl) (HfA.out _ _ M3.out.byts) ?_
  rintro e uw1 ⟨⟨FX, hFX, rfl, mF⟩, hb⟩
  replace M3 := Lib.hid (M3.out.call hb)
  replace M4 := Lib.hid (M4.out.call hb)
  replace M5 := Lib.hid (M5.out.call hb)
  replace M6 := Lib.hid (M6.out.call hb)
  replace MW := Lib.hid (MW.out.call hb)
  replace HB := Lib.hid (held_next HB.out hb)
  have gX : BW < FX := by omega
  clear ltW; have MX := Lib.hid mF; clear mF
  refine ⟨_, rfl, fun _ => trivial, ?_⟩
  clear hb
  (try simp only [sI, sS, sZ])
  refine wpBut_r1 (i := 3) (by kernel_rfl) ?_
  have ltW := MW.out.lt
  refine go_call 3 22 #[tt,tt,tt,tt,ff,ff] rfl rfl rfl (by rfl) rfl rfl (by rfl) ent70 (by rfl) (HfB.out _ _ M4.out.byts) ?_
  rintro e uw2 ⟨⟨FY, hFY, rfl, mF⟩, hb⟩
  replace M3 := Lib.hid (M3.out.call hb)
  replace M4 := Lib.hid (M4.out.call hb)
  replace M5 := Lib.hid (M5.out.call hb)
  replace M6 := Lib.hid (M6.out.call hb)
  replace MW := Lib.hid (MW.out.call hb)
  replace MX := Lib.hid (MX.out.call hb)
  replace HB := Lib.hid (held_next HB.out hb)
  have gY : BW < FY := by omega
  clear ltW; have MY := Lib.hid mF; clear mF
  refine ⟨_, rfl, fun _ => trivial, ?_⟩
  clear hb
  (try simp only [sI, sS, sZ])
  refine go_take2 4 8 #[tt,tt,tt,tt,tt,ff] (v := ?uv3) rfl rfl rfl (by kernel_rfl) (Or.inl ⟨by rfl, ?uy3⟩) (trivial) ?urest3
  case uy3 => (intro _ _; go_simp; try with_reducible rfl)
  (try simp only [sI, sS, sZ])
  refine go_take2 5 9 #[tt,tt,tt,tt,tt,tt] (v := ?uv4) rfl rfl rfl (by kernel_rfl) (Or.inl ⟨by rfl, ?uy4⟩) (trivial) ?urest4
  case uy4 => (intro _ _; go_simp; try with_reducible rfl)
  (try simp only [sI, sS, sZ])
  refine wpBut_done (by kernel_rfl) (NoPanic.normal ?_)
  clear HfA HfB M3 M4
  repeat ((fail_if_success (with_reducible (show wpList _ _ _ _ _ _))); go_step)
  (refine wpList_step (fun K hK => ?_); go_simp; (try go_bits); refine hK _ _ ?_; clear hK K)
  have ltW := MW.out.lt
  refine wpList_call (by rfl) rfl rfl (by rfl) ent70 (by rfl) (HfC.out _ _ M5.out.byts) 24 rfl ?_
  rintro e uw3 ⟨⟨FC, hFC, rfl, mF⟩, hb⟩
  replace M5 := Lib.hid (M5.out.call hb)
  replace M6 := Lib.hid (M6.out.call hb)
  replace MW := Lib.hid (MW.out.call hb)
  replace MX := Lib.hid (MX.out.call hb)
  replace MY := Lib.hid (MY.out.call hb)
  replace HB := Lib.hid (held_next HB.out hb)
  have gC : BW < FC := by omega
  clear ltW; have MC := Lib.hid mF; clear mF
  refine ⟨_, rfl, ?_⟩
  clear hb
  (try simp only [Act.put, sI, sS, sZ])
  iterate 2 (refine wpList_step (fun K hK => ?_); go_simp; (try go_bits); refine hK _ _ ?_; clear hK K)
  refine wpList_nil ?_
  clear HfC M5
  repeat ((fail_if_success (with_reducible (show wpList _ _ _ _ _ _))); go_step)
  go_loopw [26] (fun i wr => ∃ (k : Nat) (h : Nat → Int), k ≤ 16 ∧ i = .int .i64 (k : Int) ∧ RowKit.Hid (∀ j, j < 34 → 0 ≤ h j ∧ h j ≤ 65535) ∧ RowKit.Hid (∀ j, k ≤ j → h j = 0) ∧ RowKit.Hid (sumf 65536 h 34 = sumf 65536 (dg 65536 C) k) ∧ Has wr FC (row .u32 16 (dg 65536 C)) 91 ∧ HasN wr (w.heap.size + 1 + 1 + 1) 32 24 ∧ Has wr FX (row .u32 16 (dg 65536 A)) 91 ∧ Has wr FY (row .u32 16 (dg 65536 B)) 91 ∧ Has wr BW (row .u64 34 h) 34 ∧ Below w.heap.size w wr) (fun i _ => (16 - (intOf i).toNat))
  case atStart => exact ⟨0, fun _ => 0, by omega, rfl, Lib.hid (fun j _ => ⟨Int.le_refl 0, (by decide : (0 : Int) ≤ 65535)⟩), Lib.hid (fun _ _ => rfl), Lib.hid (by rw [sumf_zero _ _ _ (fun _ _ => rfl)]; rfl), MC.out, M6.out, MX.out, MY.out, MW.out, HB.out⟩
  case round =>
    clear M6 MX MY MW HB
    clear MC
    obtain ⟨k, h, hk, rfl, Hbd, Hz, Hs, mC, m6, mX, mY, mW, hB⟩ := hrel
    have M6 := Lib.hid m6; clear m6
    have MX := Lib.hid mX; clear mX
    have MY := Lib.hid mY; clear mY
    have MW := Lib.hid mW; clear mW
    have HB := Lib.hid hB; clear hB
    have MC := Lib.hid mC; clear mC
    rcases Nat.lt_or_ge k 16 with hlt | hge
    · have kq : (k : Int) < 16 := by omega
      have kq2 : (k : Int) < 34 := by omega
      have hc1 := MC.out.cell k hlt
      have hd1 := (HdC.out k).1
      have hd2 := (HdC.out k).2
      obtain ⟨x, hx⟩ : ∃ x, x = dg 65536 C k := ⟨_, rfl⟩
      rw [← hx] at hc1 hd1 hd2
      have hc2 := MW.out.cell k (by omega)
      rw [Hz.out k (Nat.le_refl _)] at hc2
      have hfz := MW.out.frozen k
      obtain ⟨h2, hh2⟩ : ∃ g, g = upd h k x := ⟨_, rfl⟩
      have Hs2 : RowKit.Hid (sumf 65536 h2 34 = sumf 65536 (dg 65536 C) (k + 1)) := by
        refine Lib.hid ?_
        rw [hh2, sumf_upd _ _ _ _ _ (by omega), Hz.out k (Nat.le_refl _), Hs.out, Int.sub_zero]
        show _ = sumf 65536 (dg 65536 C) k + dg 65536 C k * 65536 ^ k
        rw [hx]
      have Hbd2 : RowKit.Hid (∀ j, j < 34 → 0 ≤ h2 j ∧ h2 j ≤ 65535) := by
        refine Lib.hid (fun j hj => ?_)
        rw [hh2]; unfold upd
        by_cases e : j = k
        · rw [if_pos e]; omega
        · rw [if_neg e]; exact Hbd.out j hj
      have Hz2 : RowKit.Hid (∀ j, k + 1 ≤ j → h2 j = 0) := by
        refine Lib.hid (fun j hj => ?_)
        rw [hh2]; unfold upd
        rw [if_neg (by omega)]; exact Hz.out j (by omega)
      clear hx Hbd Hz Hs
      have Hh2 := Lib.hid hh2; clear hh2
      repeat ((fail_if_success (with_reducible (show wpList _ _ _ _ _ _))); go_step)
      (refine wpList_step (fun K hK => ?_); go_simp; (try go_bits); refine hK _ _ ?_; clear hK K)
      refine wpList_nil ?_
      repeat ((fail_if_success (with_reducible (show wpList _ _ _ _ _ _))); go_step)
      iterate 5 (refine wpList_step (fun K hK => ?_); go_simp; (try go_bits); refine hK _ _ ?_; clear hK K)
      refine wpList_nil ?_
      repeat ((fail_if_success (with_reducible (show wpList _ _ _ _ _ _))); go_step)
      iterate 6 (refine wpList_step (fun K hK => ?_); go_simp; (try go_bits); refine hK _ _ ?_; clear hK K)
      
      have kq := MW.out.set (k) (x); rw [← Hh2.out] at kq; clear MW; have MW := Lib.hid kq; clear kq
      have kq := M6.out.other ⟨BW, k, none⟩ (.int .u64 (x)) (by simp <;> omega); clear M6; have M6 := Lib.hid kq; clear kq
      have kq := MX.out.other ⟨BW, k, none⟩ (.int .u64 (x)) (by simp <;> omega); clear MX; have MX := Lib.hid kq; clear kq
      have kq := MY.out.other ⟨BW, k, none⟩ (.int .u64 (x)) (by simp <;> omega); clear MY; have MY := Lib.hid kq; clear kq
      have kq := MC.out.other ⟨BW, k, none⟩ (.int .u64 (x)) (by simp <;> omega); clear MC; have MC := Lib.hid kq; clear kq
      replace HB := Lib.hid (HB.out.setCell (p := ⟨BW, k, none⟩) (show w.heap.size ≤ BW by omega) (.int .u64 (x)))
      obtain ⟨yw101, hwyw101⟩ : ∃ ww, ww = wr.setCell ⟨BW, k, none⟩ (.int .u64 (x)) := ⟨_, rfl⟩
      rw [← hwyw101] at M6 MX MY MW MC HB ⊢
      clear hwyw101
      refine wpList_nil ?_
      clear hc1 hc2 hfz hd1 hd2
      repeat ((fail_if_success (with_reducible (show wpList _ _ _ _ _ _))); go_step)
      iterate 2 (refine wpList_step (fun K hK => ?_); go_simp; (try go_bits); refine hK _ _ ?_; clear hK K)
      refine wpList_nil ?_
      go_roundw
      case measure => simp [intOf]; omega
      case rel => (repeat apply Exists.intro); exact ⟨⟨k + 1, h2, by omega, by go_num, Hbd2, Hz2, Hs2, MC.out, M6.out, MX.out, MY.out, MW.out, HB.out⟩, rfl⟩
    · have hk16 : k = 16 := by omega
      subst hk16
      clear hk hge MC Hz
      have hs0 := Hs.out
      rw [HsC.out] at hs0
      clear Hs
      have Hs0 := Lib.hid hs0; clear hs0
      repeat ((fail_if_success (with_reducible (show wpList _ _ _ _ _ _))); go_step)
      (refine wpList_step (fun K hK => ?_); go_simp; (try go_bits); refine hK _ _ ?_; clear hK K)
      refine wpList_nil ?_
      repeat ((fail_if_success (with_reducible (show wpList _ _ _ _ _ _))); go_step)
      iterate 3 (refine wpList_step (fun K hK => ?_); go_simp; (try go_bits); refine hK _ _ ?_; clear hK K)
      refine wpList_nil ?_
      repeat ((fail_if_success (with_reducible (show wpList _ _ _ _ _ _))); go_step)
      obtain ⟨w1, rfl⟩ : ∃ W, W = wr := ⟨_, rfl⟩
      go_loopw [39] (fun i wr => ∃ (k : Nat) (h : Nat → Int), k ≤ 16 ∧ i = .int .i64 (k : Int) ∧ RowKit.Hid (∀ j, j < 34 → 0 ≤ h j ∧ h j ≤ 65535 + 16 * (k : Int) * 4294836225) ∧ RowKit.Hid (sumf 65536 h 34 = C + sumf 65536 (dg 65536 A) k * B) ∧ HasN wr (w.heap.size + 1 + 1 + 1) 32 24 ∧ Has wr FX (row .u32 16 (dg 65536 A)) 91 ∧ Has wr FY (row .u32 16 (dg 65536 B)) 91 ∧ Has wr BW (row .u64 34 h) 34 ∧ Below w.heap.size w wr) (fun i _ => (16 - (intOf i).toNat))
      case atStart => exact ⟨0, h, by omega, rfl, Lib.hid (fun j hj => by have := Hbd.out j hj; omega), Lib.hid (by rw [Hs0.out]; show _ = (C : Int) + 0 * B; omega), M6.out, MX.out, MY.out, MW.out, HB.out⟩
      case round =>
        clear M6 MX MY MW HB
        clear Hbd Hs0
        obtain ⟨i, h, hi, rfl, Hbd, Hs, m6, mX, mY, mW, hB⟩ := hrel
        have M6 := Lib.hid m6; clear m6
        have MX := Lib.hid mX; clear mX
        have MY := Lib.hid mY; clear mY
        have MW := Lib.hid mW; clear mW
        have HB := Lib.hid hB; clear hB
        rcases Nat.lt_or_ge i 16 with hilt | hige
        · have iq : (i : Int) < 16 := by omega
          repeat ((fail_if_success (with_reducible (show wpList _ _ _ _ _ _))); go_step)
          (refine wpList_step (fun K hK => ?_); go_simp; (try go_bits); refine hK _ _ ?_; clear hK K)
          refine wpList_nil ?_
          repeat ((fail_if_success (with_reducible (show wpList _ _ _ _ _ _))); go_step)
          iterate 2 (refine wpList_step (fun K hK => ?_); go_simp; (try go_bits); refine hK _ _ ?_; clear hK K)
          refine wpList_nil ?_
          repeat ((fail_if_success (with_reducible (show wpList _ _ _ _ _ _))); go_step)
          iterate 3 (refine wpList_step (fun K hK => ?_); go_simp; (try go_bits); refine hK _ _ ?_; clear hK K)
          refine wpList_nil ?_
          repeat ((fail_if_success (with_reducible (show wpList _ _ _ _ _ _))); go_step)
          obtain ⟨w2, rfl⟩ : ∃ W, W = wr := ⟨_, rfl⟩
          go_loopw [44] (fun q wr => ∃ (k : Nat) (h : Nat → Int), k ≤ 16 ∧ q = .int .i64 (k : Int) ∧ RowKit.Hid (∀ j, j < 34 → 0 ≤ h j ∧ h j ≤ 65535 + (16 * (i : Int) + k) * 4294836225) ∧ RowKit.Hid (sumf 65536 h 34 = C + sumf 65536 (dg 65536 A) i * B + dg 65536 A i * 65536 ^ i * sumf 65536 (dg 65536 B) k) ∧ HasN wr (w.heap.size + 1 + 1 + 1) 32 24 ∧ Has wr FX (row .u32 16 (dg 65536 A)) 91 ∧ Has wr FY (row .u32 16 (dg 65536 B)) 91 ∧ Has wr BW (row .u64 34 h) 34 ∧ Below w.heap.size w wr) (fun q _ => (16 - (intOf q).toNat))
          case atStart => exact ⟨0, h, by omega, rfl, Lib.hid (fun j hj => by have := Hbd.out j hj; omega), Lib.hid (by rw [Hs.out]; show _ = _ + dg 65536 A i * 65536 ^ i * 0; omega), M6.out, MX.out, MY.out, MW.out, HB.out⟩
          case round =>
            clear M6 MX MY MW HB
            clear Hbd Hs
            obtain ⟨k, h, hk, rfl, Hbd, Hs, m6, mX, mY, mW, hB⟩ := hrel
            have M6 := Lib.hid m6; clear m6
            have MX := Lib.hid mX; clear mX
            have MY := Lib.hid mY; clear mY
            have MW := Lib.hid mW; clear mW
            have HB := Lib.hid hB; clear hB
            rcases Nat.lt_or_ge k 16 with hklt | hkge
            · have kq : (k : Int) < 16 := by omega
              obtain ⟨x0, x1⟩ := HdA.out i
              obtain ⟨y0, y1⟩ := HdB.out k
              obtain ⟨x, hx⟩ : ∃ x, x = dg 65536 A i := ⟨_, rfl⟩
              obtain ⟨y, hy⟩ : ∃ y, y = dg 65536 B k := ⟨_, rfl⟩
              rw [← hx] at x0 x1
              rw [← hy] at y0 y1
              obtain ⟨xy0, xy1⟩ := mul16 x y x0 x1 y0 y1
              obtain ⟨p, hp⟩ : ∃ p, p = x * y := ⟨_, rfl⟩
              rw [← hp] at xy0 xy1
              obtain ⟨s, hs⟩ : ∃ s, s = i + k := ⟨_, rfl⟩
              have hs34 : s < 34 := by omega
              have sq : (s : Int) < 34 := by omega
              obtain ⟨z0, z1⟩ := Hbd.out s hs34
              obtain ⟨z, hz⟩ : ∃ z, z = h s := ⟨_, rfl⟩
              rw [← hz] at z0 z1
              obtain ⟨t, ht⟩ : ∃ t, t = z + p := ⟨_, rfl⟩
              have hwik : IntKind.i64.wrap ((i : Int) + (k : Int)) = (s : Int) := by rw [IntKind.wrap_i64]; omega
              have hwx : IntKind.u64.wrap x = x := by rw [IntKind.wrap_u64]; omega
              have hwy : IntKind.u64.wrap y = y := by rw [IntKind.wrap_u64]; omega
              have hwp : IntKind.u64.wrap (x * y) = p := by rw [← hp, IntKind.wrap_u64]; omega
              have hwt : IntKind.u64.wrap (z + p) = t := by rw [← ht, IntKind.wrap_u64]; omega
              obtain ⟨h2, hh2⟩ : ∃ g, g = upd h s t := ⟨_, rfl⟩
              have Hs2 : RowKit.Hid (sumf 65536 h2 34 = C + sumf 65536 (dg 65536 A) i * B + dg 65536 A i * 65536 ^ i * sumf 65536 (dg 65536 B) (k + 1)) := by
                refine Lib.hid ?_
                rw [hh2, sumf_upd _ _ _ _ _ hs34, Hs.out]
                show _ = _ + dg 65536 A i * 65536 ^ i * (sumf 65536 (dg 65536 B) k + dg 65536 B k * 65536 ^ k)
                rw [← hx, ← hy, ← hz, ht, hs, Int.pow_add, hp]
                generalize (65536 : Int) ^ i = P
                generalize (65536 : Int) ^ k = R
                grind
              have Hbd2 : RowKit.Hid (∀ j, j < 34 → 0 ≤ h2 j ∧ h2 j ≤ 65535 + (16 * (i : Int) + (k + 1 : Nat)) * 4294836225) := by
                refine Lib.hid (fun j hj => ?_)
                rw [hh2]; unfold upd
                by_cases e : j = s
                · rw [if_pos e]; omega
                · rw [if_neg e]; have := Hbd.out j hj; omega
              have Hx := Lib.hid hx
              have Hy := Lib.hid hy
              have Hz := Lib.hid hz
              clear hx hy hz hp ht hs Hs Hbd z1
              have Hh2 := Lib.hid hh2; clear hh2
              repeat ((fail_if_success (with_reducible (show wpList _ _ _ _ _ _))); go_step)
              (refine wpList_step (fun K hK => ?_); go_simp; (try go_bits); refine hK _ _ ?_; clear hK K)
              refine wpList_nil ?_
              repeat ((fail_if_success (with_reducible (show wpList _ _ _ _ _ _))); go_step)
              iterate 2 (refine wpList_step (fun K hK => ?_); go_simp; (try go_bits); refine hK _ _ ?_; clear hK K)
              refine wpList_nil ?_
              repeat ((fail_if_success (with_reducible (show wpList _ _ _ _ _ _))); go_step)
              refine wp_region_noPanic ?_
              refine wp_region_goS (fun w' => Has w' (BW) (row .u64 34 h) 34 ∧ Has w' (FX) (row .u32 16 (dg 65536 A)) 91 ∧ Has w' (FY) (row .u32 16 (dg 65536 B)) 91) 19 20 #[ff,ff,ff,ff,ff,ff,ff,ff,ff,ff,ff,ff,ff,ff,ff,ff,ff,ff,ff,ff] (by kernel_rfl) rfl rfl ?_
              replace M6 := Lib.hid (M6.out.drew)
              replace MX := Lib.hid (MX.out.drew)
              replace MY := Lib.hid (MY.out.drew)
              replace MW := Lib.hid (MW.out.drew)
              replace HB := Lib.hid (below_drewN HB.out 1)
              obtain ⟨yw301, hwyw301⟩ : ∃ ww, ww = wr.drew := ⟨_, rfl⟩
              rw [← hwyw301] at M6 MX MY MW ⊢
              have kq : Below w.heap.size w yw301 := by rw [hwyw301]; exact HB.out
              clear HB; have HB := Lib.hid kq; clear kq hwyw301
              refine go_take2 0 47 #[tt,ff,ff,ff,ff,ff,ff,ff,ff,ff,ff,ff,ff,ff,ff,ff,ff,ff,ff,ff] (v := ?uv5) rfl rfl rfl (by kernel_rfl) (Or.inl ⟨by rfl, ?uy5⟩) (⟨MW.out, MX.out, MY.out⟩) ?urest5
              case uy5 => (intro _ _; go_simp; try with_reducible rfl)
              (try simp only [sI, sS, sZ])
              refine go_take2 1 48 #[tt,tt,ff,ff,ff,ff,ff,ff,ff,ff,ff,ff,ff,ff,ff,ff,ff,ff,ff,ff] (v := ?uv6) rfl rfl rfl (by kernel_rfl) (Or.inl ⟨by rfl, ?uy6⟩) (⟨MW.out, MX.out, MY.out⟩) ?urest6
              case uy6 => (intro _ _; go_simp; try with_reducible rfl)
              (try simp only [sI, sS, sZ])
              refine go_take2 2 49 #[tt,tt,tt,ff,ff,ff,ff,ff,ff,ff,ff,ff,ff,ff,ff,ff,ff,ff,ff,ff] (v := ?uv7) rfl rfl rfl (by kernel_rfl) (Or.inl ⟨by rfl, ?uy7⟩) (⟨MW.out, MX.out, MY.out⟩) ?urest7
              case uy7 => (intro _ _; go_simp; try with_reducible rfl)
              (try simp only [sI, sS, sZ])
              refine go_take2 3 50 #[tt,tt,tt,tt,ff,ff,ff,ff,ff,ff,ff,ff,ff,ff,ff,ff,ff,ff,ff,ff] (v := ?uv8) rfl rfl rfl (by kernel_rfl) (Or.inl ⟨by rfl, ?uy8⟩) (⟨MW.out, MX.out, MY.out⟩) ?urest8
              case uy8 => (intro _ _; go_simp; try with_reducible rfl)
              (try simp only [sI, sS, sZ])
              refine go_take2 4 51 #[tt,tt,tt,tt,tt,ff,ff,ff,ff,ff,ff,ff,ff,ff,ff,ff,ff,ff,ff,ff] (v := ?uv9) rfl rfl rfl (by kernel_rfl) (Or.inl ⟨by rfl, ?uy9⟩) (⟨MW.out, MX.out, MY.out⟩) ?urest9
              case uy9 => (intro _ _; go_simp; try with_reducible rfl)
              (try simp only [sI, sS, sZ])
              refine go_take2 5 52 #[tt,tt,tt,tt,tt,tt,ff,ff,ff,ff,ff,ff,ff,ff,ff,ff,ff,ff,ff,ff] rfl rfl rfl (by kernel_rfl) (yieldsIf_loadc (by rfl) 34 _ rfl (BW) (s) rfl (.int .u64 z) _ (fun _ h => (by rw [Has.cell h.1 s hs34, Hz.out])) Try.underlying34 rfl) (⟨MW.out, MX.out, MY.out⟩) ?_
              (try simp only [sI, sS, sZ])
              refine go_take2 6 53 #[tt,tt,tt,tt,tt,tt,tt,ff,ff,ff,ff,ff,ff,ff,ff,ff,ff,ff,ff,ff] (v := ?uv10) rfl rfl rfl (by kernel_rfl) (Or.inl ⟨by rfl, ?uy10⟩) (⟨MW.out, MX.out, MY.out⟩) ?urest10
              case uy10 => (intro _ _; go_simp; try with_reducible rfl)
              (try simp only [sI, sS, sZ])
              refine go_take2 7 54 #[tt,tt,tt,tt,tt,tt,tt,tt,ff,ff,ff,ff,ff,ff,ff,ff,ff,ff,ff,ff] (v := ?uv11) rfl rfl rfl (by kernel_rfl) (Or.inl ⟨by rfl, ?uy11⟩) (⟨MW.out, MX.out, MY.out⟩) ?urest11
              case uy11 => (intro _ _; go_simp; try with_reducible rfl)
              (try simp only [sI, sS, sZ])
              refine go_take2 8 55 #[tt,tt,tt,tt,tt,tt,tt,tt,tt,ff,ff,ff,ff,ff,ff,ff,ff,ff,ff,ff] (v := ?uv12) rfl rfl rfl (by kernel_rfl) (Or.inl ⟨by rfl, ?uy12⟩) (⟨MW.out, MX.out, MY.out⟩) ?urest12
              case uy12 => (intro _ _; go_simp; try with_reducible rfl)
              (try simp only [sI, sS, sZ])
              refine go_take2 9 56 #[tt,tt,tt,tt,tt,tt,tt,tt,tt,tt,ff,ff,ff,ff,ff,ff,ff,ff,ff,ff] rfl rfl rfl (by kernel_rfl) (yieldsIf_loadc (by rfl) 91 _ rfl (FX) (i) rfl (.int .u32 x) _ (fun _ h => (by rw [Has.cell h.2.1 i hilt, Hx.out])) Try.underlying91 rfl) (⟨MW.out, MX.out, MY.out⟩) ?_
              (try simp only [sI, sS, sZ])
              refine go_take2 10 57 #[tt,tt,tt,tt,tt,tt,tt,tt,tt,tt,tt,ff,ff,ff,ff,ff,ff,ff,ff,ff] (v := ?uv13) rfl rfl rfl (by kernel_rfl) (Or.inl ⟨by rfl, ?uy13⟩) (⟨MW.out, MX.out, MY.out⟩) ?urest13
              case uy13 => (intro _ _; go_simp; try with_reducible rfl)
              (try simp only [sI, sS, sZ])
              refine go_take2 11 58 #[tt,tt,tt,tt,tt,tt,tt,tt,tt,tt,tt,tt,ff,ff,ff,ff,ff,ff,ff,ff] (v := ?uv14) rfl rfl rfl (by kernel_rfl) (Or.inl ⟨by rfl, ?uy14⟩) (⟨MW.out, MX.out, MY.out⟩) ?urest14
              case uy14 => (intro _ _; go_simp; try with_reducible rfl)
              (try simp only [sI, sS, sZ])
              refine go_take2 12 59 #[tt,tt,tt,tt,tt,tt,tt,tt,tt,tt,tt,tt,tt,ff,ff,ff,ff,ff,ff,ff] (v := ?uv15) rfl rfl rfl (by kernel_rfl) (Or.inl ⟨by rfl, ?uy15⟩) (⟨MW.out, MX.out, MY.out⟩) ?urest15
              case uy15 => (intro _ _; go_simp; try with_reducible rfl)
              (try simp only [sI, sS, sZ])
              refine go_take2 13 60 #[tt,tt,tt,tt,tt,tt,tt,tt,tt,tt,tt,tt,tt,tt,ff,ff,ff,ff,ff,ff] (v := ?uv16) rfl rfl rfl (by kernel_rfl) (Or.inl ⟨by rfl, ?uy16⟩) (⟨MW.out, MX.out, MY.out⟩) ?urest16
              case uy16 => (intro _ _; go_simp; try with_reducible rfl)
              (try simp only [sI, sS, sZ])
              refine go_take2 14 61 #[tt,tt,tt,tt,tt,tt,tt,tt,tt,tt,tt,tt,tt,tt,tt,ff,ff,ff,ff,ff] rfl rfl rfl (by kernel_rfl) (yieldsIf_loadc (by rfl) 91 _ rfl (FY) (k) rfl (.int .u32 y) _ (fun _ h => (by rw [Has.cell h.2.2 k hklt, Hy.out])) Try.underlying91 rfl) (⟨MW.out, MX.out, MY.out⟩) ?_
              (try simp only [sI, sS, sZ])
              refine go_take2 15 62 #[tt,tt,tt,tt,tt,tt,tt,tt,tt,tt,tt,tt,tt,tt,tt,tt,ff,ff,ff,ff] (v := ?uv17) rfl rfl rfl (by kernel_rfl) (Or.inl ⟨by rfl, ?uy17⟩) (⟨MW.out, MX.out, MY.out⟩) ?urest17
              case uy17 => (intro _ _; go_simp; try with_reducible rfl)
              (try simp only [sI, sS, sZ])
              refine go_take2 16 63 #[tt,tt,tt,tt,tt,tt,tt,tt,tt,tt,tt,tt,tt,tt,tt,tt,tt,ff,ff,ff] (v := ?uv18) rfl rfl rfl (by kernel_rfl) (Or.inl ⟨by rfl, ?uy18⟩) (⟨MW.out, MX.out, MY.out⟩) ?urest18
              case uy18 => (intro _ _; go_simp; try with_reducible rfl)
              (try simp only [sI, sS, sZ])
              refine go_take2 17 64 #[tt,tt,tt,tt,tt,tt,tt,tt,tt,tt,tt,tt,tt,tt,tt,tt,tt,tt,ff,ff] (v := ?uv19) rfl rfl rfl (by kernel_rfl) (Or.inl ⟨by rfl, ?uy19⟩) (⟨MW.out, MX.out, MY.out⟩) ?urest19
              case uy19 => (intro _ _; go_simp; try with_reducible rfl)
              (try simp only [sI, sS, sZ])
              refine go_take2 18 65 #[tt,tt,tt,tt,tt,tt,tt,tt,tt,tt,tt,tt,tt,tt,tt,tt,tt,tt,tt,ff] (v := ?uv20) rfl rfl rfl (by kernel_rfl) (Or.inl ⟨by rfl, ?uy20⟩) (⟨MW.out, MX.out, MY.out⟩) ?urest20
              case uy20 => (intro _ _; go_simp; try with_reducible rfl)
              (try simp only [sI, sS, sZ])
              refine wpBut_r1 (i := 19) (by kernel_rfl) ?_
              refine go_storec 19 #[tt,tt,tt,tt,tt,tt,tt,tt,tt,tt,tt,tt,tt,tt,tt,tt,tt,tt,tt,tt] rfl rfl rfl (by rfl) 34 _ _ rfl (BW) (s) (.int .u64 (t)) rfl rfl (by rw [MW.out.cell s hs34]; rfl) (MW.out.frozen _) (by kernel_rfl) rfl rfl ⟨fun h => (h rfl).elim, ?_⟩
              have kq := MW.out.set (s) (t); rw [← Hh2.out] at kq; clear MW; have MW := Lib.hid kq; clear kq
              have kq := M6.out.other ⟨BW, s, none⟩ (.int .u64 (t)) (by simp <;> omega); clear M6; have M6 := Lib.hid kq; clear kq
              have kq := MX.out.other ⟨BW, s, none⟩ (.int .u64 (t)) (by simp <;> omega); clear MX; have MX := Lib.hid kq; clear kq
              have kq := MY.out.other ⟨BW, s, none⟩ (.int .u64 (t)) (by simp <;> omega); clear MY; have MY := Lib.hid kq; clear kq
              replace HB := Lib.hid (HB.out.setCell (p := ⟨BW, s, none⟩) (show w.heap.size ≤ BW by omega) (.int .u64 (t)))
              obtain ⟨yw302, hwyw302⟩ : ∃ ww, ww = yw301.setCell ⟨BW, s, none⟩ (.int .u64 (t)) := ⟨_, rfl⟩
              rw [← hwyw302] at M6 MX MY MW HB ⊢
              clear hwyw302
              (try simp only [sI, sS, sZ])
              refine wpBut_done (by kernel_rfl) (NoPanic.normal ?_)
              clear hwik hwx hwy hwp hwt x0 x1 y0 y1 xy0 xy1 z0
              repeat ((fail_if_success (with_reducible (show wpList _ _ _ _ _ _))); go_step)
              iterate 2 (refine wpList_step (fun K hK => ?_); go_simp; (try go_bits); refine hK _ _ ?_; clear hK K)
              refine wpList_nil ?_
              go_roundw
              case measure => simp [intOf]; omega
              case rel => (repeat apply Exists.intro); exact ⟨⟨k + 1, h2, by omega, by go_num, Hbd2, Hs2, M6.out, MX.out, MY.out, MW.out, HB.out⟩, rfl⟩
            · have hk16 : k = 16 := by omega
              subst hk16
              clear hk hkge
              have Hs2 : RowKit.Hid (sumf 65536 h 34 = C + sumf 65536 (dg 65536 A) (i + 1) * B) := by
                refine Lib.hid ?_
                rw [Hs.out, HsB.out]
                show _ = (C : Int) + (sumf 65536 (dg 65536 A) i + dg 65536 A i * 65536 ^ i) * B
                rw [Int.add_mul]; omega
              have Hbd2 : RowKit.Hid (∀ j, j < 34 → 0 ≤ h j ∧ h j ≤ 65535 + 16 * ((i + 1 : Nat) : Int) * 4294836225) := Lib.hid (fun j hj => by have := Hbd.out j hj; omega)
              clear Hs Hbd
              repeat ((fail_if_success (with_reducible (show wpList _ _ _ _ _ _))); go_step)
              (refine wpList_step (fun K hK => ?_); go_simp; (try go_bits); refine hK _ _ ?_; clear hK K)
              refine wpList_nil ?_
              repeat ((fail_if_success (with_reducible (show wpList _ _ _ _ _ _))); go_step)
              iterate 2 (refine wpList_step (fun K hK => ?_); go_simp; (try go_bits); refine hK _ _ ?_; clear hK K)
              refine wpList_nil ?_
              go_roundw
              case measure => simp [intOf]; omega
              case rel => (repeat apply Exists.intro); exact ⟨⟨i + 1, h, by omega, by go_num, Hbd2, Hs2, M6.out, MX.out, MY.out, MW.out, HB.out⟩, rfl⟩
        · have hi16 : i = 16 := by omega
          subst hi16
          clear hi hige
          have hsum := Hs.out
          rw [HsA.out] at hsum
          obtain ⟨V, hVe⟩ : ∃ V, V = A * B + C := ⟨_, rfl⟩
          have hsV : sumf 65536 h 34 = (V : Int) := by rw [hsum, hVe]; push_cast; omega
          clear Hs hsum
          have HsV := Lib.hid hsV; clear hsV
          have HVe := Lib.hid hVe; clear hVe
          repeat ((fail_if_success (with_reducible (show wpList _ _ _ _ _ _))); go_step)
          (refine wpList_step (fun K hK => ?_); go_simp; (try go_bits); refine hK _ _ ?_; clear hK K)
          refine wpList_nil ?_
          repeat ((fail_if_success (with_reducible (show wpList _ _ _ _ _ _))); go_step)
          clear MX MY
          iterate 2 (refine wpList_step (fun K hK => ?_); go_simp; (try go_bits); refine hK _ _ ?_; clear hK K)
          have gO := MW.out.lt
          refine wpList_make (by rfl) 86 _ _ rfl _ _ rfl rfl _ _ (mkK34 _) 70 rfl ?_
          have hb := below_1 wr (.cells (row .u32 34 fun _ => 0) 91)
          have nwMO := Has.new wr (row .u32 34 fun _ => 0) 91
          obtain ⟨yw201, hwyw201⟩ : ∃ ww, ww = wr.alloc (.cells (row .u32 34 fun _ => 0) 91) := ⟨_, rfl⟩
          rw [← hwyw201] at hb nwMO ⊢
          clear hwyw201
          replace M6 := Lib.hid (M6.out.call hb)
          replace MW := Lib.hid (MW.out.call hb)
          replace HB := Lib.hid (held_next HB.out hb)
          clear hb
          have MO := Lib.hid nwMO; clear nwMO
          (try simp only [Act.put, sI, sS, sZ])
          (refine wpList_step (fun K hK => ?_); go_simp; (try go_bits); refine hK _ _ ?_; clear hK K)
          refine wpList_nil ?_
          obtain ⟨BO, hBO⟩ : ∃ B, B = wr.heap.size := ⟨_, rfl⟩
          rw [← hBO] at MO gO ⊢
          clear hBO
          repeat ((fail_if_success (with_reducible (show wpList _ _ _ _ _ _))); go_step)
          (refine wpList_step (fun K hK => ?_); go_simp; (try go_bits); refine hK _ _ ?_; clear hK K)
          refine wpList_nil ?_
          repeat ((fail_if_success (with_reducible (show wpList _ _ _ _ _ _))); go_step)
          iterate 3 (refine wpList_step (fun K hK => ?_); go_simp; (try go_bits); refine hK _ _ ?_; clear hK K)
          refine wpList_nil ?_
          repeat ((fail_if_success (with_reducible (show wpList _ _ _ _ _ _))); go_step)
          obtain ⟨w3, rfl⟩ : ∃ W, W = wr := ⟨_, rfl⟩
          go_loopw [73, 15] (fun i c wr => ∃ (k : Nat) (cc : Int) (o : Nat → Int), k ≤ 34 ∧ i = .int .i64 (k : Int) ∧ c = .int .u64 cc ∧ 0 ≤ cc ∧ cc ≤ 1099511627776 ∧ RowKit.Hid (∀ j, j < 34 → 0 ≤ o j ∧ o j < 65536) ∧ RowKit.Hid (sumf 65536 h k = cc * 65536 ^ k + sumf 65536 o k) ∧ HasN wr (w.heap.size + 1 + 1 + 1) 32 24 ∧ Has wr BW (row .u64 34 h) 34 ∧ Has wr BO (row .u32 34 o) 91 ∧ Below w.heap.size w wr) (fun i _ _ => (34 - (intOf i).toNat))
          case atStart => exact ⟨0, 0, fun _ => 0, by omega, rfl, rfl, by omega, by omega, Lib.hid (fun j _ => ⟨Int.le_refl 0, (by decide : (0 : Int) < 65536)⟩), Lib.hid (by show (0 : Int) = 0 * 65536 ^ 0 + 0; rfl), M6.out, MW.out, MO.out, HB.out⟩
          case round =>
            clear M6 MW MO HB
            obtain ⟨k, cc, o, hk, rfl, rfl, hcc0, hcc1, Hob, Hos, m6, mW, mO, hB⟩ := hrel
            have M6 := Lib.hid m6; clear m6
            have MW := Lib.hid mW; clear mW
            have MO := Lib.hid mO; clear mO
            have HB := Lib.hid hB; clear hB
            rcases Nat.lt_or_ge k 34 with hklt | hkge
            · have kq : (k : Int) < 34 := by omega
              obtain ⟨z0, z1⟩ := Hbd.out k hklt
              have hc1 := MW.out.cell k hklt
              obtain ⟨z, hz⟩ : ∃ z, z = h k := ⟨_, rfl⟩
              rw [← hz] at z0 z1 hc1
              obtain ⟨n, hn⟩ : ∃ n, n = z + cc := ⟨_, rfl⟩
              have hst := carry16 h o k cc n Hos.out (by rw [hn, hz])
              obtain ⟨N, hN⟩ := Int.eq_ofNat_of_zero_le (show 0 ≤ n by omega)
              have hz2 : z ≤ 2199023255552 := by omega
              clear z1
              have hN2 : N < 4398046511104 := by omega
              obtain ⟨r, hr⟩ : ∃ r, r = N % 65536 := ⟨_, rfl⟩
              obtain ⟨q, hq⟩ : ∃ q, q = N / 65536 := ⟨_, rfl⟩
              have hr2 : n % 65536 = (r : Int) := by omega
              have hq2 : n / 65536 = (q : Int) := by omega
              have lr : r < 65536 := by omega
              have lq : (q : Int) ≤ 1099511627776 := by omega
              rw [hr2, hq2] at hst
              obtain ⟨o2, ho2⟩ : ∃ g, g = upd o k (r : Int) := ⟨_, rfl⟩
              rw [← ho2] at hst
              have Hob2 : RowKit.Hid (∀ j, j < 34 → 0 ≤ o2 j ∧ o2 j < 65536) := by
                refine Lib.hid (fun j hj => ?_)
                rw [ho2]; unfold upd
                by_cases e : j = k
                · rw [if_pos e]; omega
                · rw [if_neg e]; exact Hob.out j hj
              have hc2 : (wr.cell? ⟨BO, k, none⟩) = some (.int .u32 (o k)) := MO.out.cell k hklt
              have hfz := MO.out.frozen k
              have hsN : z + cc = (N : Int) := by omega
              have hand : bits .and .u64 (N : Int) 65535 = (r : Int) := by
                have h := bits_mask .u64 64 (by decide) (fun n h0 h1 => by rw [IntKind.wrap_u64]; omega) 16 (by decide) (N : Int) (by omega) (by omega)
                rw [show ((2 : Int) ^ 16 - 1) = 65535 by decide] at h
                rw [h]; omega
              have hshr : (N : Int) / 65536 = (q : Int) := by omega
              have Hst := Lib.hid hst
              clear hz hn hst hN hr hq hr2 hq2 Hob Hos
              have Ho2 := Lib.hid ho2; clear ho2
              repeat ((fail_if_success (with_reducible (show wpList _ _ _ _ _ _))); go_step)
              (refine wpList_step (fun K hK => ?_); go_simp; (try go_bits); refine hK _ _ ?_; clear hK K)
              refine wpList_nil ?_
              repeat ((fail_if_success (with_reducible (show wpList _ _ _ _ _ _))); go_step)
              iterate 5 (refine wpList_step (fun K hK => ?_); go_simp; (try go_bits); refine hK _ _ ?_; clear hK K)
              refine wpList_nil ?_
              repeat ((fail_if_success (with_reducible (show wpList _ _ _ _ _ _))); go_step)
              iterate 4 (refine wpList_step (fun K hK => ?_); go_simp; (try go_bits); refine hK _ _ ?_; clear hK K)
              refine wpList_nil ?_
              repeat ((fail_if_success (with_reducible (show wpList _ _ _ _ _ _))); go_step)
              iterate 9 (refine wpList_step (fun K hK => ?_); go_simp; (try go_bits); refine hK _ _ ?_; clear hK K)
              
              have kq := MO.out.set (k) ((r : Int)); rw [← Ho2.out] at kq; clear MO; have MO := Lib.hid kq; clear kq
              have kq := M6.out.other ⟨BO, k, none⟩ (.int .u32 ((r : Int))) (by simp <;> omega); clear M6; have M6 := Lib.hid kq; clear kq
              have kq := MW.out.other ⟨BO, k, none⟩ (.int .u32 ((r : Int))) (by simp <;> omega); clear MW; have MW := Lib.hid kq; clear kq
              replace HB := Lib.hid (HB.out.setCell (p := ⟨BO, k, none⟩) (show w.heap.size ≤ BO by omega) (.int .u32 ((r : Int))))
              obtain ⟨yw501, hwyw501⟩ : ∃ ww, ww = wr.setCell ⟨BO, k, none⟩ (.int .u32 ((r : Int))) := ⟨_, rfl⟩
              rw [← hwyw501] at M6 MW MO HB ⊢
              clear hwyw501
              (refine wpList_step (fun K hK => ?_); go_simp; (try go_bits); refine hK _ _ ?_; clear hK K)
              refine wpList_nil ?_
              clear hc1 hc2 hfz hand hshr hsN
              repeat ((fail_if_success (with_reducible (show wpList _ _ _ _ _ _))); go_step)
              iterate 2 (refine wpList_step (fun K hK => ?_); go_simp; (try go_bits); refine hK _ _ ?_; clear hK K)
              refine wpList_nil ?_
              go_roundw
              case measure => simp [intOf]; omega
              case rel => (repeat apply Exists.intro); exact ⟨⟨k + 1, (q : Int), o2, by omega, by go_num, rfl, by omega, lq, Hob2, Hst, M6.out, MW.out, MO.out, HB.out⟩, rfl⟩
            · have hk34 : k = 34 := by omega
              subst hk34
              clear hk hkge
              have hrow := carried V h o cc hcc0 Hob.out (by rw [HVe.out]; exact HV.out) HsV.out Hos.out
              rw [hrow] at MO
              have hfg := Has.figs MO.out
              clear hrow Hob Hos Hbd HsV MW MO
              rw [← HVe.out] at Hdi
              have Hfg := Lib.hid hfg; clear hfg
              repeat ((fail_if_success (with_reducible (show wpList _ _ _ _ _ _))); go_step)
              (refine wpList_step (fun K hK => ?_); go_simp; (try go_bits); refine hK _ _ ?_; clear hK K)
              refine wpList_nil ?_
              repeat ((fail_if_success (with_reducible (show wpList _ _ _ _ _ _))); go_step)
              (refine wpList_step (fun K hK => ?_); go_simp; (try go_bits); refine hK _ _ ?_; clear hK K)
              refine wpList_call (by rfl) rfl rfl (by rfl) ent69 (by rfl) (Hdi.out BO _ Hfg.out) 91 rfl ?_
              rintro e uw501 ⟨rfl, hb⟩
              replace M6 := Lib.hid (M6.out.call hb)
              replace HB := Lib.hid (held_next HB.out hb)
              refine ⟨_, rfl, ?_⟩
              clear hb
              (try simp only [Act.put, sI, sS, sZ])
              first | (obtain ⟨Zq, hZ, mZ⟩ := M6.out) | (obtain ⟨Zq, hZ, mZ⟩ := M6.out.toN (k32_size ..))
              refine wpList_store2 (by rfl) 24 _ _ rfl rfl (w.heap.size + 1 + 1 + 1) (k32 (V % L0)) rfl rfl 24 Zq mZ (by rw [k32_size]; kernel_rfl) (hZ.trans (k32_size ..).symm) (row_one _ _ _) ?_
              intro yw501 hw2
              replace M6 := Lib.hid (mZ.setRow (k32 (V % L0)))
              replace HB := Lib.hid (below_setRow HB.out (w.heap.size + 1 + 1 + 1) (k32 (V % L0)) (by omega))
              rw [← hw2] at M6 HB; clear mZ hZ hw2
              refine wpList_nil ?_
              go_wp2_with fail
              exact bodyPost_ret (v := .agg (k32 (V % L0))) (results_cell_row (t := 24) (by rfl) _ _ (w.heap.size + 1 + 1 + 1) _ _ _ rfl M6.out Try.underlying24 rfl (by rw [k32_size]; kernel_rfl)) rfl ⟨by rw [HVe.out], HB.out⟩
end Go.Proofs.Ytjiagjonlcadiaa
end
section
namespace Go.Proofs.Ytjiagjonlcadiaa
open Go.RowKit Go.Lib

theorem bd24L2 : Try.prog.built 24 [(0, .int .u8 237), (1, .int .u8 211), (2, .int .u8 245), (3, .int .u8 92), (4, .int .u8 26), (5, .int .u8 99), (6, .int .u8 18), (7, .int .u8 88), (8, .int .u8 214), (9, .int .u8 156), (10, .int .u8 247), (11, .int .u8 162), (12, .int .u8 222), (13, .int .u8 249), (14, .int .u8 222), (15, .int .u8 20), (16, .int .u8 0), (17, .int .u8 0), (18, .int .u8 0), (19, .int .u8 0), (20, .int .u8 0), (21, .int .u8 0), (22, .int .u8 0), (23, .int .u8 0), (24, .int .u8 0), (25, .int .u8 0), (26, .int .u8 0), (27, .int .u8 0), (28, .int .u8 0), (29, .int .u8 0), (30, .int .u8 0), (31, .int .u8 16)] = some (k32 L0) := by kernel_rfl

set_option maxRecDepth 100000 in
set_option linter.unusedSimpArgs false in
set_option maxHeartbeats 4000000 in
theorem rorder_any (w : World) : Calls Try.prog 59 #[] w fun e w' => e = .returned (.agg (k32 L0)) ∧ Below w.heap.size w w' := by
  go_enter Try.func59, Try.ntmps59
  repeat ((fail_if_success (with_reducible (show wpList _ _ _ _ _ _))); go_step)
  (refine wpList_step (fun K hK => ?_); go_simp; (try go_bits); refine hK _ _ ?_; clear hK K)
  refine wpList_nil ?_
  have M0 := Lib.hid (HasN.new w  (#[.int .u8 0, .int .u8 0, .int .u8 0, .int .u8 0, .int .u8 0, .int .u8 0, .int .u8 0, .int .u8 0, .int .u8 0, .int .u8 0, .int .u8 0, .int .u8 0, .int .u8 0, .int .u8 0, .int .u8 0, .int .u8 0, .int .u8 0, .int .u8 0, .int .u8 0, .int .u8 0, .int .u8 0, .int .u8 0, .int .u8 0, .int .u8 0, .int .u8 0, .int .u8 0, .int .u8 0, .int .u8 0, .int .u8 0, .int .u8 0, .int .u8 0, .int .u8 0] : Array Value) 24 32 (by kernel_rfl))
  have HB := Lib.hid (below_1 w (.cells (#[.int .u8 0, .int .u8 0, .int .u8 0, .int .u8 0, .int .u8 0, .int .u8 0, .int .u8 0, .int .u8 0, .int .u8 0, .int .u8 0, .int .u8 0, .int .u8 0, .int .u8 0, .int .u8 0, .int .u8 0, .int .u8 0, .int .u8 0, .int .u8 0, .int .u8 0, .int .u8 0, .int .u8 0, .int .u8 0, .int .u8 0, .int .u8 0, .int .u8 0, .int .u8 0, .int .u8 0, .int .u8 0, .int .u8 0, .int .u8 0, .int .u8 0, .int .u8 0] : Array Value) 24))
  obtain ⟨yw1, hwyw1⟩ : ∃ ww, ww = (w.alloc (.cells (#[.int .u8 0, .int .u8 0, .int .u8 0, .int .u8 0, .int .u8 0, .int .u8 0, .int .u8 0, .int .u8 0, .int .u8 0, .int .u8 0, .int .u8 0, .int .u8 0, .int .u8 0, .int .u8 0, .int .u8 0, .int .u8 0, .int .u8 0, .int .u8 0, .int .u8 0, .int .u8 0, .int .u8 0, .int .u8 0, .int .u8 0, .int .u8 0, .int .u8 0, .int .u8 0, .int .u8 0, .int .u8 0, .int .u8 0, .int .u8 0, .int .u8 0, .int .u8 0] : Array Value) 24)) := ⟨_, rfl⟩
  rw [← hwyw1] at M0 HB ⊢
  clear hwyw1
  repeat ((fail_if_success (with_reducible (show wpList _ _ _ _ _ _))); go_step)
  refine wpList_built (by rfl) 24 _ rfl _ (by rfl) (k32 L0) (bd24L2) 1 rfl ?_
  (try simp only [Act.put, sI, sS, sZ])
  first | (obtain ⟨Zq, hZ, mZ⟩ := M0.out) | (obtain ⟨Zq, hZ, mZ⟩ := M0.out.toN (k32_size ..))
  refine wpList_store2 (by rfl) 24 _ _ rfl rfl (w.heap.size) (k32 L0) rfl rfl 24 Zq mZ (by rw [k32_size]; kernel_rfl) (hZ.trans (k32_size ..).symm) (row_one _ _ _) ?_
  intro yw2 hw2
  replace M0 := Lib.hid (mZ.setRow (k32 L0))
  replace HB := Lib.hid (below_setRow HB.out (w.heap.size) (k32 L0) (by omega))
  rw [← hw2] at M0 HB; clear mZ hZ hw2
  refine wpList_nil ?_
  go_wp2_with fail
  exact bodyPost_ret (v := .agg (k32 L0)) (results_cell_row (t := 24) (by rfl) _ _ (w.heap.size) _ _ _ rfl M0.out Try.underlying24 rfl (by rw [k32_size]; kernel_rfl)) rfl ⟨rfl, HB.out⟩

/-- block b holds these integers -/
def Ints (w : World) (b len : Nat) (g : Nat → Int) : Prop := b < w.heap.size ∧ ∀ j, j < len → w.cell? ⟨b, j, none⟩ = some (.int .i64 (g j))
section ints
variable {w w' : World} {b len : Nat} {g : Nat → Int}
theorem Ints.lt (h : Ints w b len g) : b < w.heap.size := h.1
theorem Ints.same (h : Ints w b len g) (he : w'.heap[b]? = w.heap[b]?) (hs : w.heap.size ≤ w'.heap.size) : Ints w' b len g :=
  ⟨Nat.lt_of_lt_of_le h.1 hs, fun j hj => (World.cell?_of_block (w := w) (w' := w') (a := ⟨b, j, none⟩) he).trans (h.2 j hj)⟩
theorem Ints.call (h : Ints w b len g) (hb : Below w.heap.size w w') : Ints w' b len g := h.same (hb.block _ h.1) hb.size
theorem Ints.alloc (h : Ints w b len g) (o : Obj) : Ints (w.alloc o) b len g := h.call ((Below.refl _ _).alloc (Nat.le_refl _) _)
theorem Ints.other (h : Ints w b len g) (a : Addr) (v : Value) (hb : b ≠ a.block) : Ints (w.setCell a v) b len g :=
  h.same (heap_setCell_other w a b v hb) ((Below.refl 0 w).setCell (p := a) (Nat.zero_le _) v).size
theorem Ints.setRow_other (h : Ints w b len g) (k : Nat) (c : Array Value) (hg : b ≠ k) : Ints (w.setRow k c) b len g :=
  h.same (Go.setRow_other w k b c hg) (below_setRow (Below.refl 0 w) k c (Nat.zero_le _)).size
end ints

end Go.Proofs.Ytjiagjonlcadiaa
end
