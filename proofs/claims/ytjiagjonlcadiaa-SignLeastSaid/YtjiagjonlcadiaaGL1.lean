/- For every seed and every text the law SignLeast returns true; no condition. -/
import Derived.Deep.DeepCutAuto
import Derived.Deep.CutBlock
import Derived.Test.YtjiagjonlcadiaaRows
import Derived.WalkKit
import Derived.ProofKit
import Derived.OpenShut
import Derived.ShutString
import Derived.ChangeOld
import Derived.Below
import Derived.Lib.UnsafeStr
import Derived.Test.YtjiagjonlcadiaaGb6
set_option maxRecDepth 100000
set_option maxHeartbeats 16000000
set_option linter.unusedVariables false
set_option linter.unusedSimpArgs false
namespace Go.Sx
section
open Go Go.RowKit
variable {C : Cx} {L : List Ent}
theorem lpe {C : Cx} (hT : TabOk C.P C.T) {body : Code} {K : Exit → Sy → Prop} {s : Sy} (id : Nat) {β : Type} (I : β → Prop) (E : β → Sy) {α : Type} (J : α → Prop) (f : α → Sy) (μ : α → Nat) (x0 : α) (h0 : J x0) (hle : Le (f x0) s)
 (step : ∀ x, J x → cx C body (fun e s' => match e with | .normal => ∃ y, J y ∧ μ y < μ x ∧ Le (f y) s' | .exit j => cond (Nat.beq j id) (∃ z, I z ∧ Le (E z) s') (K (.exit j) s') | e => K e s') (f x))
 (hE : ∀ z, I z → K (.exit id) (E z)) : LoopP C body K s := by
 have h := lp hT (K := fun e s' => match e with | .exit j => cond (Nat.beq j id) (∃ z, I z ∧ Le (E z) s') (K (.exit j) s') | e => K e s') J f μ x0 h0 hle (fun x hx => by
  have := step x hx
  have e : (fun e s' => match e with | .normal => ∃ y, J y ∧ μ y < μ x ∧ Le (f y) s' | .exit j => cond (Nat.beq j id) (∃ z, I z ∧ Le (E z) s') (K (.exit j) s') | e => K e s') = (fun e s' => match e with | .normal => ∃ y, J y ∧ μ y < μ x ∧ Le (f y) s' | e => (fun e s' => match e with | .exit j => cond (Nat.beq j id) (∃ z, I z ∧ Le (E z) s') (K (.exit j) s') | e => K e s') e s' : Exit → Sy → Prop) := by
   funext e s'; cases e <;> rfl
  rw [e] at this; exact this)
 refine ⟨fun n a w hf hs => wpIn_mono (h.go n a w hf hs) ?_⟩
 rintro e a' w' ⟨s', hf', hs', hk⟩
 cases e with
 | exit j =>
  simp only at hk
  by_cases hj : j = id
  · subst hj
    simp only [Nat.beq_refl, cond_true] at hk
    obtain ⟨z, hz, hle⟩ := hk
    exact ⟨E z, hf'.le hle, hs'.sub hle.l, hE z hz⟩
  · have : Nat.beq j id = false := Bool.eq_false_iff.2 fun e => hj (Nat.eq_of_beq_eq_true e)
    simp only [this, cond_false] at hk
    exact ⟨s', hf', hs', hk⟩
 | _ => exact ⟨s', hf', hs', hk⟩
end
end Go.Sx
namespace Go.Proofs.Ytjiagjonlcadiaa
section
open Go.RowKit Go.Sx
theorem leN_inj (l m : List UInt8) (hl : l.length = m.length) (h : leN l = leN m) : l = m := by
 refine List.ext_getElem hl fun i h1 h2 => ?_
 have e1 := leN_dg l i h1
 have e2 := leN_dg m i h2
 rw [h, e2] at e1
 simp only [List.getD, List.getElem?_eq_getElem h1, List.getElem?_eq_getElem h2, Option.getD_some] at e1
 exact UInt8.toNat_inj.1 (by omega)
end
section
open Go.RowKit Go.Lib
theorem bd24L2 : Try.prog.built 24 [(0, .int .u8 237), (1, .int .u8 211), (2, .int .u8 245), (3, .int .u8 92), (4, .int .u8 26), (5, .int .u8 99), (6, .int .u8 18), (7, .int .u8 88), (8, .int .u8 214), (9, .int .u8 156), (10, .int .u8 247), (11, .int .u8 162), (12, .int .u8 222), (13, .int .u8 249), (14, .int .u8 222), (15, .int .u8 20), (16, .int .u8 0), (17, .int .u8 0), (18, .int .u8 0), (19, .int .u8 0), (20, .int .u8 0), (21, .int .u8 0), (22, .int .u8 0), (23, .int .u8 0), (24, .int .u8 0), (25, .int .u8 0), (26, .int .u8 0), (27, .int .u8 0), (28, .int .u8 0), (29, .int .u8 0), (30, .int .u8 0), (31, .int .u8 16)] = some (k32 L0) := by kernel_rfl
theorem qcL (w : World) : Calls Try.prog 59 #[] w fun e w' => e = .returned (.agg (k32 L0)) ∧ Below w.heap.size w w' := by
 go_enter Try.func59, Try.ntmps59
 repeat ((fail_if_success (with_reducible (show wpList _ _ _ _ _ _))); go_step)
 (refine wpList_step (fun K hK => ?_); go_simp; (try go_bits); refine hK _ _ ?_; clear hK K)
 refine wpList_nil ?_
 have M0 := Lib.hid (HasN.new w  (#[.int .u8 0, .int .u8 0, .int .u8 0, .int .u8 0, .int .u8 0, .int .u8 0, .int .u8 0, .int .u8 0, .int .u8 0, .int .u8 0, .int .u8 0, .int .u8 0, .int .u8 0, .int .u8 0, .int .u8 0, .int .u8 0, .int .u8 0, .int .u8 0, .int .u8 0, .int .u8 0, .int .u8 0, .int .u8 0, .int .u8 0, .int .u8 0, .int .u8 0, .int .u8 0, .int .u8 0, .int .u8 0, .int .u8 0, .int .u8 0, .int .u8 0, .int .u8 0] : Array Value) 24 32 (by kernel_rfl))
 have HB := Lib.hid (Qc w (.cells (#[.int .u8 0, .int .u8 0, .int .u8 0, .int .u8 0, .int .u8 0, .int .u8 0, .int .u8 0, .int .u8 0, .int .u8 0, .int .u8 0, .int .u8 0, .int .u8 0, .int .u8 0, .int .u8 0, .int .u8 0, .int .u8 0, .int .u8 0, .int .u8 0, .int .u8 0, .int .u8 0, .int .u8 0, .int .u8 0, .int .u8 0, .int .u8 0, .int .u8 0, .int .u8 0, .int .u8 0, .int .u8 0, .int .u8 0, .int .u8 0, .int .u8 0, .int .u8 0] : Array Value) 24))
 obtain ⟨yw1, hwyw1⟩ : ∃ ww, ww = (w.alloc (.cells (#[.int .u8 0, .int .u8 0, .int .u8 0, .int .u8 0, .int .u8 0, .int .u8 0, .int .u8 0, .int .u8 0, .int .u8 0, .int .u8 0, .int .u8 0, .int .u8 0, .int .u8 0, .int .u8 0, .int .u8 0, .int .u8 0, .int .u8 0, .int .u8 0, .int .u8 0, .int .u8 0, .int .u8 0, .int .u8 0, .int .u8 0, .int .u8 0, .int .u8 0, .int .u8 0, .int .u8 0, .int .u8 0, .int .u8 0, .int .u8 0, .int .u8 0, .int .u8 0] : Array Value) 24)) := ⟨_, rfl⟩
 rw [← hwyw1] at M0 HB ⊢
 clear hwyw1
 repeat ((fail_if_success (with_reducible (show wpList _ _ _ _ _ _))); go_step)
 refine Qt (by rfl) 24 _ rfl _ (by rfl) (k32 L0) (bd24L2) 1 rfl ?_
 (try simp only [Act.put, sI, sS, sZ])
 first | (obtain ⟨Zq, hZ, mZ⟩ := M0.out) | (obtain ⟨Zq, hZ, mZ⟩ := M0.out.toN (qf ..))
 refine ql (by rfl) 24 _ _ rfl rfl (w.heap.size) (k32 L0) rfl rfl 24 Zq mZ (by rw [qf]; kernel_rfl) (hZ.trans (qf ..).symm) (qp _ _ _) ?_
 intro yw2 hw2
 replace M0 := Lib.hid (mZ.setRow (k32 L0))
 replace HB := Lib.hid (below_setRow HB.out (w.heap.size) (k32 L0) (by omega))
 rw [← hw2] at M0 HB; clear mZ hZ hw2
 refine wpList_nil ?_
 go_wp2_with fail
 exact bodyPost_ret (v := .agg (k32 L0)) (results_cell_row (t := 24) (by rfl) _ _ (w.heap.size) _ _ _ rfl M0.out Try.underlying24 rfl (by rw [qf]; kernel_rfl)) rfl ⟨rfl, HB.out⟩
def Ints (w : World) (b len : Nat) (g : Nat → Int) : Prop := b < w.heap.size ∧ ∀ j, j < len → w.cell? ⟨b, j, none⟩ = some (.int .i64 (g j))
section ints
variable {w w' : World} {b len : Nat} {g : Nat → Int}
end ints
def i34 (n : Nat) : Array Value := row .i64 34 (dg 256 n)
def z131 : Array Value := (#[.int .i64 0, .int .i64 0, .int .i64 0, .int .i64 0, .int .i64 0, .int .i64 0, .int .i64 0, .int .i64 0, .int .i64 0, .int .i64 0, .int .i64 0, .int .i64 0, .int .i64 0, .int .i64 0, .int .i64 0, .int .i64 0, .int .i64 0, .int .i64 0, .int .i64 0, .int .i64 0, .int .i64 0, .int .i64 0, .int .i64 0, .int .i64 0, .int .i64 0, .int .i64 0, .int .i64 0, .int .i64 0, .int .i64 0, .int .i64 0, .int .i64 0, .int .i64 0, .int .i64 0, .int .i64 0] : Array Value)
theorem z131i : z131 = i34 0 := by kernel_rfl
def upf (v k : Nat) : Nat → Int := fun j => if k < j then dg 256 v (j - 1) else dg 256 v j
theorem upf_33 (v : Nat) : row .i64 34 (upf v 33) = i34 v := Qb _ _ _ _ fun j hj => by unfold upf; rw [if_neg (by omega)]
theorem upf_upd (v k : Nat) (x : Int) (h : x = dg 256 v k) : upd (upf v (k + 1)) (k + 1) x = upf v k := by
 funext j
 unfold upd upf
 by_cases e : j = k + 1
 · rw [if_pos e, if_pos (by omega), h, e]; rfl
 · rw [if_neg e]
   by_cases e2 : k + 1 < j
   · rw [if_pos e2, if_pos (by omega)]
   · rw [if_neg e2, if_neg (by omega)]
theorem upf_at (v k : Nat) : upf v (k + 1) k = dg 256 v k := by unfold upf; rw [if_neg (by omega)]
theorem upf_0 (v c : Nat) (hc : c < 256) : row .i64 34 (upd (upf v 0) 0 (c : Int)) = i34 (256 * v + c) := by
 refine Qb _ _ _ _ fun j hj => ?_
 unfold upd upf
 by_cases e : j = 0
 · subst e; rw [if_pos rfl]; unfold dg; rw [Nat.pow_zero, Nat.div_one]; omega
 · rw [if_neg e, if_pos (by omega)]
   obtain ⟨i, rfl⟩ : ∃ i, j = i + 1 := ⟨j - 1, by omega⟩
   unfold dg
   rw [Nat.add_sub_cancel, Nat.pow_succ, Nat.mul_comm (256 ^ i) 256, ← Nat.div_div_eq_div_mul, show (256 * v + c) / 256 = v by omega]
def qbB (m n k : Nat) : Nat → Int := fun j => if j < k then dg 256 m j else dg 256 n j
theorem mixi_at (m n k : Nat) : qbB m n k k = dg 256 n k := by unfold qbB; rw [if_neg (by omega)]
theorem qbA (m n k : Nat) (x : Int) (h : x = dg 256 m k) : upd (qbB m n k) k x = qbB m n (k + 1) := by
 funext j
 unfold upd qbB
 by_cases e : j = k
 · rw [if_pos e, if_pos (by omega), h, e]
 · rw [if_neg e]
   by_cases e2 : j < k
   · rw [if_pos e2, if_pos (by omega)]
   · rw [if_neg e2, if_neg (by omega)]
theorem mixi_0 (m n : Nat) : row .i64 34 (qbB m n 0) = i34 n := Qb _ _ _ _ (fun j hj => by unfold qbB; rw [if_neg (by omega)])
theorem mixi_34 (m n : Nat) : row .i64 34 (qbB m n 34) = i34 m := Qb _ _ _ _ (fun j hj => by unfold qbB; rw [if_pos hj])
theorem sub8 (d n l k c x y : Nat) (h : n / 256 ^ k = d / 256 ^ k + l / 256 ^ k + c) (hc : c < 2) (hx : n / 256 ^ k % 256 = x) (hy : l / 256 ^ k % 256 = y) :
 (x < y + c → d / 256 ^ k % 256 = x + 256 - y - c ∧ n / 256 ^ (k + 1) = d / 256 ^ (k + 1) + l / 256 ^ (k + 1) + 1) ∧ (y + c ≤ x → d / 256 ^ k % 256 = x - y - c ∧ n / 256 ^ (k + 1) = d / 256 ^ (k + 1) + l / 256 ^ (k + 1) + 0) := by
 rw [Nat.pow_succ, ← Nat.div_div_eq_div_mul, ← Nat.div_div_eq_div_mul, ← Nat.div_div_eq_div_mul]
 generalize n / 256 ^ k = N at *
 generalize d / 256 ^ k = D at *
 generalize l / 256 ^ k = L at *
 omega
theorem top_lt (n l k : Nat) (h : ∀ j, k < j → j < 34 → dg 256 n j = dg 256 l j) (hk : k < 34) (hn : n < 256 ^ 34) (hl : l < 256 ^ 34) (hne : dg 256 n k ≠ dg 256 l k) : decide (dg 256 n k < dg 256 l k) = decide (n < l) := by
 have key : ∀ i, i ≤ 33 - k → n / 256 ^ (34 - i) = l / 256 ^ (34 - i) := by
  intro i
  induction i with
  | zero => intro _; rw [Nat.sub_zero, Nat.div_eq_of_lt hn, Nat.div_eq_of_lt hl]
  | succ i ih =>
   intro hi
   have h1 := ih (by omega)
   have h2 := h (34 - (i + 1)) (by omega) (by omega)
   unfold dg at h2
   rw [show 34 - i = 34 - (i + 1) + 1 by omega, Nat.pow_succ, ← Nat.div_div_eq_div_mul, ← Nat.div_div_eq_div_mul] at h1
   omega
 have h1 := key (33 - k) (Nat.le_refl _)
 rw [show 34 - (33 - k) = k + 1 by omega, Nat.pow_succ, ← Nat.div_div_eq_div_mul, ← Nat.div_div_eq_div_mul] at h1
 unfold dg at hne ⊢
 generalize hp : 256 ^ k = p at *
 by_cases h0 : n < l
 · have h3 : n / p ≤ l / p := Nat.div_le_div_right (by omega)
   rw [decide_eq_true h0, decide_eq_true (by omega)]
 · have h3 : l / p ≤ n / p := Nat.div_le_div_right (by omega)
   rw [decide_eq_false h0, decide_eq_false (by omega)]
theorem top_eq (n l : Nat) (h : ∀ j, j < 34 → dg 256 n j = dg 256 l j) (hn : n < 256 ^ 34) (hl : l < 256 ^ 34) : n = l := by
 have key : ∀ i, i ≤ 34 → n / 256 ^ (34 - i) = l / 256 ^ (34 - i) := by
  intro i
  induction i with
  | zero => intro _; rw [Nat.sub_zero, Nat.div_eq_of_lt hn, Nat.div_eq_of_lt hl]
  | succ i ih =>
   intro hi
   have h1 := ih (by omega)
   have h2 := h (34 - (i + 1)) (by omega)
   unfold dg at h2
   rw [show 34 - i = 34 - (i + 1) + 1 by omega, Nat.pow_succ, ← Nat.div_div_eq_div_mul, ← Nat.div_div_eq_div_mul] at h1
   omega
 have := key 34 (Nat.le_refl _)
 rwa [Nat.sub_self, Nat.pow_zero, Nat.div_one, Nat.div_one] at this
theorem L0_val : L0 = 7237005577332262213973186563042994240857116359379907606001950938285454250989 := rfl
theorem p256_34 : (256 : Nat) ^ 34 = 7588550360256754183279148073529370729071901715047420004889892225542594864082845696 := by decide +kernel
theorem dg8 (n j : Nat) : 0 ≤ dg 256 n j ∧ dg 256 n j < 256 := by unfold dg; omega
theorem L0_top (j : Nat) (h : 32 ≤ j) : dg 256 L0 j = 0 := by
 unfold dg
 rw [Nat.div_eq_of_lt (Nat.lt_of_lt_of_le (show L0 < 256 ^ 32 by decide +kernel) (Nat.pow_le_pow_right (by decide) h))]; rfl
end
section
open Go.RowKit Go.Sx
def IntsA (w : World) (a : Option Addr) (len : Nat) (g : Nat → Int) : Prop := len = 0 ∨ ∃ b, a = some ⟨b, 0, none⟩ ∧ Ints w b len g
theorem down_step (N m : Nat) : N / 256 ^ (m + 1) * 256 + N / 256 ^ m % 256 = N / 256 ^ m := by
 rw [Nat.pow_succ, ← Nat.div_div_eq_div_mul]; omega
abbrev ptq (b : Nat) : Value := .pointer (some ⟨b, 0, none⟩)
theorem k32_os (n : Nat) : (k32 n).toList.all (·.oneCell') = true := by unfold k32 row; exact List.all_eq_true.2 fun v hv => Ze _ _ _ v hv
theorem adq (i : Nat) : nad 0 (nmu (Int.toNat (i : Int)) 1) = i := by rw [qK, qI, Nat.zero_add, Nat.mul_one, Int.toNat_natCast]
theorem rgq (kd : IntKind) (n : Nat) (f : Nat → Int) (i : Nat) (h : i < n) : (row kd n f)[nad 0 (nmu (Int.toNat (i : Int)) 1)]? = some (.int kd (f i)) := by rw [adq]; exact QJ _ _ _ _ h
theorem rzq (kd : IntKind) (n : Nat) (f : Nat → Int) (i : Nat) (h : i < n) : nad 0 (nmu (Int.toNat (i : Int)) 1) < (row kd n f).size := by rw [adq, QG]; exact h
theorem rsq (kd : IntKind) (n : Nat) (f g : Nat → Int) (i : Nat) (x : Int) (h : upd f i x = g) : (row kd n f).setIfInBounds (nad 0 (nmu (Int.toNat (i : Int)) 1)) (.int kd x) = row kd n g := by rw [adq, qbp, h]
abbrev qdm : Array Value := #[.int .u8 0, .int .u8 0, .int .u8 0, .int .u8 0, .int .u8 0, .int .u8 0, .int .u8 0, .int .u8 0, .int .u8 0, .int .u8 0, .int .u8 0, .int .u8 0, .int .u8 0, .int .u8 0, .int .u8 0, .int .u8 0, .int .u8 0, .int .u8 0, .int .u8 0, .int .u8 0, .int .u8 0, .int .u8 0, .int .u8 0, .int .u8 0, .int .u8 0, .int .u8 0, .int .u8 0, .int .u8 0, .int .u8 0, .int .u8 0, .int .u8 0, .int .u8 0]
theorem rest_any (a : Option Addr) (len cap N : Nat) (hlen : len ≤ 1000) (hN : N < 256 ^ len) (w : World) (hI : IntsA w a len (dg 256 N)) :
 Calls Try.prog 71 #[.slice a len cap] w fun e w' => e = .returned (.agg (k32 (N % L0))) ∧ Below w.heap.size w w' := by
 refine q9 qi Try.func71 rfl Try.ntmps71 rfl (St.start w) (vs := [.slice a len cap]) ?_
 intro b2
 refine cv qcL ?_
 intro b3
 refine sN 1 rfl (by rw [qf]; rfl) (k32_os _) ?_ (by kernel_rfl)
 intro b4
 refine .as ((len : Int) - 1) (by omega) (by simp only [mn]; omega) (by simp only [mx]; omega) ?_
 have h0 : i34 0 = i34 (N / 256 ^ len % L0) := by rw [Nat.div_eq_of_lt hN, Nat.zero_mod]
 refine lp qi (fun m : Nat => m ≤ len) (fun m => ⟨[(0, .slice a len cap), (2, ptq b2), (3, ptq b3), (4, ptq b4), (5, .int .i64 ((m : Int) - 1))], [cl b2 qdm 24, cl b3 (k32 L0) 24, cl b4 (i34 (N / 256 ^ m % L0)) 131], []⟩) (fun m => m) len (Nat.le_refl _) (by rw [← h0, ← z131i]; exact ⟨⟨rfl, rfl, rfl, rfl, rfl, trivial⟩, .cons (.cons (.cons .nil)), rfl⟩) ?_
 intro m hm
 refine cd (fun h => ?_) (fun h => ?_)
 · obtain ⟨i, rfl⟩ : ∃ i, m = i + 1 := ⟨m - 1, by omega⟩
   rcases hI with h1 | ⟨b, rfl, hIb⟩
   · omega
   have hcell := hIb.2 i (by omega)
   have hbl := hIb.1
   have hds := down_step N i
   obtain ⟨c, hc⟩ : ∃ c, N / 256 ^ i % 256 = c := ⟨_, rfl⟩
   have lc : c < 256 := by rw [← hc]; exact Nat.mod_lt _ (by decide)
   rw [Qp, hc] at hcell
   rw [hc] at hds
   have hTv : N / 256 ^ (i + 1) % L0 < L0 := Nat.mod_lt _ (by decide)
   have hcong : (256 * (N / 256 ^ (i + 1) % L0) + c) % L0 = N / 256 ^ i % L0 := by
    rw [← hds, Nat.add_mod, Nat.mul_mod, Nat.mod_mod, ← Nat.mul_mod, ← Nat.add_mod, Nat.mul_comm]
   generalize N / 256 ^ (i + 1) % L0 = V at hTv hcong ⊢
   generalize hR : N / 256 ^ i % L0 = R at hcong
   rw [show ((i + 1 : Nat) : Int) - 1 = (i : Int) by omega]
   refine lp qi (fun s : Nat => s ≤ 33) (fun s => ⟨[(0, .slice (some ⟨b, 0, none⟩) len cap), (2, ptq b2), (3, ptq b3), (4, ptq b4), (5, .int .i64 (i : Int)), (6, .int .i64 (s : Int))], [cl b2 qdm 24, cl b3 (k32 L0) 24, cl b4 (row .i64 34 (upf V s)) 131], []⟩) (fun s => s) 33 (Nat.le_refl _) (by rw [upf_33]; exact ⟨⟨rfl, rfl, rfl, rfl, rfl, rfl, trivial⟩, .cons (.cons (.cons .nil)), rfl⟩) ?_
   intro s hs
   refine cd (fun h => ?_) (fun h => ?_)
   · obtain ⟨t, rfl⟩ : ∃ t, s = t + 1 := ⟨s - 1, by omega⟩
     refine .as ((t : Int)) (by omega) (by simp only [mn]; omega) (by simp only [mx]; omega) ?_
     refine ⟨by omega, by omega, ?_⟩
     refine ld1 2 rfl (rgq .i64 34 _ t (by omega)) ?_
     refine ⟨by omega, by omega, ?_⟩
     refine s1e 2 _ rfl (rzq _ _ _ _ (by omega)) (rsq .i64 34 _ (upf V t) (t + 1) _ (upf_upd V t _ (upf_at V t))) ?_
     refine .as ((t : Int)) (by omega) (by simp only [mn]; omega) (by simp only [mx]; omega) ?_
     exact ⟨t, by omega, by omega, ⟨⟨rfl, rfl, rfl, rfl, rfl, rfl, trivial⟩, .cons (.cons (.cons .nil)), rfl⟩⟩
   · obtain rfl : s = 0 := by omega
     refine ⟨by omega, by omega, ?_⟩
     refine ldo (by rw [adq]; exact hcell) hbl ?_
     refine ⟨by decide, by decide, ?_⟩
     refine s1e 2 (i34 (256 * V + c)) rfl (by show 0 < (row .i64 34 (upf V 0)).size; rw [QG]; decide) (by show (row .i64 34 (upf V 0)).setIfInBounds 0 (.int .i64 (c : Int)) = _; rw [qbp]; exact upf_0 V c lc) ?_
     refine lpe qi 4 (β := Unit) (fun _ => True) (fun _ => ⟨[(0, .slice (some ⟨b, 0, none⟩) len cap), (2, ptq b2), (3, ptq b3), (4, ptq b4), (5, .int .i64 (i : Int))], [cl b2 qdm 24, cl b3 (k32 L0) 24, cl b4 (i34 R) 131], []⟩) (α := Nat) (fun X => X % L0 = R ∧ X < 256 * L0) (fun X => ⟨[(0, .slice (some ⟨b, 0, none⟩) len cap), (2, ptq b2), (3, ptq b3), (4, ptq b4), (5, .int .i64 (i : Int))], [cl b2 qdm 24, cl b3 (k32 L0) 24, cl b4 (i34 X) 131], []⟩) (fun X => X / L0) (256 * V + c) ⟨hcong, by omega⟩ ⟨⟨rfl, rfl, rfl, rfl, rfl, trivial⟩, .cons (.cons (.cons .nil)), rfl⟩ ?_ ?_
     · rintro X ⟨hX1, hX2⟩
       have hXb : X < 256 ^ 34 := by rw [p256_34]; rw [L0_val] at hX2; omega
       have hLb : L0 < 256 ^ 34 := by rw [p256_34, L0_val]; omega
       refine lpe qi 6 (β := Unit) (fun _ => True) (fun _ => ⟨[(0, .slice (some ⟨b, 0, none⟩) len cap), (2, ptq b2), (3, ptq b3), (4, ptq b4), (5, .int .i64 (i : Int)), (7, .bool (decide (X < L0)))], [cl b2 qdm 24, cl b3 (k32 L0) 24, cl b4 (i34 X) 131], []⟩) (α := Nat) (fun s => s ≤ 34 ∧ ∀ j, s ≤ j → j < 34 → dg 256 X j = dg 256 L0 j) (fun s => ⟨[(0, .slice (some ⟨b, 0, none⟩) len cap), (2, ptq b2), (3, ptq b3), (4, ptq b4), (5, .int .i64 (i : Int)), (7, .bool false), (8, .int .i64 ((s : Int) - 1))], [cl b2 qdm 24, cl b3 (k32 L0) 24, cl b4 (i34 X) 131], []⟩) (fun s => s) 34 ⟨Nat.le_refl _, fun j h1 h2 => by omega⟩ ⟨⟨rfl, rfl, rfl, rfl, rfl, rfl, rfl, trivial⟩, .cons (.cons (.cons .nil)), rfl⟩ ?_ ?_
       · rintro s ⟨hs, hsm⟩
         refine cd (fun h => ?_) (fun h => ?_)
         · obtain ⟨j, rfl⟩ : ∃ j, s = j + 1 := ⟨s - 1, by omega⟩
           rw [show ((j + 1 : Nat) : Int) - 1 = (j : Int) by omega]
           have fin : ∀ y : Int, dg 256 L0 j = y → dg 256 X j ≠ y → decide (dg 256 X j < y) = decide (X < L0) := fun y hy hne => by
            rw [← hy] at hne ⊢; exact top_lt X L0 j (fun q h1 h2 => hsm q (by omega) h2) (by omega) hXb hLb hne
           have go : ∀ y : Int, dg 256 L0 j = y → dg 256 X j = y → ∀ q, j ≤ q → q < 34 → dg 256 X q = dg 256 L0 q := fun y hy he q h1 h2 => by
            by_cases e : q = j
            · rw [e, he, hy]
            · exact hsm q (by omega) h2
           have dl := dg8 L0 j
           refine cd (fun h32 => ?_) (fun h32 => ?_)
           · refine ⟨by omega, by omega, ?_⟩
             refine ld1 1 rfl (rgq .u8 32 (dg 256 L0) j (by omega)) ?_
             refine .same (by simp only [mn]; omega) (by simp only [mx]; omega) ?_
             refine ⟨by omega, by omega, ?_⟩
             refine ld1 2 rfl (rgq .i64 34 (dg 256 X) j (by omega)) ?_
             refine cne (fun hne => ?_) (fun he => ?_)
             · refine ⟨by omega, by omega, ?_⟩
               refine ld1 2 rfl (rgq .i64 34 (dg 256 X) j (by omega)) ?_
               exact ⟨(), trivial, ⟨rfl, rfl, rfl, rfl, rfl, congrArg (fun b => some (Value.bool b)) (fin _ rfl hne), trivial⟩, .cons (.cons (.cons .nil)), rfl⟩
             · refine .as ((j : Int) - 1) (by omega) (by simp only [mn]; omega) (by simp only [mx]; omega) ?_
               exact ⟨j, ⟨by omega, go _ rfl he⟩, by omega, ⟨⟨rfl, rfl, rfl, rfl, rfl, rfl, rfl, trivial⟩, .cons (.cons (.cons .nil)), rfl⟩⟩
           · have hy0 := L0_top j (by omega)
             refine ⟨by omega, by omega, ?_⟩
             refine ld1 2 rfl (rgq .i64 34 (dg 256 X) j (by omega)) ?_
             refine cne (fun hne => ?_) (fun he => ?_)
             · refine ⟨by omega, by omega, ?_⟩
               refine ld1 2 rfl (rgq .i64 34 (dg 256 X) j (by omega)) ?_
               exact ⟨(), trivial, ⟨rfl, rfl, rfl, rfl, rfl, congrArg (fun b => some (Value.bool b)) (fin _ hy0 hne), trivial⟩, .cons (.cons (.cons .nil)), rfl⟩
             · refine .as ((j : Int) - 1) (by omega) (by simp only [mn]; omega) (by simp only [mx]; omega) ?_
               exact ⟨j, ⟨by omega, go _ hy0 he⟩, by omega, ⟨⟨rfl, rfl, rfl, rfl, rfl, rfl, rfl, trivial⟩, .cons (.cons (.cons .nil)), rfl⟩⟩
         · obtain rfl : s = 0 := by omega
           have hfin : false = decide (X < L0) := by rw [top_eq X L0 (fun j hj => hsm j (Nat.zero_le _) hj) hXb hLb]; exact (decide_eq_false (Nat.lt_irrefl _)).symm
           exact ⟨(), trivial, ⟨rfl, rfl, rfl, rfl, rfl, congrArg (fun b => some (Value.bool b)) hfin, trivial⟩, .cons (.cons (.cons .nil)), rfl⟩
       · intro _ _
         refine cd (fun hl => ?_) (fun hl => ?_)
         · have hXR : X = R := by rw [← hX1]; exact (Nat.mod_eq_of_lt hl).symm
           subst hXR
           exact ⟨(), trivial, ⟨⟨rfl, rfl, rfl, rfl, rfl, trivial⟩, .cons (.cons (.cons .nil)), rfl⟩⟩
         · obtain ⟨Y, hY⟩ : ∃ Y, X = Y + L0 := ⟨X - L0, by omega⟩
           have hY1 : Y % L0 = R := by rw [← hX1, hY, Nat.add_mod_right]
           have hY2 : Y < 256 * L0 := by omega
           have hY3 : Y / L0 < X / L0 := by rw [hY, Nat.add_div_right _ (by decide)]; omega
           have H0 : X / 256 ^ 0 = Y / 256 ^ 0 + L0 / 256 ^ 0 + 0 := by rw [Nat.pow_zero, Nat.div_one, Nat.div_one, Nat.div_one]; omega
           refine lp qi (fun x : Nat × Nat => x.1 ≤ 34 ∧ x.2 < 2 ∧ X / 256 ^ x.1 = Y / 256 ^ x.1 + L0 / 256 ^ x.1 + x.2) (fun x => ⟨[(0, .slice (some ⟨b, 0, none⟩) len cap), (2, ptq b2), (3, ptq b3), (4, ptq b4), (5, .int .i64 (i : Int)), (10, .int .i64 (x.2 : Int)), (11, .int .i64 (x.1 : Int))], [cl b2 qdm 24, cl b3 (k32 L0) 24, cl b4 (row .i64 34 (qbB Y X x.1)) 131], []⟩) (fun x => 34 - x.1) (0, 0) ⟨Nat.zero_le _, by decide, H0⟩ (by rw [mixi_0]; exact ⟨⟨rfl, rfl, rfl, rfl, rfl, rfl, rfl, trivial⟩, .cons (.cons (.cons .nil)), rfl⟩) ?_
           rintro ⟨k, cc⟩ ⟨hk, hcc, h0⟩
           dsimp only at hk hcc h0 ⊢
           refine cd (fun h => ?_) (fun h => ?_)
           · have hlt : k < 34 := by omega
             obtain ⟨x, hx⟩ : ∃ x, X / 256 ^ k % 256 = x := ⟨_, rfl⟩
             obtain ⟨y, hy⟩ : ∃ y, L0 / 256 ^ k % 256 = y := ⟨_, rfl⟩
             have lx : x < 256 := by rw [← hx]; exact Nat.mod_lt _ (by decide)
             have ly : y < 256 := by rw [← hy]; exact Nat.mod_lt _ (by decide)
             have lz : Y / 256 ^ k % 256 < 256 := Nat.mod_lt _ (by decide)
             refine ⟨by omega, by omega, ?_⟩
             refine ld1 2 rfl (v := .int .i64 (x : Int)) (by rw [rgq _ _ _ _ hlt, mixi_at, Qp, hx]) ?_
             refine .same (by simp only [mn]; omega) (by simp only [mx]; omega) ?_
             refine cd (fun h32 => ?_) (fun h32 => ?_)
             · refine ⟨by omega, by omega, ?_⟩
               refine ld1 1 rfl (v := .int .u8 (y : Int)) (by unfold k32; rw [rgq _ _ _ _ (by omega), Qp, hy]) ?_
               refine .same (by simp only [mn]; omega) (by simp only [mx]; omega) ?_
               refine .same (by simp only [mn]; omega) (by simp only [mx]; omega) ?_
               by_cases hng : x < y + cc
               · skip
                 obtain ⟨s1, s2⟩ := (sub8 Y X L0 k cc x y h0 hcc hx hy).1 (by omega)
                 refine cd (fun hn => ?_) (fun hn => absurd (by omega) hn)
                 refine .as ((Y / 256 ^ k % 256 : Nat) : Int) (by omega) (by simp only [mn]; omega) (by simp only [mx]; omega) ?_
                 refine ⟨by omega, by omega, ?_⟩
                 refine s1e 2 _ rfl (rzq _ _ _ _ hlt) (rsq .i64 34 _ (qbB Y X (k + 1)) k _ (qbA Y X k _ rfl)) ?_
                 refine .as (((k + 1 : Nat) : Int)) (by omega) (by simp only [mn]; omega) (by simp only [mx]; omega) ?_
                 exact ⟨(k + 1, 1), ⟨by omega, by show (_ : Nat) < 2; omega, s2⟩, by omega, ⟨⟨rfl, rfl, rfl, rfl, rfl, rfl, rfl, trivial⟩, .cons (.cons (.cons .nil)), rfl⟩⟩
               · skip
                 obtain ⟨s1, s2⟩ := (sub8 Y X L0 k cc x y h0 hcc hx hy).2 (by omega)
                 refine cd (fun hn => absurd hn (by omega)) (fun hn => ?_)
                 rw [show (x : Int) - (cc : Int) - (y : Int) = ((Y / 256 ^ k % 256 : Nat) : Int) by omega]
                 refine ⟨by omega, by omega, ?_⟩
                 refine s1e 2 _ rfl (rzq _ _ _ _ hlt) (rsq .i64 34 _ (qbB Y X (k + 1)) k _ (qbA Y X k _ rfl)) ?_
                 refine .as (((k + 1 : Nat) : Int)) (by omega) (by simp only [mn]; omega) (by simp only [mx]; omega) ?_
                 exact ⟨(k + 1, 0), ⟨by omega, by show (_ : Nat) < 2; omega, s2⟩, by omega, ⟨⟨rfl, rfl, rfl, rfl, rfl, rfl, rfl, trivial⟩, .cons (.cons (.cons .nil)), rfl⟩⟩
             · have hy0 : L0 / 256 ^ k % 256 = 0 := by have := L0_top k (by omega); rw [Qp] at this; omega
               by_cases hng : x < 0 + cc
               · skip
                 obtain ⟨s1, s2⟩ := (sub8 Y X L0 k cc x 0 h0 hcc hx hy0).1 (by omega)
                 refine cd (fun hn => ?_) (fun hn => absurd (by omega) hn)
                 refine .as ((Y / 256 ^ k % 256 : Nat) : Int) (by omega) (by simp only [mn]; omega) (by simp only [mx]; omega) ?_
                 refine ⟨by omega, by omega, ?_⟩
                 refine s1e 2 _ rfl (rzq _ _ _ _ hlt) (rsq .i64 34 _ (qbB Y X (k + 1)) k _ (qbA Y X k _ rfl)) ?_
                 refine .as (((k + 1 : Nat) : Int)) (by omega) (by simp only [mn]; omega) (by simp only [mx]; omega) ?_
                 exact ⟨(k + 1, 1), ⟨by omega, by show (_ : Nat) < 2; omega, s2⟩, by omega, ⟨⟨rfl, rfl, rfl, rfl, rfl, rfl, rfl, trivial⟩, .cons (.cons (.cons .nil)), rfl⟩⟩
               · skip
                 obtain ⟨s1, s2⟩ := (sub8 Y X L0 k cc x 0 h0 hcc hx hy0).2 (by omega)
                 refine cd (fun hn => absurd hn (by omega)) (fun hn => ?_)
                 rw [show (x : Int) - (cc : Int) = ((Y / 256 ^ k % 256 : Nat) : Int) by omega]
                 refine ⟨by omega, by omega, ?_⟩
                 refine s1e 2 _ rfl (rzq _ _ _ _ hlt) (rsq .i64 34 _ (qbB Y X (k + 1)) k _ (qbA Y X k _ rfl)) ?_
                 refine .as (((k + 1 : Nat) : Int)) (by omega) (by simp only [mn]; omega) (by simp only [mx]; omega) ?_
                 exact ⟨(k + 1, 0), ⟨by omega, by show (_ : Nat) < 2; omega, s2⟩, by omega, ⟨⟨rfl, rfl, rfl, rfl, rfl, rfl, rfl, trivial⟩, .cons (.cons (.cons .nil)), rfl⟩⟩
           · obtain rfl : k = 34 := by omega
             rw [mixi_34]
             exact ⟨Y, ⟨hY1, hY2⟩, hY3, ⟨⟨rfl, rfl, rfl, rfl, rfl, trivial⟩, .cons (.cons (.cons .nil)), rfl⟩⟩
     · intro _ _
       refine .as ((i : Int) - 1) (by omega) (by simp only [mn]; omega) (by simp only [mx]; omega) ?_
       rw [← hR]
       exact ⟨i, by omega, by omega, ⟨⟨rfl, rfl, rfl, rfl, rfl, trivial⟩, .cons (.cons (.cons .nil)), rfl⟩⟩
 · obtain rfl : m = 0 := by omega
   rw [Nat.pow_zero, Nat.div_one]
   generalize N % L0 = r
   intro b13
   have hz : qdm = row .u8 32 (qci r 0) := (show qdm = k32 0 by kernel_rfl).trans (mixb_0 r).symm
   refine lp qi (fun k : Nat => k ≤ 32) (fun k => ⟨[(2, ptq b2), (4, ptq b4), (13, ptq b13), (14, .int .i64 (k : Int))], [cl b2 qdm 24, dead, cl b4 (i34 r) 131, cl b13 (row .u8 32 (qci r k)) 24], []⟩) (fun k => 32 - k) 0 (Nat.zero_le _) (by rw [← hz]; exact ⟨⟨rfl, rfl, rfl, rfl, trivial⟩, .cons (.dead (.cons (.cons .nil))), rfl⟩) ?_
   intro k hk
   refine cd (fun h => ?_) (fun h => ?_)
   · have hlt : k < 32 := by omega
     have hb := dg8 r k
     refine ⟨by omega, by omega, ?_⟩
     refine ld1 2 rfl (rgq .i64 34 (dg 256 r) k (by omega)) ?_
     refine .same (by simp only [mn]; omega) (by simp only [mx]; omega) ?_
     refine ⟨by omega, by omega, ?_⟩
     refine s1e 3 _ rfl (rzq _ _ _ _ hlt) (rsq .u8 32 _ (qci r (k + 1)) k _ (qc2 r k _ rfl)) ?_
     refine .as (((k + 1 : Nat) : Int)) (by omega) (by simp only [mn]; omega) (by simp only [mx]; omega) ?_
     exact ⟨k + 1, by omega, by omega, ⟨rfl, rfl, rfl, rfl, trivial⟩, .cons (.dead (.cons (.cons .nil))), rfl⟩
   · obtain rfl : k = 32 := by omega
     rw [mixb_32]
     refine ldN 3 rfl (qf _) ?_
     refine sN 0 rfl (by rw [qf]; rfl) (k32_os _) ?_ (by kernel_rfl)
     refine ldN 0 rfl (qf _) ?_
     exact rt rfl
end
section
open Go.RowKit Go.Lib
theorem ent71 : _root_.Go.Enters Try.prog 71 := ⟨_, Try.func71, by kernel_rfl, by kernel_rfl⟩
theorem info3 : (Try.prog.info? 3).map (fun i => (i.zero, i.size, i.bytes)) = some (some (.int .i64 0), 1, 8) := by kernel_rfl
def qc5 (vals : Nat → Int) (k : Nat) : List Value := (List.range k).map fun j => Value.int .i64 (vals j)
theorem ivals_succ (vals : Nat → Int) (k : Nat) : qc5 vals (k + 1) = qc5 vals k ++ [.int .i64 (vals k)] := by simp [qc5, List.range_succ]
theorem own_ints {W : World} {base len : Nat} {v : Value} {g : Nat → Int} (h : W.ownsRow base 3 1 v len (qc5 g len)) : ∃ a cap, v = .slice a len cap ∧ IntsA W a len g := by
 obtain ⟨hl, hr⟩ := h
 rcases hr with ⟨rfl, rfl⟩ | ⟨b, cap, cur, rfl, _, hg, hn, _, hcs, htk⟩
 · exact ⟨none, 0, rfl, .inl rfl⟩
 · refine ⟨_, cap, rfl, .inr ⟨b, rfl, (Array.getElem?_eq_some_iff.1 hg).1, fun i hi => ?_⟩⟩
   have hm : Has W b cur 3 := hg
   rw [hm.cellAt]
   have h2 : (cur.toList.take (len * 1))[i]? = some (.int .i64 (g i)) := by rw [htk]; simp [qc5, hi]
   rw [List.getElem?_take_of_lt (by omega)] at h2
   simpa using h2
theorem qcM (a : Option Addr) (len cap n : Nat) (hlen : len ≤ 1000) (hn : n < 256 ^ len) (w : World) (hb : Byts w a len n) :
 Calls Try.prog 24 #[.slice a len cap] w fun e w' => e = .returned (.agg (k32 (n % L0))) ∧ Below w.heap.size w w' := by
 obtain ⟨i0, hi, hz0, hz1, hz2⟩ := info_parts info3
 have hre := fun a cap w h => rest_any a len cap n hlen hn w h
 have MBY := Lib.hid hb
 clear hb hn
 have Hre := Lib.hid hre; clear hre
 go_enter Try.func24, Try.ntmps24
 repeat ((fail_if_success (with_reducible (show wpList _ _ _ _ _ _))); go_step)
 (refine wpList_step (fun K hK => ?_); go_simp; (try go_bits); refine hK _ _ ?_; clear hK K)
 refine wpList_nil ?_
 have M2 := Lib.hid (HasN.new w  (#[.int .u8 0, .int .u8 0, .int .u8 0, .int .u8 0, .int .u8 0, .int .u8 0, .int .u8 0, .int .u8 0, .int .u8 0, .int .u8 0, .int .u8 0, .int .u8 0, .int .u8 0, .int .u8 0, .int .u8 0, .int .u8 0, .int .u8 0, .int .u8 0, .int .u8 0, .int .u8 0, .int .u8 0, .int .u8 0, .int .u8 0, .int .u8 0, .int .u8 0, .int .u8 0, .int .u8 0, .int .u8 0, .int .u8 0, .int .u8 0, .int .u8 0, .int .u8 0] : Array Value) 24 32 (by kernel_rfl))
 have HB := Lib.hid (Qc w (.cells (#[.int .u8 0, .int .u8 0, .int .u8 0, .int .u8 0, .int .u8 0, .int .u8 0, .int .u8 0, .int .u8 0, .int .u8 0, .int .u8 0, .int .u8 0, .int .u8 0, .int .u8 0, .int .u8 0, .int .u8 0, .int .u8 0, .int .u8 0, .int .u8 0, .int .u8 0, .int .u8 0, .int .u8 0, .int .u8 0, .int .u8 0, .int .u8 0, .int .u8 0, .int .u8 0, .int .u8 0, .int .u8 0, .int .u8 0, .int .u8 0, .int .u8 0, .int .u8 0] : Array Value) 24))
 obtain ⟨yw1, hwyw1⟩ : ∃ ww, ww = (w.alloc (.cells (#[.int .u8 0, .int .u8 0, .int .u8 0, .int .u8 0, .int .u8 0, .int .u8 0, .int .u8 0, .int .u8 0, .int .u8 0, .int .u8 0, .int .u8 0, .int .u8 0, .int .u8 0, .int .u8 0, .int .u8 0, .int .u8 0, .int .u8 0, .int .u8 0, .int .u8 0, .int .u8 0, .int .u8 0, .int .u8 0, .int .u8 0, .int .u8 0, .int .u8 0, .int .u8 0, .int .u8 0, .int .u8 0, .int .u8 0, .int .u8 0, .int .u8 0, .int .u8 0] : Array Value) 24)) := ⟨_, rfl⟩
 rw [← hwyw1] at M2 HB ⊢
 clear hwyw1
 repeat ((fail_if_success (with_reducible (show wpList _ _ _ _ _ _))); go_step)
 (refine wpList_step (fun K hK => ?_); go_simp; (try go_bits); refine hK _ _ ?_; clear hK K)
 refine wpList_nil ?_
 repeat ((fail_if_success (with_reducible (show wpList _ _ _ _ _ _))); go_step)
 (refine wpList_step (fun K hK => ?_); go_simp; (try go_bits); refine hK _ _ ?_; clear hK K)
 refine wpList_nil ?_
 repeat ((fail_if_success (with_reducible (show wpList _ _ _ _ _ _))); go_step)
 go_loopw [3, 4] (fun v i wr => ∃ k : Nat, k ≤ len ∧ i = .int .i64 (k : Int) ∧ wr.ownsRow (w.heap.size + 1) 3 1 v k (qc5 (dg 256 n) k) ∧ HasN wr w.heap.size 32 24 ∧ Below w.heap.size w wr) (fun _ i _ => (len - (intOf i).toNat))
 case atStart => exact ⟨0, Nat.zero_le _, rfl, World.ownsRow_nil _ _ _ _, M2.out, HB.out⟩
 case round =>
  clear M2 HB
  obtain ⟨k, hk, rfl, hown, m2, hB⟩ := hrel
  obtain ⟨v, rfl⟩ : ∃ v, v = u3 := ⟨_, rfl⟩
  have Hown := Lib.hid hown; clear hown
  have M2 := Lib.hid m2; clear m2
  have HB := Lib.hid hB; clear hB
  rcases Nat.lt_or_ge k len with hlt | hge
  · rcases MBY.out with h0 | ⟨b, o, rfl, hbl, hcb⟩
    · omega
    have kq : (k : Int) < (len : Int) := by omega
    have hc1 := (HB.out.cell (p := ⟨b, o + k, none⟩) hbl).trans (hcb k hlt)
    clear hcb
    obtain ⟨c, hc⟩ : ∃ c, n / 256 ^ k % 256 = c := ⟨_, rfl⟩
    have lc : c < 256 := by omega
    rw [Qp, hc] at hc1
    have hdc : dg 256 n k = (c : Int) := by rw [Qp, hc]
    clear hc
    have Hdc := Lib.hid hdc; clear hdc
    repeat ((fail_if_success (with_reducible (show wpList _ _ _ _ _ _))); go_step)
    iterate 4 (refine wpList_step (fun K hK => ?_); go_simp; (try go_bits); refine hK _ _ ?_; clear hK K)
    refine wpList_nil ?_
    repeat ((fail_if_success (with_reducible (show wpList _ _ _ _ _ _))); go_step)
    iterate 7 (refine wpList_step (fun K hK => ?_); go_simp; (try go_bits); refine hK _ _ ?_; clear hK K)
    clear hc1
    refine wpList_append_own _ rfl _ _ 88 rfl (w.heap.size + 1) 3 i0 (.int .i64 0) 1 8 Try.underlying88 hi hz0 hz1 hz2 rfl (by decide) v k (qc5 (dg 256 n) k) rfl (Hown.out.alloc _) ⟨wr.heap.size, 0, none⟩ 1 1 [.int .i64 (c : Int)] rfl rfl (cell_one_new _ _ _) (by simp [Value.oneCell']) (by unfold maxLen; omega) (by omega) (by have := M2.out.lt; simp; omega) ?_
    intro v' w1 hown' hgrow _
    rw [← Hdc.out, ← ivals_succ] at hown'
    have hlt2 := M2.out.lt
    have hb1 : Below w.heap.size w w1 := (HB.out.alloc HB.out.size (.cells #[.int .i64 (c : Int)] 3)).grown hgrow (by rw [World.size_alloc]; have := HB.out.size; omega) (fun j e => by have := (Hown.out.lt j e).1; omega)
    have m2' : HasN w1 w.heap.size 32 24 := by
     obtain ⟨cs, hn, hh⟩ := M2.out.alloc (.cells #[.int .i64 (c : Int)] 3)
     exact ⟨cs, hn, (hgrow.block _ hh.lt (fun e => by have := (Hown.out.lt _ e.symm).1; omega)).trans hh⟩
    clear Hown M2 HB hgrow hlt2
    have Hown' := Lib.hid hown'; clear hown'
    have M2' := Lib.hid m2'; clear m2'
    have Hb1 := Lib.hid hb1; clear hb1
    (try simp only [Act.put, sI, sS, sZ])
    (refine wpList_step (fun K hK => ?_); go_simp; (try go_bits); refine hK _ _ ?_; clear hK K)
    refine wpList_nil ?_
    repeat ((fail_if_success (with_reducible (show wpList _ _ _ _ _ _))); go_step)
    iterate 3 (refine wpList_step (fun K hK => ?_); go_simp; (try go_bits); refine hK _ _ ?_; clear hK K)
    refine wpList_nil ?_
    go_roundw
    case measure => simp [intOf]; omega
    case rel => (repeat apply Exists.intro); exact ⟨⟨k + 1, by omega, by go_num, Hown'.out, M2'.out, Hb1.out⟩, rfl⟩
  · have hkl : k = len := by omega
    subst hkl
    clear hk hge
    obtain ⟨a2, cap2, rfl, hia⟩ := own_ints Hown.out
    have Hia := Lib.hid hia; clear hia
    repeat ((fail_if_success (with_reducible (show wpList _ _ _ _ _ _))); go_step)
    iterate 4 (refine wpList_step (fun K hK => ?_); go_simp; (try go_bits); refine hK _ _ ?_; clear hK K)
    refine wpList_nil ?_
    repeat ((fail_if_success (with_reducible (show wpList _ _ _ _ _ _))); go_step)
    (refine wpList_step (fun K hK => ?_); go_simp; (try go_bits); refine hK _ _ ?_; clear hK K)
    refine qm (by rfl) rfl rfl (by rfl) ent71 (by rfl) (Hre.out a2 cap2 _ Hia.out) 20 rfl ?_
    rintro e uw101 ⟨rfl, hb⟩
    replace M2 := Lib.hid (M2.out.call hb)
    replace HB := Lib.hid (qh HB.out hb)
    refine ⟨_, rfl, ?_⟩
    clear hb
    (try simp only [Act.put, sI, sS, sZ])
    first | (obtain ⟨Zq, hZ, mZ⟩ := M2.out) | (obtain ⟨Zq, hZ, mZ⟩ := M2.out.toN (qf ..))
    refine ql (by rfl) 24 _ _ rfl rfl (w.heap.size) (k32 (n % L0)) rfl rfl 24 Zq mZ (by rw [qf]; kernel_rfl) (hZ.trans (qf ..).symm) (qp _ _ _) ?_
    intro yw101 hw2
    replace M2 := Lib.hid (mZ.setRow (k32 (n % L0)))
    replace HB := Lib.hid (below_setRow HB.out (w.heap.size) (k32 (n % L0)) (by omega))
    rw [← hw2] at M2 HB; clear mZ hZ hw2
    refine wpList_nil ?_
    go_wp2_with fail
    exact bodyPost_ret (v := .agg (k32 (n % L0))) (results_cell_row (t := 24) (by rfl) _ _ (w.heap.size) _ _ _ rfl M2.out Try.underlying24 rfl (by rw [qf]; kernel_rfl)) rfl ⟨rfl, HB.out⟩
end
section
open Go.RowKit Go.Sx
theorem ZR (w : World) (v : Value) (bs : List UInt8) (hrd : Rd w v (Lib.byteCells bs)) (hn : bs.length ≤ 1000000) : Calls Try.prog 101 ([v] : List Value).toArray w fun e w' => e = .returned (.agg (k32 (resN bs))) ∧ Below w.heap.size w w' := by
 have hlen := zL bs
 refine q9 qi Try.func101 rfl Try.ntmps101 rfl (St.start w) ?_
 intro b2
 refine cvs (fun w' hs => qdD v bs w' (hrd.below hs.below) hn) ?_
 unfold resN
 generalize zt bs = D at *
 have hl : (Lib.byteCells D).length = 64 := by rw [Lib.byteCells_length, hlen]
 intro b3
 refine sN 1 rfl (by simp [hl]) (QS D) ?_ (by kernel_rfl)
 refine ⟨.mk 0 64 64 rfl rfl rfl (by decide) (by decide) (by decide) (by simp) (.on (by decide) ?_)⟩
 refine cvs (v := .agg (k32 (leN D % L0))) (fun w' hs => ?_) ?_
 · have hrd : Rd w' (.slice (some ⟨b3, 0, none⟩) 64 64) (Lib.byteCells D) := Rd.ent hs 1 rfl hl.symm (by rw [List.drop_zero, List.take_of_length_le (by simpa using Nat.le_of_eq hl)])
   obtain ⟨a, c, hv, hb⟩ := byts_of hrd
   rw [hlen] at hv hb
   injection hv with h1 h2 h3
   subst h1 h3
   exact qcM _ 64 64 (leN D) (by decide) (by rw [← hlen]; exact qaw D) w' hb
 refine sN 0 rfl (by rw [qf]; rfl) (qF _) ?_ (by kernel_rfl)
 refine ldN 0 rfl (qf _) ?_
 exact rt rfl
end
section
open Go.RowKit Go.Lib
theorem mkL (w : World) : (Instr.makeSlice 88 (.int .i64 67) (.int .i64 67)).run Try.prog w = .ok (.slice (some ⟨w.heap.size, 0, none⟩) 67 67) (w.alloc (.cells (row .i64 67 fun _ => 0) 3)) := by
 obtain ⟨i0, hi, hz0, hz1, hz2⟩ := info_parts info3
 have h := run_makeSlice (P := Try.prog) w 88 3 i0 _ Try.underlying88 hi hz0 .i64 .i64 67 67 (by decide) (by decide) (by rw [hz1]; decide) (by rw [hz2]; decide) (by decide)
 rw [hz1] at h
 have e : madeCells (Value.int .i64 0).cells 67 = row .i64 67 fun _ => 0 := by
  apply Array.ext_getElem?
  intro j
  by_cases hj : j < 67
  · rw [QJ _ _ _ _ hj]; simp [madeCells, Value.cells, hj, Nat.mod_one]
  · rw [Zg _ _ _ _ hj]; simp [madeCells]; omega
 have h2 : madeCells (Value.int .i64 0).cells ((67 : Int).toNat * 1) = row .i64 67 fun _ => 0 := e
 rw [h2] at h
 exact h
theorem sumf_32 (n : Nat) (hn : n < 115792089237316195423570985008687907853269984665640564039457584007913129639936) : qr 256 (dg 256 n) 32 = n := by
 have := Q7 256 n 32
 rw [Nat.mod_eq_of_lt (by rw [p256_32]; exact hn)] at this
 exact this
theorem mul8 (x y : Int) (hx0 : 0 ≤ x) (hx : x < 256) (hy0 : 0 ≤ y) (hy : y < 256) : 0 ≤ x * y ∧ x * y ≤ 65025 :=
 ⟨Int.mul_nonneg hx0 hy0, by have := Int.mul_le_mul (show x ≤ 255 by omega) (show y ≤ 255 by omega) hy0 (by decide); omega⟩
theorem carry8 (h : Nat → Int) (i : Nat) (hi : i < 66) : qr 256 (upd (upd h (i + 1) (h (i + 1) + h i / 256)) i (h i % 256)) 67 = qr 256 h 67 := by
 rw [Qs _ _ _ _ _ (by omega), Qs _ _ _ _ _ (by omega), qD _ _ _ _ (by omega), Int.pow_succ]
 have e : h i = 256 * (h i / 256) + h i % 256 := by omega
 generalize h i / 256 = q at *
 generalize h i % 256 = r at *
 rw [e]
 generalize (256 : Int) ^ i = P
 grind
theorem bytes67 (V : Nat) (h : Nat → Int) (hb : ∀ j, j < 66 → 0 ≤ h j ∧ h j < 256) (h66 : 0 ≤ h 66) (hV : V < 256 ^ 66) (hs : qr 256 h 67 = V) : ∀ j, j < 67 → h j = dg 256 V j := by
 have h0 := Qk 256 (by decide) h 66 (fun i hi => (hb i hi).1)
 have hp : ((256 : Int) ^ 66) = ((256 ^ 66 : Nat) : Int) := by rw [Int.natCast_pow]; rfl
 have hs2 : qr 256 h 66 + h 66 * 256 ^ 66 = V := hs
 have hz : h 66 = 0 := by
  rcases Int.lt_or_le 0 (h 66) with h1 | h1
  · have h2 : 1 * (256 : Int) ^ 66 ≤ h 66 * 256 ^ 66 := Int.mul_le_mul_of_nonneg_right (by omega) (Int.le_of_lt (Int.pow_pos (by decide)))
    rw [hp] at h2 hs2
    generalize 256 ^ 66 = P at *
    omega
  · omega
 exact zo 256 h V 67 (fun i hi => by
  by_cases e : i = 66
  · rw [e, hz]; exact ⟨Int.le_refl 0, (by decide : (0 : Int) < 256)⟩
  · exact hb i (by omega)) hs
theorem p256_66 : (256 : Nat) ^ 66 = 878694100496718043517683302282418331810487718418343092402491322775749527474899974671687634004666183037093927858109549828751614463963730408009475621262727315456 := by decide +kernel
theorem rtimes3_any (A B C : Nat) (hA : A < 115792089237316195423570985008687907853269984665640564039457584007913129639936) (hB : B < 115792089237316195423570985008687907853269984665640564039457584007913129639936) (hC : C < 115792089237316195423570985008687907853269984665640564039457584007913129639936) (w : World) :
 Calls Try.prog 27 #[.agg (k32 A), .agg (k32 B), .agg (k32 C)] w fun e w' => e = .returned (.agg (k32 ((A * B + C) % L0))) ∧ Below w.heap.size w w' := by
 have hsA := sumf_32 A hA
 have hsB := sumf_32 B hB
 have hsC := sumf_32 C hC
 have hV : A * B + C < 256 ^ 66 := by
  rw [p256_66]
  have h1 : A * B < 115792089237316195423570985008687907853269984665640564039457584007913129639936 * 115792089237316195423570985008687907853269984665640564039457584007913129639936 := Nat.mul_lt_mul'' hA hB
  omega
 have hre := fun a cap w h => rest_any a 67 cap (A * B + C) (by decide) (Nat.lt_of_lt_of_le hV (Nat.pow_le_pow_right (by decide) (by decide))) w h
 have hdA := fun j => dg8 A j
 have hdB := fun j => dg8 B j
 have hdC := fun j => dg8 C j
 have HsA := Lib.hid hsA; clear hsA
 have HsB := Lib.hid hsB; clear hsB
 have HsC := Lib.hid hsC; clear hsC
 have HV := Lib.hid hV; clear hV
 have Hre := Lib.hid hre; clear hre
 have HdA := Lib.hid hdA; clear hdA
 have HdB := Lib.hid hdB; clear hdB
 have HdC := Lib.hid hdC; clear hdC
 clear hA hB hC
 go_enter Try.func27, Try.ntmps27
 repeat ((fail_if_success (with_reducible (show wpList _ _ _ _ _ _))); go_step)
 iterate 4 (refine wpList_step (fun K hK => ?_); go_simp; (try go_bits); refine hK _ _ ?_; clear hK K)
 refine wpList_nil ?_
 have M3 := Lib.hid ((((Has.new w  (k32 A) 24).alloc (.cells (k32 B) 24)).alloc (.cells (k32 C) 24)).alloc (.cells (#[.int .u8 0, .int .u8 0, .int .u8 0, .int .u8 0, .int .u8 0, .int .u8 0, .int .u8 0, .int .u8 0, .int .u8 0, .int .u8 0, .int .u8 0, .int .u8 0, .int .u8 0, .int .u8 0, .int .u8 0, .int .u8 0, .int .u8 0, .int .u8 0, .int .u8 0, .int .u8 0, .int .u8 0, .int .u8 0, .int .u8 0, .int .u8 0, .int .u8 0, .int .u8 0, .int .u8 0, .int .u8 0, .int .u8 0, .int .u8 0, .int .u8 0, .int .u8 0] : Array Value) 24))
 have M4 := Lib.hid (((Has.new1 w (.cells (k32 A) 24) (k32 B) 24).alloc (.cells (k32 C) 24)).alloc (.cells (#[.int .u8 0, .int .u8 0, .int .u8 0, .int .u8 0, .int .u8 0, .int .u8 0, .int .u8 0, .int .u8 0, .int .u8 0, .int .u8 0, .int .u8 0, .int .u8 0, .int .u8 0, .int .u8 0, .int .u8 0, .int .u8 0, .int .u8 0, .int .u8 0, .int .u8 0, .int .u8 0, .int .u8 0, .int .u8 0, .int .u8 0, .int .u8 0, .int .u8 0, .int .u8 0, .int .u8 0, .int .u8 0, .int .u8 0, .int .u8 0, .int .u8 0, .int .u8 0] : Array Value) 24))
 have M5 := Lib.hid ((Has.new2 w (.cells (k32 A) 24) (.cells (k32 B) 24) (k32 C) 24).alloc (.cells (#[.int .u8 0, .int .u8 0, .int .u8 0, .int .u8 0, .int .u8 0, .int .u8 0, .int .u8 0, .int .u8 0, .int .u8 0, .int .u8 0, .int .u8 0, .int .u8 0, .int .u8 0, .int .u8 0, .int .u8 0, .int .u8 0, .int .u8 0, .int .u8 0, .int .u8 0, .int .u8 0, .int .u8 0, .int .u8 0, .int .u8 0, .int .u8 0, .int .u8 0, .int .u8 0, .int .u8 0, .int .u8 0, .int .u8 0, .int .u8 0, .int .u8 0, .int .u8 0] : Array Value) 24))
 have M6 := Lib.hid (HasN.new3 w (.cells (k32 A) 24) (.cells (k32 B) 24) (.cells (k32 C) 24) (#[.int .u8 0, .int .u8 0, .int .u8 0, .int .u8 0, .int .u8 0, .int .u8 0, .int .u8 0, .int .u8 0, .int .u8 0, .int .u8 0, .int .u8 0, .int .u8 0, .int .u8 0, .int .u8 0, .int .u8 0, .int .u8 0, .int .u8 0, .int .u8 0, .int .u8 0, .int .u8 0, .int .u8 0, .int .u8 0, .int .u8 0, .int .u8 0, .int .u8 0, .int .u8 0, .int .u8 0, .int .u8 0, .int .u8 0, .int .u8 0, .int .u8 0, .int .u8 0] : Array Value) 24 32 (by kernel_rfl))
 have HB := Lib.hid (qae w (.cells (k32 A) 24) (.cells (k32 B) 24) (.cells (k32 C) 24) (.cells (#[.int .u8 0, .int .u8 0, .int .u8 0, .int .u8 0, .int .u8 0, .int .u8 0, .int .u8 0, .int .u8 0, .int .u8 0, .int .u8 0, .int .u8 0, .int .u8 0, .int .u8 0, .int .u8 0, .int .u8 0, .int .u8 0, .int .u8 0, .int .u8 0, .int .u8 0, .int .u8 0, .int .u8 0, .int .u8 0, .int .u8 0, .int .u8 0, .int .u8 0, .int .u8 0, .int .u8 0, .int .u8 0, .int .u8 0, .int .u8 0, .int .u8 0, .int .u8 0] : Array Value) 24))
 obtain ⟨yw1, hwyw1⟩ : ∃ ww, ww = ((((w.alloc (.cells (k32 A) 24)).alloc (.cells (k32 B) 24)).alloc (.cells (k32 C) 24)).alloc (.cells (#[.int .u8 0, .int .u8 0, .int .u8 0, .int .u8 0, .int .u8 0, .int .u8 0, .int .u8 0, .int .u8 0, .int .u8 0, .int .u8 0, .int .u8 0, .int .u8 0, .int .u8 0, .int .u8 0, .int .u8 0, .int .u8 0, .int .u8 0, .int .u8 0, .int .u8 0, .int .u8 0, .int .u8 0, .int .u8 0, .int .u8 0, .int .u8 0, .int .u8 0, .int .u8 0, .int .u8 0, .int .u8 0, .int .u8 0, .int .u8 0, .int .u8 0, .int .u8 0] : Array Value) 24)) := ⟨_, rfl⟩
 rw [← hwyw1] at M3 M4 M5 M6 HB ⊢
 clear hwyw1
 repeat ((fail_if_success (with_reducible (show wpList _ _ _ _ _ _))); go_step)
 have gL := M6.out.lt
 refine zJ (by rfl) 88 _ _ rfl _ _ rfl rfl _ _ (mkL _) 11 rfl ?_
 have hb := Qc yw1 (.cells (row .i64 67 fun _ => 0) 3)
 have nwML := Has.new yw1 (row .i64 67 fun _ => 0) 3
 obtain ⟨yw2, hwyw2⟩ : ∃ ww, ww = yw1.alloc (.cells (row .i64 67 fun _ => 0) 3) := ⟨_, rfl⟩
 rw [← hwyw2] at hb nwML ⊢
 clear hwyw2
 replace M3 := Lib.hid (M3.out.call hb)
 replace M4 := Lib.hid (M4.out.call hb)
 replace M5 := Lib.hid (M5.out.call hb)
 replace M6 := Lib.hid (M6.out.call hb)
 replace HB := Lib.hid (qh HB.out hb)
 clear hb
 have ML := Lib.hid nwML; clear nwML
 (try simp only [Act.put, sI, sS, sZ])
 (refine wpList_step (fun K hK => ?_); go_simp; (try go_bits); refine hK _ _ ?_; clear hK K)
 refine wpList_nil ?_
 obtain ⟨BL, hBL⟩ : ∃ B, B = yw1.heap.size := ⟨_, rfl⟩
 rw [← hBL] at ML gL ⊢
 clear hBL
 repeat ((fail_if_success (with_reducible (show wpList _ _ _ _ _ _))); go_step)
 (refine wpList_step (fun K hK => ?_); go_simp; (try go_bits); refine hK _ _ ?_; clear hK K)
 refine wpList_nil ?_
 repeat ((fail_if_success (with_reducible (show wpList _ _ _ _ _ _))); go_step)
 go_loopw [8] (fun i wr => ∃ (k : Nat) (h : Nat → Int), k ≤ 32 ∧ i = .int .i64 (k : Int) ∧ RowKit.Hid (∀ j, j < 67 → 0 ≤ h j ∧ h j ≤ (k : Int) * 2081055) ∧ RowKit.Hid (qr 256 h 67 = qr 256 (dg 256 C) k + qr 256 (dg 256 A) k * B) ∧ Has wr w.heap.size (k32 A) 24 ∧ Has wr (w.heap.size + 1) (k32 B) 24 ∧ Has wr (w.heap.size + 1 + 1) (k32 C) 24 ∧ HasN wr (w.heap.size + 1 + 1 + 1) 32 24 ∧ Has wr BL (row .i64 67 h) 3 ∧ Below w.heap.size w wr) (fun i _ => (32 - (intOf i).toNat))
 case atStart => exact ⟨0, fun _ => 0, by omega, rfl, Lib.hid (fun j _ => ⟨Int.le_refl 0, (by decide : (0 : Int) ≤ 0 * 2081055)⟩), Lib.hid (by rw [Q6 _ _ _ (fun _ _ => rfl)]; show (0 : Int) = 0 + 0 * B; omega), M3.out, M4.out, M5.out, M6.out, ML.out, HB.out⟩
 case round =>
  clear M3 M4 M5 M6 ML HB
  obtain ⟨i, h, hi, rfl, Hbd, Hs, m3, m4, m5, m6, mL, hB⟩ := hrel
  have M3 := Lib.hid m3; clear m3
  have M4 := Lib.hid m4; clear m4
  have M5 := Lib.hid m5; clear m5
  have M6 := Lib.hid m6; clear m6
  have ML := Lib.hid mL; clear mL
  have HB := Lib.hid hB; clear hB
  rcases Nat.lt_or_ge i 32 with hilt | hige
  · have iq : (i : Int) < 32 := by omega
    have iq2 : (i : Int) < 67 := by omega
    have hi67 : i < 67 := by omega
    obtain ⟨c0, c1⟩ := HdC.out i
    obtain ⟨c, hc⟩ : ∃ c, c = dg 256 C i := ⟨_, rfl⟩
    rw [← hc] at c0 c1
    obtain ⟨z0, z1⟩ := Hbd.out i hi67
    obtain ⟨z, hz⟩ : ∃ z, z = h i := ⟨_, rfl⟩
    rw [← hz] at z0 z1
    obtain ⟨t, ht⟩ : ∃ t, t = z + c := ⟨_, rfl⟩
    have hwi : IntKind.i64.wrap (i : Int) = (i : Int) := by rw [IntKind.wrap_i64]; omega
    have hwc : IntKind.i64.wrap c = c := by rw [IntKind.wrap_i64]; omega
    have hwt : IntKind.i64.wrap (z + c) = t := by rw [← ht, IntKind.wrap_i64]; omega
    obtain ⟨h2, hh2⟩ : ∃ g, g = upd h i t := ⟨_, rfl⟩
    have Hs2 : RowKit.Hid (qr 256 h2 67 = qr 256 (dg 256 C) (i + 1) + qr 256 (dg 256 A) i * B) := by
     refine Lib.hid ?_
     rw [hh2, Qs _ _ _ _ _ hi67, Hs.out]
     show _ = qr 256 (dg 256 C) i + dg 256 C i * 256 ^ i + qr 256 (dg 256 A) i * B
     rw [← hc, ← hz, ht]
     generalize (256 : Int) ^ i = P
     grind
    have Hbd2 : RowKit.Hid (∀ j, j < 67 → 0 ≤ h2 j ∧ h2 j ≤ (i : Int) * 2081055 + 255) := by
     refine Lib.hid (fun j hj => ?_)
     rw [hh2]; unfold upd
     by_cases e : j = i
     · rw [if_pos e]; omega
     · rw [if_neg e]; have := Hbd.out j hj; omega
    have Hc := Lib.hid hc
    have Hz := Lib.hid hz
    clear hc hz ht Hs Hbd z1
    have Hh2 := Lib.hid hh2; clear hh2
    repeat ((fail_if_success (with_reducible (show wpList _ _ _ _ _ _))); go_step)
    iterate 2 (refine wpList_step (fun K hK => ?_); go_simp; (try go_bits); refine hK _ _ ?_; clear hK K)
    refine wpList_nil ?_
    repeat ((fail_if_success (with_reducible (show wpList _ _ _ _ _ _))); go_step)
    refine wp_region_noPanic ?_
    refine q7 (fun w' => Has w' (BL) (row .i64 67 h) 3 ∧ Has w' (w.heap.size + 1 + 1) (k32 C) 24) 12 13 #[ff,ff,ff,ff,ff,ff,ff,ff,ff,ff,ff,ff,ff] (by kernel_rfl) rfl rfl ?_
    replace M3 := Lib.hid (M3.out.drew)
    replace M4 := Lib.hid (M4.out.drew)
    replace M5 := Lib.hid (M5.out.drew)
    replace M6 := Lib.hid (M6.out.drew)
    replace ML := Lib.hid (ML.out.drew)
    replace HB := Lib.hid (qN HB.out 1)
    obtain ⟨yw101, hwyw101⟩ : ∃ ww, ww = wr.drew := ⟨_, rfl⟩
    rw [← hwyw101] at M3 M4 M5 M6 ML ⊢
    have kq : Below w.heap.size w yw101 := by rw [hwyw101]; exact HB.out
    clear HB; have HB := Lib.hid kq; clear kq hwyw101
    refine qg 0 16 #[tt,ff,ff,ff,ff,ff,ff,ff,ff,ff,ff,ff,ff] (v := ?uv1) rfl rfl rfl (by kernel_rfl) (Or.inl ⟨by rfl, ?uy1⟩) (⟨ML.out, M5.out⟩) ?urest1
    case uy1 => (intro _ _; go_simp; try with_reducible rfl)
    (try simp only [sI, sS, sZ])
    refine qg 1 17 #[tt,tt,ff,ff,ff,ff,ff,ff,ff,ff,ff,ff,ff] (v := ?uv2) rfl rfl rfl (by kernel_rfl) (Or.inl ⟨by rfl, ?uy2⟩) (⟨ML.out, M5.out⟩) ?urest2
    case uy2 => (intro _ _; go_simp; try with_reducible rfl)
    (try simp only [sI, sS, sZ])
    refine qg 2 18 #[tt,tt,tt,ff,ff,ff,ff,ff,ff,ff,ff,ff,ff] (v := ?uv3) rfl rfl rfl (by kernel_rfl) (Or.inl ⟨by rfl, ?uy3⟩) (⟨ML.out, M5.out⟩) ?urest3
    case uy3 => (intro _ _; go_simp; try with_reducible rfl)
    (try simp only [sI, sS, sZ])
    refine qg 3 19 #[tt,tt,tt,tt,ff,ff,ff,ff,ff,ff,ff,ff,ff] (v := ?uv4) rfl rfl rfl (by kernel_rfl) (Or.inl ⟨by rfl, ?uy4⟩) (⟨ML.out, M5.out⟩) ?urest4
    case uy4 => (intro _ _; go_simp; try with_reducible rfl)
    (try simp only [sI, sS, sZ])
    refine qg 4 20 #[tt,tt,tt,tt,tt,ff,ff,ff,ff,ff,ff,ff,ff] (v := ?uv5) rfl rfl rfl (by kernel_rfl) (Or.inl ⟨by rfl, ?uy5⟩) (⟨ML.out, M5.out⟩) ?urest5
    case uy5 => (intro _ _; go_simp; try with_reducible rfl)
    (try simp only [sI, sS, sZ])
    refine qg 5 21 #[tt,tt,tt,tt,tt,tt,ff,ff,ff,ff,ff,ff,ff] rfl rfl rfl (by kernel_rfl) (qT (by rfl) 3 _ rfl (BL) (i) rfl (.int .i64 z) _ (fun _ h => (by rw [Has.cell h.1 i hi67, Hz.out])) Try.underlying3 rfl) (⟨ML.out, M5.out⟩) ?_
    (try simp only [sI, sS, sZ])
    refine qg 6 22 #[tt,tt,tt,tt,tt,tt,tt,ff,ff,ff,ff,ff,ff] (v := ?uv6) rfl rfl rfl (by kernel_rfl) (Or.inl ⟨by rfl, ?uy6⟩) (⟨ML.out, M5.out⟩) ?urest6
    case uy6 => (intro _ _; go_simp; try with_reducible rfl)
    (try simp only [sI, sS, sZ])
    refine qg 7 23 #[tt,tt,tt,tt,tt,tt,tt,tt,ff,ff,ff,ff,ff] (v := ?uv7) rfl rfl rfl (by kernel_rfl) (Or.inl ⟨by rfl, ?uy7⟩) (⟨ML.out, M5.out⟩) ?urest7
    case uy7 => (intro _ _; go_simp; try with_reducible rfl)
    (try simp only [sI, sS, sZ])
    refine qg 8 24 #[tt,tt,tt,tt,tt,tt,tt,tt,tt,ff,ff,ff,ff] rfl rfl rfl (by kernel_rfl) (qT (by rfl) 5 _ rfl (w.heap.size + 1 + 1) (i) rfl (.int .u8 c) _ (fun _ h => (by rw [Has.cell h.2 i hilt, Hc.out])) Try.underlying5 rfl) (⟨ML.out, M5.out⟩) ?_
    (try simp only [sI, sS, sZ])
    refine qg 9 25 #[tt,tt,tt,tt,tt,tt,tt,tt,tt,tt,ff,ff,ff] (v := ?uv8) rfl rfl rfl (by kernel_rfl) (Or.inl ⟨by rfl, ?uy8⟩) (⟨ML.out, M5.out⟩) ?urest8
    case uy8 => (intro _ _; go_simp; try with_reducible rfl)
    (try simp only [sI, sS, sZ])
    refine qg 10 26 #[tt,tt,tt,tt,tt,tt,tt,tt,tt,tt,tt,ff,ff] (v := ?uv9) rfl rfl rfl (by kernel_rfl) (Or.inl ⟨by rfl, ?uy9⟩) (⟨ML.out, M5.out⟩) ?urest9
    case uy9 => (intro _ _; go_simp; try with_reducible rfl)
    (try simp only [sI, sS, sZ])
    refine qg 11 27 #[tt,tt,tt,tt,tt,tt,tt,tt,tt,tt,tt,tt,ff] (v := ?uv10) rfl rfl rfl (by kernel_rfl) (Or.inl ⟨by rfl, ?uy10⟩) (⟨ML.out, M5.out⟩) ?urest10
    case uy10 => (intro _ _; go_simp; try with_reducible rfl)
    (try simp only [sI, sS, sZ])
    refine qk (i := 12) (by kernel_rfl) ?_
    refine z9 12 #[tt,tt,tt,tt,tt,tt,tt,tt,tt,tt,tt,tt,tt] rfl rfl rfl (by rfl) 3 _ _ rfl (BL) (i) (.int .i64 (t)) rfl rfl (by rw [ML.out.cell i hi67]; rfl) (ML.out.frozen _) (by kernel_rfl) rfl rfl ⟨fun h => (h rfl).elim, ?_⟩
    have kq := ML.out.set (i) (t); rw [← Hh2.out] at kq; clear ML; have ML := Lib.hid kq; clear kq
    have kq := M3.out.other ⟨BL, i, none⟩ (.int .i64 (t)) (by simp <;> omega); clear M3; have M3 := Lib.hid kq; clear kq
    have kq := M4.out.other ⟨BL, i, none⟩ (.int .i64 (t)) (by simp <;> omega); clear M4; have M4 := Lib.hid kq; clear kq
    have kq := M5.out.other ⟨BL, i, none⟩ (.int .i64 (t)) (by simp <;> omega); clear M5; have M5 := Lib.hid kq; clear kq
    have kq := M6.out.other ⟨BL, i, none⟩ (.int .i64 (t)) (by simp <;> omega); clear M6; have M6 := Lib.hid kq; clear kq
    replace HB := Lib.hid (HB.out.setCell (p := ⟨BL, i, none⟩) (show w.heap.size ≤ BL by omega) (.int .i64 (t)))
    obtain ⟨yw102, hwyw102⟩ : ∃ ww, ww = yw101.setCell ⟨BL, i, none⟩ (.int .i64 (t)) := ⟨_, rfl⟩
    rw [← hwyw102] at M3 M4 M5 M6 ML HB ⊢
    clear hwyw102
    (try simp only [sI, sS, sZ])
    refine qu (by kernel_rfl) (NoPanic.normal ?_)
    clear hwi hwc hwt c0 c1 z0 Hz Hc Hh2
    repeat ((fail_if_success (with_reducible (show wpList _ _ _ _ _ _))); go_step)
    (refine wpList_step (fun K hK => ?_); go_simp; (try go_bits); refine hK _ _ ?_; clear hK K)
    refine wpList_nil ?_
    repeat ((fail_if_success (with_reducible (show wpList _ _ _ _ _ _))); go_step)
    go_loopw [9] (fun q wr => ∃ (k : Nat) (h : Nat → Int), k ≤ 32 ∧ q = .int .i64 (k : Int) ∧ RowKit.Hid (∀ j, j < 67 → 0 ≤ h j ∧ h j ≤ (i : Int) * 2081055 + 255 + (k : Int) * 65025) ∧ RowKit.Hid (qr 256 h 67 = qr 256 (dg 256 C) (i + 1) + qr 256 (dg 256 A) i * B + dg 256 A i * 256 ^ i * qr 256 (dg 256 B) k) ∧ Has wr w.heap.size (k32 A) 24 ∧ Has wr (w.heap.size + 1) (k32 B) 24 ∧ Has wr (w.heap.size + 1 + 1) (k32 C) 24 ∧ HasN wr (w.heap.size + 1 + 1 + 1) 32 24 ∧ Has wr BL (row .i64 67 h) 3 ∧ Below w.heap.size w wr) (fun q _ => (32 - (intOf q).toNat))
    case atStart => exact ⟨0, h2, by omega, rfl, Lib.hid (fun j hj => by have := Hbd2.out j hj; omega), Lib.hid (by rw [Hs2.out]; show _ = _ + dg 256 A i * 256 ^ i * 0; omega), M3.out, M4.out, M5.out, M6.out, ML.out, HB.out⟩
    case round =>
     clear M3 M4 M5 M6 ML HB
     clear Hbd2 Hs2
     obtain ⟨k, h, hk, rfl, Hbd, Hs, m3, m4, m5, m6, mL, hB⟩ := hrel
     have M3 := Lib.hid m3; clear m3
     have M4 := Lib.hid m4; clear m4
     have M5 := Lib.hid m5; clear m5
     have M6 := Lib.hid m6; clear m6
     have ML := Lib.hid mL; clear mL
     have HB := Lib.hid hB; clear hB
     rcases Nat.lt_or_ge k 32 with hklt | hkge
     · have kq : (k : Int) < 32 := by omega
       obtain ⟨x0, x1⟩ := HdA.out i
       obtain ⟨y0, y1⟩ := HdB.out k
       obtain ⟨x, hx⟩ : ∃ x, x = dg 256 A i := ⟨_, rfl⟩
       obtain ⟨y, hy⟩ : ∃ y, y = dg 256 B k := ⟨_, rfl⟩
       rw [← hx] at x0 x1
       rw [← hy] at y0 y1
       obtain ⟨xy0, xy1⟩ := mul8 x y x0 x1 y0 y1
       obtain ⟨p, hp⟩ : ∃ p, p = x * y := ⟨_, rfl⟩
       rw [← hp] at xy0 xy1
       obtain ⟨s, hs⟩ : ∃ s, s = i + k := ⟨_, rfl⟩
       have hs67 : s < 67 := by omega
       have sq : (s : Int) < 67 := by omega
       obtain ⟨z0, z1⟩ := Hbd.out s hs67
       obtain ⟨z, hz⟩ : ∃ z, z = h s := ⟨_, rfl⟩
       rw [← hz] at z0 z1
       obtain ⟨t, ht⟩ : ∃ t, t = z + p := ⟨_, rfl⟩
       have hwi : IntKind.i64.wrap (i : Int) = (i : Int) := by rw [IntKind.wrap_i64]; omega
       have hwk : IntKind.i64.wrap (k : Int) = (k : Int) := by rw [IntKind.wrap_i64]; omega
       have hwik : IntKind.i64.wrap ((i : Int) + (k : Int)) = (s : Int) := by rw [IntKind.wrap_i64]; omega
       have hwx : IntKind.i64.wrap x = x := by rw [IntKind.wrap_i64]; omega
       have hwy : IntKind.i64.wrap y = y := by rw [IntKind.wrap_i64]; omega
       have hwp : IntKind.i64.wrap (x * y) = p := by rw [← hp, IntKind.wrap_i64]; omega
       have hwt : IntKind.i64.wrap (z + p) = t := by rw [← ht, IntKind.wrap_i64]; omega
       obtain ⟨h2, hh2⟩ : ∃ g, g = upd h s t := ⟨_, rfl⟩
       have Hs2 : RowKit.Hid (qr 256 h2 67 = qr 256 (dg 256 C) (i + 1) + qr 256 (dg 256 A) i * B + dg 256 A i * 256 ^ i * qr 256 (dg 256 B) (k + 1)) := by
        refine Lib.hid ?_
        rw [hh2, Qs _ _ _ _ _ hs67, Hs.out]
        show _ = _ + dg 256 A i * 256 ^ i * (qr 256 (dg 256 B) k + dg 256 B k * 256 ^ k)
        rw [← hx, ← hy, ← hz, ht, hs, Int.pow_add, hp]
        generalize (256 : Int) ^ i = P
        generalize (256 : Int) ^ k = R
        grind
       have Hbd2 : RowKit.Hid (∀ j, j < 67 → 0 ≤ h2 j ∧ h2 j ≤ (i : Int) * 2081055 + 255 + ((k + 1 : Nat) : Int) * 65025) := by
        refine Lib.hid (fun j hj => ?_)
        rw [hh2]; unfold upd
        by_cases e : j = s
        · rw [if_pos e]; omega
        · rw [if_neg e]; have := Hbd.out j hj; omega
       have Hx := Lib.hid hx
       have Hy := Lib.hid hy
       have Hz := Lib.hid hz
       clear hx hy hz hp ht hs Hs Hbd z1
       have Hh2 := Lib.hid hh2; clear hh2
       repeat ((fail_if_success (with_reducible (show wpList _ _ _ _ _ _))); go_step)
       iterate 2 (refine wpList_step (fun K hK => ?_); go_simp; (try go_bits); refine hK _ _ ?_; clear hK K)
       refine wpList_nil ?_
       repeat ((fail_if_success (with_reducible (show wpList _ _ _ _ _ _))); go_step)
       refine wp_region_noPanic ?_
       refine q7 (fun w' => Has w' (BL) (row .i64 67 h) 3 ∧ Has w' (w.heap.size) (k32 A) 24 ∧ Has w' (w.heap.size + 1) (k32 B) 24) 21 22 #[ff,ff,ff,ff,ff,ff,ff,ff,ff,ff,ff,ff,ff,ff,ff,ff,ff,ff,ff,ff,ff,ff] (by kernel_rfl) rfl rfl ?_
       replace M3 := Lib.hid (M3.out.drew)
       replace M4 := Lib.hid (M4.out.drew)
       replace M5 := Lib.hid (M5.out.drew)
       replace M6 := Lib.hid (M6.out.drew)
       replace ML := Lib.hid (ML.out.drew)
       replace HB := Lib.hid (qN HB.out 1)
       obtain ⟨yw301, hwyw301⟩ : ∃ ww, ww = wr.drew := ⟨_, rfl⟩
       rw [← hwyw301] at M3 M4 M5 M6 ML ⊢
       have kq : Below w.heap.size w yw301 := by rw [hwyw301]; exact HB.out
       clear HB; have HB := Lib.hid kq; clear kq hwyw301
       refine qg 0 32 #[tt,ff,ff,ff,ff,ff,ff,ff,ff,ff,ff,ff,ff,ff,ff,ff,ff,ff,ff,ff,ff,ff] (v := ?uv11) rfl rfl rfl (by kernel_rfl) (Or.inl ⟨by rfl, ?uy11⟩) (⟨ML.out, M3.out, M4.out⟩) ?urest11
       case uy11 => (intro _ _; go_simp; try with_reducible rfl)
       (try simp only [sI, sS, sZ])
       refine qg 1 33 #[tt,tt,ff,ff,ff,ff,ff,ff,ff,ff,ff,ff,ff,ff,ff,ff,ff,ff,ff,ff,ff,ff] (v := ?uv12) rfl rfl rfl (by kernel_rfl) (Or.inl ⟨by rfl, ?uy12⟩) (⟨ML.out, M3.out, M4.out⟩) ?urest12
       case uy12 => (intro _ _; go_simp; try with_reducible rfl)
       (try simp only [sI, sS, sZ])
       refine qg 2 34 #[tt,tt,tt,ff,ff,ff,ff,ff,ff,ff,ff,ff,ff,ff,ff,ff,ff,ff,ff,ff,ff,ff] (v := ?uv13) rfl rfl rfl (by kernel_rfl) (Or.inl ⟨by rfl, ?uy13⟩) (⟨ML.out, M3.out, M4.out⟩) ?urest13
       case uy13 => (intro _ _; go_simp; try with_reducible rfl)
       (try simp only [sI, sS, sZ])
       refine qg 3 35 #[tt,tt,tt,tt,ff,ff,ff,ff,ff,ff,ff,ff,ff,ff,ff,ff,ff,ff,ff,ff,ff,ff] (v := ?uv14) rfl rfl rfl (by kernel_rfl) (Or.inl ⟨by rfl, ?uy14⟩) (⟨ML.out, M3.out, M4.out⟩) ?urest14
       case uy14 => (intro _ _; go_simp; try with_reducible rfl)
       (try simp only [sI, sS, sZ])
       refine qg 4 36 #[tt,tt,tt,tt,tt,ff,ff,ff,ff,ff,ff,ff,ff,ff,ff,ff,ff,ff,ff,ff,ff,ff] (v := ?uv15) rfl rfl rfl (by kernel_rfl) (Or.inl ⟨by rfl, ?uy15⟩) (⟨ML.out, M3.out, M4.out⟩) ?urest15
       case uy15 => (intro _ _; go_simp; try with_reducible rfl)
       (try simp only [sI, sS, sZ])
       refine qg 5 37 #[tt,tt,tt,tt,tt,tt,ff,ff,ff,ff,ff,ff,ff,ff,ff,ff,ff,ff,ff,ff,ff,ff] (v := ?uv16) rfl rfl rfl (by kernel_rfl) (Or.inl ⟨by rfl, ?uy16⟩) (⟨ML.out, M3.out, M4.out⟩) ?urest16
       case uy16 => (intro _ _; go_simp; try with_reducible rfl)
       (try simp only [sI, sS, sZ])
       refine qg 6 38 #[tt,tt,tt,tt,tt,tt,tt,ff,ff,ff,ff,ff,ff,ff,ff,ff,ff,ff,ff,ff,ff,ff] (v := ?uv17) rfl rfl rfl (by kernel_rfl) (Or.inl ⟨by rfl, ?uy17⟩) (⟨ML.out, M3.out, M4.out⟩) ?urest17
       case uy17 => (intro _ _; go_simp; try with_reducible rfl)
       (try simp only [sI, sS, sZ])
       refine qg 7 39 #[tt,tt,tt,tt,tt,tt,tt,tt,ff,ff,ff,ff,ff,ff,ff,ff,ff,ff,ff,ff,ff,ff] (v := ?uv18) rfl rfl rfl (by kernel_rfl) (Or.inl ⟨by rfl, ?uy18⟩) (⟨ML.out, M3.out, M4.out⟩) ?urest18
       case uy18 => (intro _ _; go_simp; try with_reducible rfl)
       (try simp only [sI, sS, sZ])
       refine qg 8 40 #[tt,tt,tt,tt,tt,tt,tt,tt,tt,ff,ff,ff,ff,ff,ff,ff,ff,ff,ff,ff,ff,ff] (v := ?uv19) rfl rfl rfl (by kernel_rfl) (Or.inl ⟨by rfl, ?uy19⟩) (⟨ML.out, M3.out, M4.out⟩) ?urest19
       case uy19 => (intro _ _; go_simp; try with_reducible rfl)
       (try simp only [sI, sS, sZ])
       refine qg 9 41 #[tt,tt,tt,tt,tt,tt,tt,tt,tt,tt,ff,ff,ff,ff,ff,ff,ff,ff,ff,ff,ff,ff] rfl rfl rfl (by kernel_rfl) (qT (by rfl) 3 _ rfl (BL) (s) rfl (.int .i64 z) _ (fun _ h => (by rw [Has.cell h.1 s hs67, Hz.out])) Try.underlying3 rfl) (⟨ML.out, M3.out, M4.out⟩) ?_
       (try simp only [sI, sS, sZ])
       refine qg 10 42 #[tt,tt,tt,tt,tt,tt,tt,tt,tt,tt,tt,ff,ff,ff,ff,ff,ff,ff,ff,ff,ff,ff] (v := ?uv20) rfl rfl rfl (by kernel_rfl) (Or.inl ⟨by rfl, ?uy20⟩) (⟨ML.out, M3.out, M4.out⟩) ?urest20
       case uy20 => (intro _ _; go_simp; try with_reducible rfl)
       (try simp only [sI, sS, sZ])
       refine qg 11 43 #[tt,tt,tt,tt,tt,tt,tt,tt,tt,tt,tt,tt,ff,ff,ff,ff,ff,ff,ff,ff,ff,ff] (v := ?uv21) rfl rfl rfl (by kernel_rfl) (Or.inl ⟨by rfl, ?uy21⟩) (⟨ML.out, M3.out, M4.out⟩) ?urest21
       case uy21 => (intro _ _; go_simp; try with_reducible rfl)
       (try simp only [sI, sS, sZ])
       refine qg 12 44 #[tt,tt,tt,tt,tt,tt,tt,tt,tt,tt,tt,tt,tt,ff,ff,ff,ff,ff,ff,ff,ff,ff] rfl rfl rfl (by kernel_rfl) (qT (by rfl) 5 _ rfl (w.heap.size) (i) rfl (.int .u8 x) _ (fun _ h => (by rw [Has.cell h.2.1 i hilt, Hx.out])) Try.underlying5 rfl) (⟨ML.out, M3.out, M4.out⟩) ?_
       (try simp only [sI, sS, sZ])
       refine qg 13 45 #[tt,tt,tt,tt,tt,tt,tt,tt,tt,tt,tt,tt,tt,tt,ff,ff,ff,ff,ff,ff,ff,ff] (v := ?uv22) rfl rfl rfl (by kernel_rfl) (Or.inl ⟨by rfl, ?uy22⟩) (⟨ML.out, M3.out, M4.out⟩) ?urest22
       case uy22 => (intro _ _; go_simp; try with_reducible rfl)
       (try simp only [sI, sS, sZ])
       refine qg 14 46 #[tt,tt,tt,tt,tt,tt,tt,tt,tt,tt,tt,tt,tt,tt,tt,ff,ff,ff,ff,ff,ff,ff] (v := ?uv23) rfl rfl rfl (by kernel_rfl) (Or.inl ⟨by rfl, ?uy23⟩) (⟨ML.out, M3.out, M4.out⟩) ?urest23
       case uy23 => (intro _ _; go_simp; try with_reducible rfl)
       (try simp only [sI, sS, sZ])
       refine qg 15 47 #[tt,tt,tt,tt,tt,tt,tt,tt,tt,tt,tt,tt,tt,tt,tt,tt,ff,ff,ff,ff,ff,ff] (v := ?uv24) rfl rfl rfl (by kernel_rfl) (Or.inl ⟨by rfl, ?uy24⟩) (⟨ML.out, M3.out, M4.out⟩) ?urest24
       case uy24 => (intro _ _; go_simp; try with_reducible rfl)
       (try simp only [sI, sS, sZ])
       refine qg 16 48 #[tt,tt,tt,tt,tt,tt,tt,tt,tt,tt,tt,tt,tt,tt,tt,tt,tt,ff,ff,ff,ff,ff] rfl rfl rfl (by kernel_rfl) (qT (by rfl) 5 _ rfl (w.heap.size + 1) (k) rfl (.int .u8 y) _ (fun _ h => (by rw [Has.cell h.2.2 k hklt, Hy.out])) Try.underlying5 rfl) (⟨ML.out, M3.out, M4.out⟩) ?_
       (try simp only [sI, sS, sZ])
       refine qg 17 49 #[tt,tt,tt,tt,tt,tt,tt,tt,tt,tt,tt,tt,tt,tt,tt,tt,tt,tt,ff,ff,ff,ff] (v := ?uv25) rfl rfl rfl (by kernel_rfl) (Or.inl ⟨by rfl, ?uy25⟩) (⟨ML.out, M3.out, M4.out⟩) ?urest25
       case uy25 => (intro _ _; go_simp; try with_reducible rfl)
       (try simp only [sI, sS, sZ])
       refine qg 18 50 #[tt,tt,tt,tt,tt,tt,tt,tt,tt,tt,tt,tt,tt,tt,tt,tt,tt,tt,tt,ff,ff,ff] (v := ?uv26) rfl rfl rfl (by kernel_rfl) (Or.inl ⟨by rfl, ?uy26⟩) (⟨ML.out, M3.out, M4.out⟩) ?urest26
       case uy26 => (intro _ _; go_simp; try with_reducible rfl)
       (try simp only [sI, sS, sZ])
       refine qg 19 51 #[tt,tt,tt,tt,tt,tt,tt,tt,tt,tt,tt,tt,tt,tt,tt,tt,tt,tt,tt,tt,ff,ff] (v := ?uv27) rfl rfl rfl (by kernel_rfl) (Or.inl ⟨by rfl, ?uy27⟩) (⟨ML.out, M3.out, M4.out⟩) ?urest27
       case uy27 => (intro _ _; go_simp; try with_reducible rfl)
       (try simp only [sI, sS, sZ])
       refine qg 20 52 #[tt,tt,tt,tt,tt,tt,tt,tt,tt,tt,tt,tt,tt,tt,tt,tt,tt,tt,tt,tt,tt,ff] (v := ?uv28) rfl rfl rfl (by kernel_rfl) (Or.inl ⟨by rfl, ?uy28⟩) (⟨ML.out, M3.out, M4.out⟩) ?urest28
       case uy28 => (intro _ _; go_simp; try with_reducible rfl)
       (try simp only [sI, sS, sZ])
       refine qk (i := 21) (by kernel_rfl) ?_
       refine z9 21 #[tt,tt,tt,tt,tt,tt,tt,tt,tt,tt,tt,tt,tt,tt,tt,tt,tt,tt,tt,tt,tt,tt] rfl rfl rfl (by rfl) 3 _ _ rfl (BL) (s) (.int .i64 (t)) rfl rfl (by rw [ML.out.cell s hs67]; rfl) (ML.out.frozen _) (by kernel_rfl) rfl rfl ⟨fun h => (h rfl).elim, ?_⟩
       have kq := ML.out.set (s) (t); rw [← Hh2.out] at kq; clear ML; have ML := Lib.hid kq; clear kq
       have kq := M3.out.other ⟨BL, s, none⟩ (.int .i64 (t)) (by simp <;> omega); clear M3; have M3 := Lib.hid kq; clear kq
       have kq := M4.out.other ⟨BL, s, none⟩ (.int .i64 (t)) (by simp <;> omega); clear M4; have M4 := Lib.hid kq; clear kq
       have kq := M5.out.other ⟨BL, s, none⟩ (.int .i64 (t)) (by simp <;> omega); clear M5; have M5 := Lib.hid kq; clear kq
       have kq := M6.out.other ⟨BL, s, none⟩ (.int .i64 (t)) (by simp <;> omega); clear M6; have M6 := Lib.hid kq; clear kq
       replace HB := Lib.hid (HB.out.setCell (p := ⟨BL, s, none⟩) (show w.heap.size ≤ BL by omega) (.int .i64 (t)))
       obtain ⟨yw302, hwyw302⟩ : ∃ ww, ww = yw301.setCell ⟨BL, s, none⟩ (.int .i64 (t)) := ⟨_, rfl⟩
       rw [← hwyw302] at M3 M4 M5 M6 ML HB ⊢
       clear hwyw302
       (try simp only [sI, sS, sZ])
       refine qu (by kernel_rfl) (NoPanic.normal ?_)
       clear hwi hwk hwik hwx hwy hwp hwt x0 x1 y0 y1 xy0 xy1 z0
       repeat ((fail_if_success (with_reducible (show wpList _ _ _ _ _ _))); go_step)
       iterate 3 (refine wpList_step (fun K hK => ?_); go_simp; (try go_bits); refine hK _ _ ?_; clear hK K)
       refine wpList_nil ?_
       go_roundw
       case measure => simp [intOf]; omega
       case rel => (repeat apply Exists.intro); exact ⟨⟨k + 1, h2, by omega, by go_num, Hbd2, Hs2, M3.out, M4.out, M5.out, M6.out, ML.out, HB.out⟩, rfl⟩
     · have hk32 : k = 32 := by omega
       subst hk32
       clear hk hkge
       have Hs2 : RowKit.Hid (qr 256 h 67 = qr 256 (dg 256 C) (i + 1) + qr 256 (dg 256 A) (i + 1) * B) := by
        refine Lib.hid ?_
        rw [Hs.out, HsB.out]
        show _ = _ + (qr 256 (dg 256 A) i + dg 256 A i * 256 ^ i) * B
        rw [Int.add_mul]; omega
       have Hbd2 : RowKit.Hid (∀ j, j < 67 → 0 ≤ h j ∧ h j ≤ ((i + 1 : Nat) : Int) * 2081055) := Lib.hid (fun j hj => by have := Hbd.out j hj; omega)
       clear Hs Hbd
       repeat ((fail_if_success (with_reducible (show wpList _ _ _ _ _ _))); go_step)
       iterate 2 (refine wpList_step (fun K hK => ?_); go_simp; (try go_bits); refine hK _ _ ?_; clear hK K)
       refine wpList_nil ?_
       repeat ((fail_if_success (with_reducible (show wpList _ _ _ _ _ _))); go_step)
       iterate 3 (refine wpList_step (fun K hK => ?_); go_simp; (try go_bits); refine hK _ _ ?_; clear hK K)
       refine wpList_nil ?_
       go_roundw
       case measure => simp [intOf]; omega
       case rel => (repeat apply Exists.intro); exact ⟨⟨i + 1, h, by omega, by go_num, Hbd2, Hs2, M3.out, M4.out, M5.out, M6.out, ML.out, HB.out⟩, rfl⟩
  · have hi32 : i = 32 := by omega
    subst hi32
    clear hi hige
    have hsum := Hs.out
    rw [HsA.out, HsC.out] at hsum
    obtain ⟨V, hVe⟩ : ∃ V, V = A * B + C := ⟨_, rfl⟩
    have Hs2 : RowKit.Hid (qr 256 h 67 = (V : Int)) := Lib.hid (by rw [hsum, hVe]; push_cast; omega)
    have Hbd2 : RowKit.Hid (∀ j, j < 67 → 0 ≤ h j ∧ h j ≤ 70000000) := Lib.hid (fun j hj => by have := Hbd.out j hj; omega)
    clear Hs hsum Hbd M3 M4 M5
    rw [← hVe] at HV Hre
    have HVe := Lib.hid hVe; clear hVe
    repeat ((fail_if_success (with_reducible (show wpList _ _ _ _ _ _))); go_step)
    iterate 2 (refine wpList_step (fun K hK => ?_); go_simp; (try go_bits); refine hK _ _ ?_; clear hK K)
    refine wpList_nil ?_
    repeat ((fail_if_success (with_reducible (show wpList _ _ _ _ _ _))); go_step)
    (refine wpList_step (fun K hK => ?_); go_simp; (try go_bits); refine hK _ _ ?_; clear hK K)
    refine wpList_nil ?_
    repeat ((fail_if_success (with_reducible (show wpList _ _ _ _ _ _))); go_step)
    obtain ⟨w2, rfl⟩ : ∃ W, W = wr := ⟨_, rfl⟩
    go_loopw [10] (fun q wr => ∃ (k : Nat) (h : Nat → Int), k ≤ 66 ∧ q = .int .i64 (k : Int) ∧ RowKit.Hid (∀ j, j < k → 0 ≤ h j ∧ h j < 256) ∧ RowKit.Hid (∀ j, k ≤ j → j < 67 → 0 ≤ h j ∧ h j ≤ if j = k then 80000000 else 70000000) ∧ RowKit.Hid (qr 256 h 67 = (V : Int)) ∧ HasN wr (w.heap.size + 1 + 1 + 1) 32 24 ∧ Has wr BL (row .i64 67 h) 3 ∧ Below w.heap.size w wr) (fun q _ => (66 - (intOf q).toNat))
    case atStart => exact ⟨0, h, by omega, rfl, Lib.hid (fun j hj => by omega), Lib.hid (fun j _ hj => by have := Hbd2.out j hj; split <;> omega), Hs2, M6.out, ML.out, HB.out⟩
    case round =>
     clear M6 ML HB Hbd2 Hs2
     obtain ⟨k, h, hk, rfl, Hlo, Hhi, Hs, m6, mL, hB⟩ := hrel
     have M6 := Lib.hid m6; clear m6
     have ML := Lib.hid mL; clear mL
     have HB := Lib.hid hB; clear hB
     rcases Nat.lt_or_ge k 66 with hklt | hkge
     · have kq : (k : Int) < 66 := by omega
       have kq2 : (k : Int) < 67 := by omega
       have kq3 : (k : Int) + 1 < 67 := by omega
       have hk67 : k < 67 := by omega
       have hk167 : k + 1 < 67 := by omega
       obtain ⟨x0, x1⟩ := Hhi.out k (Nat.le_refl _) hk67
       rw [if_pos rfl] at x1
       obtain ⟨y0, y1⟩ := Hhi.out (k + 1) (by omega) hk167
       rw [if_neg (by omega)] at y1
       have hcs := carry8 h k hklt
       rw [Hs.out] at hcs
       obtain ⟨x, hx⟩ : ∃ x, x = h k := ⟨_, rfl⟩
       obtain ⟨y, hy⟩ : ∃ y, y = h (k + 1) := ⟨_, rfl⟩
       rw [← hx] at x0 x1 hcs
       rw [← hy] at y0 y1 hcs
       obtain ⟨q, hq⟩ : ∃ q, q = x / 256 := ⟨_, rfl⟩
       obtain ⟨r, hr⟩ : ∃ r, r = x % 256 := ⟨_, rfl⟩
       obtain ⟨t, ht⟩ : ∃ t, t = y + q := ⟨_, rfl⟩
       rw [← hq, ← hr, ← ht] at hcs
       have q0 : 0 ≤ q := by omega
       have q1 : q ≤ 312500 := by omega
       obtain ⟨h1, hh1⟩ : ∃ g, g = upd h (k + 1) t := ⟨_, rfl⟩
       obtain ⟨h2, hh2⟩ : ∃ g, g = upd h1 k r := ⟨_, rfl⟩
       rw [← hh1, ← hh2] at hcs
       have hwk : IntKind.i64.wrap (k : Int) = (k : Int) := by rw [IntKind.wrap_i64]; omega
       obtain ⟨s, hs⟩ : ∃ s, s = k + 1 := ⟨_, rfl⟩
       have hs67 : s < 67 := by omega
       have sq : (s : Int) < 67 := by omega
       have hwk1 : IntKind.i64.wrap ((k : Int) + 1) = (s : Int) := by rw [IntKind.wrap_i64]; omega
       have hqd : x.tdiv 256 = q := by rw [Int.tdiv_eq_ediv_of_nonneg x0, hq]
       have hqd2 : IntKind.i64.wrap q = q := by rw [IntKind.wrap_i64]; omega
       have hwt : IntKind.i64.wrap (y + q) = t := by rw [← ht, IntKind.wrap_i64]; omega
       have hxh1 : h1 k = x := by rw [hh1, qD _ _ _ _ (by omega), hx]
       have Hlo2 : RowKit.Hid (∀ j, j < k + 1 → 0 ≤ h2 j ∧ h2 j < 256) := by
        refine Lib.hid (fun j hj => ?_)
        rw [hh2]
        by_cases e : j = k
        · subst e; rw [qw]; omega
        · rw [qD _ _ _ _ e, hh1, qD _ _ _ _ (by omega)]; exact Hlo.out j (by omega)
       have Hhi2 : RowKit.Hid (∀ j, k + 1 ≤ j → j < 67 → 0 ≤ h2 j ∧ h2 j ≤ if j = k + 1 then 80000000 else 70000000) := by
        refine Lib.hid (fun j hj1 hj2 => ?_)
        rw [hh2, qD _ _ _ _ (by omega), hh1]
        by_cases e : j = k + 1
        · subst e; rw [qw, if_pos rfl]; omega
        · rw [qD _ _ _ _ e, if_neg e]
          have := Hhi.out j (by omega) hj2
          rwa [if_neg (by omega)] at this
       have Hcs := Lib.hid hcs
       have Hx := Lib.hid hx
       have Hy := Lib.hid (show h s = y by rw [hs, hy])
       have Hh1 := Lib.hid (show h1 = upd h s t by rw [hs, hh1])
       have Hr := Lib.hid hr
       have Hs1 := Lib.hid hs
       clear hx hy hq hr ht hh1 hcs Hlo Hhi Hs hs x1 y1
       have Hh2 := Lib.hid hh2; clear hh2
       have Hxh1 := Lib.hid hxh1; clear hxh1
       repeat ((fail_if_success (with_reducible (show wpList _ _ _ _ _ _))); go_step)
       iterate 2 (refine wpList_step (fun K hK => ?_); go_simp; (try go_bits); refine hK _ _ ?_; clear hK K)
       refine wpList_nil ?_
       repeat ((fail_if_success (with_reducible (show wpList _ _ _ _ _ _))); go_step)
       refine wp_region_noPanic ?_
       refine q7 (fun w' => Has w' (BL) (row .i64 67 h) 3) 15 16 #[ff,ff,ff,ff,ff,ff,ff,ff,ff,ff,ff,ff,ff,ff,ff,ff] (by kernel_rfl) rfl rfl ?_
       replace M6 := Lib.hid (M6.out.drew)
       replace ML := Lib.hid (ML.out.drew)
       replace HB := Lib.hid (qN HB.out 1)
       obtain ⟨yw501, hwyw501⟩ : ∃ ww, ww = wr.drew := ⟨_, rfl⟩
       rw [← hwyw501] at M6 ML ⊢
       have kq : Below w.heap.size w yw501 := by rw [hwyw501]; exact HB.out
       clear HB; have HB := Lib.hid kq; clear kq hwyw501
       refine qg 0 57 #[tt,ff,ff,ff,ff,ff,ff,ff,ff,ff,ff,ff,ff,ff,ff,ff] (v := ?uv29) rfl rfl rfl (by kernel_rfl) (Or.inl ⟨by rfl, ?uy29⟩) (ML.out) ?urest29
       case uy29 => (intro _ _; go_simp; try with_reducible rfl)
       (try simp only [sI, sS, sZ])
       refine qg 1 58 #[tt,tt,ff,ff,ff,ff,ff,ff,ff,ff,ff,ff,ff,ff,ff,ff] (v := ?uv30) rfl rfl rfl (by kernel_rfl) (Or.inl ⟨by rfl, ?uy30⟩) (ML.out) ?urest30
       case uy30 => (intro _ _; go_simp; try with_reducible rfl)
       (try simp only [sI, sS, sZ])
       refine qg 2 59 #[tt,tt,tt,ff,ff,ff,ff,ff,ff,ff,ff,ff,ff,ff,ff,ff] (v := ?uv31) rfl rfl rfl (by kernel_rfl) (Or.inl ⟨by rfl, ?uy31⟩) (ML.out) ?urest31
       case uy31 => (intro _ _; go_simp; try with_reducible rfl)
       (try simp only [sI, sS, sZ])
       refine qg 3 60 #[tt,tt,tt,tt,ff,ff,ff,ff,ff,ff,ff,ff,ff,ff,ff,ff] (v := ?uv32) rfl rfl rfl (by kernel_rfl) (Or.inl ⟨by rfl, ?uy32⟩) (ML.out) ?urest32
       case uy32 => (intro _ _; go_simp; try with_reducible rfl)
       (try simp only [sI, sS, sZ])
       refine qg 4 61 #[tt,tt,tt,tt,tt,ff,ff,ff,ff,ff,ff,ff,ff,ff,ff,ff] (v := ?uv33) rfl rfl rfl (by kernel_rfl) (Or.inl ⟨by rfl, ?uy33⟩) (ML.out) ?urest33
       case uy33 => (intro _ _; go_simp; try with_reducible rfl)
       (try simp only [sI, sS, sZ])
       refine qg 5 62 #[tt,tt,tt,tt,tt,tt,ff,ff,ff,ff,ff,ff,ff,ff,ff,ff] (v := ?uv34) rfl rfl rfl (by kernel_rfl) (Or.inl ⟨by rfl, ?uy34⟩) (ML.out) ?urest34
       case uy34 => (intro _ _; go_simp; try with_reducible rfl)
       (try simp only [sI, sS, sZ])
       refine qg 6 63 #[tt,tt,tt,tt,tt,tt,tt,ff,ff,ff,ff,ff,ff,ff,ff,ff] (v := ?uv35) rfl rfl rfl (by kernel_rfl) (Or.inl ⟨by rfl, ?uy35⟩) (ML.out) ?urest35
       case uy35 => (intro _ _; go_simp; try with_reducible rfl)
       (try simp only [sI, sS, sZ])
       refine qg 7 64 #[tt,tt,tt,tt,tt,tt,tt,tt,ff,ff,ff,ff,ff,ff,ff,ff] rfl rfl rfl (by kernel_rfl) (qT (by rfl) 3 _ rfl (BL) (s) rfl (.int .i64 y) _ (fun _ h => (by rw [Has.cell h s hs67, Hy.out])) Try.underlying3 rfl) (ML.out) ?_
       (try simp only [sI, sS, sZ])
       refine qg 8 65 #[tt,tt,tt,tt,tt,tt,tt,tt,tt,ff,ff,ff,ff,ff,ff,ff] (v := ?uv36) rfl rfl rfl (by kernel_rfl) (Or.inl ⟨by rfl, ?uy36⟩) (ML.out) ?urest36
       case uy36 => (intro _ _; go_simp; try with_reducible rfl)
       (try simp only [sI, sS, sZ])
       refine qg 9 66 #[tt,tt,tt,tt,tt,tt,tt,tt,tt,tt,ff,ff,ff,ff,ff,ff] (v := ?uv37) rfl rfl rfl (by kernel_rfl) (Or.inl ⟨by rfl, ?uy37⟩) (ML.out) ?urest37
       case uy37 => (intro _ _; go_simp; try with_reducible rfl)
       (try simp only [sI, sS, sZ])
       refine qg 10 67 #[tt,tt,tt,tt,tt,tt,tt,tt,tt,tt,tt,ff,ff,ff,ff,ff] (v := ?uv38) rfl rfl rfl (by kernel_rfl) (Or.inl ⟨by rfl, ?uy38⟩) (ML.out) ?urest38
       case uy38 => (intro _ _; go_simp; try with_reducible rfl)
       (try simp only [sI, sS, sZ])
       refine qg 11 68 #[tt,tt,tt,tt,tt,tt,tt,tt,tt,tt,tt,tt,ff,ff,ff,ff] rfl rfl rfl (by kernel_rfl) (qT (by rfl) 3 _ rfl (BL) (k) rfl (.int .i64 x) _ (fun _ h => (by rw [Has.cell h k hk67, Hx.out])) Try.underlying3 rfl) (ML.out) ?_
       (try simp only [sI, sS, sZ])
       refine qg 12 69 #[tt,tt,tt,tt,tt,tt,tt,tt,tt,tt,tt,tt,tt,ff,ff,ff] (v := ?uv39) rfl rfl rfl (by kernel_rfl) (Or.inl ⟨by rfl, ?uy39⟩) (ML.out) ?urest39
       case uy39 => (intro _ _; go_simp; try with_reducible rfl)
       (try simp only [sI, sS, sZ])
       refine qg 13 70 #[tt,tt,tt,tt,tt,tt,tt,tt,tt,tt,tt,tt,tt,tt,ff,ff] (v := ?uv40) rfl rfl rfl (by kernel_rfl) (Or.inl ⟨by rfl, ?uy40⟩) (ML.out) ?urest40
       case uy40 => (intro _ _; go_simp; try with_reducible rfl)
       (try simp only [sI, sS, sZ])
       refine qg 14 71 #[tt,tt,tt,tt,tt,tt,tt,tt,tt,tt,tt,tt,tt,tt,tt,ff] (v := ?uv41) rfl rfl rfl (by kernel_rfl) (Or.inl ⟨by rfl, ?uy41⟩) (ML.out) ?urest41
       case uy41 => (intro _ _; go_simp; try with_reducible rfl)
       (try simp only [sI, sS, sZ])
       refine qk (i := 15) (by kernel_rfl) ?_
       refine z9 15 #[tt,tt,tt,tt,tt,tt,tt,tt,tt,tt,tt,tt,tt,tt,tt,tt] rfl rfl rfl (by rfl) 3 _ _ rfl (BL) (s) (.int .i64 (t)) rfl rfl (by rw [ML.out.cell s hs67]; rfl) (ML.out.frozen _) (by kernel_rfl) rfl rfl ⟨fun h => (h rfl).elim, ?_⟩
       have kq := ML.out.set (s) (t); rw [← Hh1.out] at kq; clear ML; have ML := Lib.hid kq; clear kq
       have kq := M6.out.other ⟨BL, s, none⟩ (.int .i64 (t)) (by simp <;> omega); clear M6; have M6 := Lib.hid kq; clear kq
       replace HB := Lib.hid (HB.out.setCell (p := ⟨BL, s, none⟩) (show w.heap.size ≤ BL by omega) (.int .i64 (t)))
       obtain ⟨yw502, hwyw502⟩ : ∃ ww, ww = yw501.setCell ⟨BL, s, none⟩ (.int .i64 (t)) := ⟨_, rfl⟩
       rw [← hwyw502] at M6 ML HB ⊢
       clear hwyw502
       (try simp only [sI, sS, sZ])
       refine qu (by kernel_rfl) (NoPanic.normal ?_)
       clear hwk hwk1 hqd hqd2 hwt y0 q0 q1
       have hc1 : (yw502).cell? ⟨BL, k, none⟩ = some (.int .i64 x) := by rw [ML.out.cell k hk67, Hxh1.out]
       have hfz := ML.out.frozen k
       have hmd : x % 256 = r := Hr.out.symm
       have hmd2 : x.tmod 256 = r := by rw [Int.tmod_eq_emod_of_nonneg x0, Hr.out]
       repeat ((fail_if_success (with_reducible (show wpList _ _ _ _ _ _))); go_step)
       iterate 9 (refine wpList_step (fun K hK => ?_); go_simp; (try go_bits); refine hK _ _ ?_; clear hK K)
       have kq := ML.out.set (k) (r); rw [← Hh2.out] at kq; clear ML; have ML := Lib.hid kq; clear kq
       have kq := M6.out.other ⟨BL, k, none⟩ (.int .i64 (r)) (by simp <;> omega); clear M6; have M6 := Lib.hid kq; clear kq
       replace HB := Lib.hid (HB.out.setCell (p := ⟨BL, k, none⟩) (show w.heap.size ≤ BL by omega) (.int .i64 (r)))
       obtain ⟨yw503, hwyw503⟩ : ∃ ww, ww = yw502.setCell ⟨BL, k, none⟩ (.int .i64 (r)) := ⟨_, rfl⟩
       rw [← hwyw503] at M6 ML HB ⊢
       clear hwyw503
       refine wpList_nil ?_
       clear hc1 hfz hmd hmd2 x0
       repeat ((fail_if_success (with_reducible (show wpList _ _ _ _ _ _))); go_step)
       iterate 3 (refine wpList_step (fun K hK => ?_); go_simp; (try go_bits); refine hK _ _ ?_; clear hK K)
       refine wpList_nil ?_
       go_roundw
       case measure => simp [intOf]; omega
       case rel => (repeat apply Exists.intro); exact ⟨⟨k + 1, h2, by omega, by go_num, Hlo2, Hhi2, Hcs, M6.out, ML.out, HB.out⟩, rfl⟩
     · have hk66 : k = 66 := by omega
       subst hk66
       clear hk hkge
       have hby := bytes67 V h Hlo.out (by have := Hhi.out 66 (Nat.le_refl _) (by decide); exact this.1) HV.out Hs.out
       have hin : Ints wr BL 67 (dg 256 V) := ⟨ML.out.lt, fun j hj => by rw [ML.out.cell j hj, hby j hj]⟩
       clear hby Hlo Hhi Hs ML
       have Hin := Lib.hid hin; clear hin
       repeat ((fail_if_success (with_reducible (show wpList _ _ _ _ _ _))); go_step)
       iterate 2 (refine wpList_step (fun K hK => ?_); go_simp; (try go_bits); refine hK _ _ ?_; clear hK K)
       refine wpList_nil ?_
       repeat ((fail_if_success (with_reducible (show wpList _ _ _ _ _ _))); go_step)
       (refine wpList_step (fun K hK => ?_); go_simp; (try go_bits); refine hK _ _ ?_; clear hK K)
       refine qm (by rfl) rfl rfl (by rfl) ent71 (by rfl) (Hre.out (some ⟨BL, 0, none⟩) 67 _ (.inr ⟨BL, rfl, Hin.out⟩)) 81 rfl ?_
       rintro e uw501 ⟨rfl, hb⟩
       replace M6 := Lib.hid (M6.out.call hb)
       replace HB := Lib.hid (qh HB.out hb)
       refine ⟨_, rfl, ?_⟩
       clear hb
       (try simp only [Act.put, sI, sS, sZ])
       first | (obtain ⟨Zq, hZ, mZ⟩ := M6.out) | (obtain ⟨Zq, hZ, mZ⟩ := M6.out.toN (qf ..))
       refine ql (by rfl) 24 _ _ rfl rfl (w.heap.size + 1 + 1 + 1) (k32 (V % L0)) rfl rfl 24 Zq mZ (by rw [qf]; kernel_rfl) (hZ.trans (qf ..).symm) (qp _ _ _) ?_
       intro yw501 hw2
       replace M6 := Lib.hid (mZ.setRow (k32 (V % L0)))
       replace HB := Lib.hid (below_setRow HB.out (w.heap.size + 1 + 1 + 1) (k32 (V % L0)) (by omega))
       rw [← hw2] at M6 HB; clear mZ hZ hw2
       refine wpList_nil ?_
       go_wp2_with fail
       exact bodyPost_ret (v := .agg (k32 (V % L0))) (results_cell_row (t := 24) (by rfl) _ _ (w.heap.size + 1 + 1 + 1) _ _ _ rfl M6.out Try.underlying24 rfl (by rw [qf]; kernel_rfl)) rfl ⟨by rw [HVe.out], HB.out⟩
end
section
open Go.RowKit Go.Sx
theorem le32_leN (l : List UInt8) (h : l.length = 32) : qC (leN l) = l := by
 refine leN_inj _ _ (by rw [qo, h]) (qax _ ?_)
 have := qaw l
 rw [h] at this; exact this
theorem apB {N : Nat} {M : Bks} {B : World} {F : Option Nat} {L : List Ent} (k : Nat) {cs : Array Bool} {r : Sx.Own} {n : Nat} {pre l : List UInt8} {x : Value} {next : Value → List Ent → Prop}
 (hk : L[k]? = some (se r (Lib.byteCells pre) 5)) (hR : Rw 1 n r (Lib.byteCells pre)) (hrd : ∀ w, St M B w L → Rd w x (Lib.byteCells l)) (hb : n + l.length ≤ 10000000)
 (go : ∀ r', Rw 1 (n + l.length) r' (Lib.byteCells (pre ++ l)) → next (sv r' (n + l.length)) (L.set k (se r' (Lib.byteCells (pre ++ l)) 5))) : BiP ⟨Try.prog, tab, N, M, B, F⟩ .append #[22, 22] 22 cs [sv r n, x] L next := by
 refine ap (C := ⟨Try.prog, tab, N, M, B, F⟩) k (m := l.length) (news := Lib.byteCells l) qi rfl zp rfl hk hR (fun w hs => ?_) (by omega) (by unfold maxLen; omega) (fun r' hr' => ?_)
 · have := (hrd w hs).src (P := Try.prog) q8 (fun u hu => by obtain ⟨_, _, rfl⟩ := List.mem_map.1 hu; rfl)
   rwa [Lib.byteCells_length] at this
 · rw [← Lib.byteCells_append] at hr' ⊢; exact go r' hr'
theorem zM (b0 : Nat) : Rw 1 0 (some (b0, 0, [])) (Lib.byteCells []) := ⟨rfl, by decide, by decide, rfl⟩
theorem rdw {M : Bks} {B w : World} {L : List Ent} (hs : St M B w L) (k : Nat) {r : Sx.Own} {n : Nat} {l : List UInt8} (hk : L[k]? = some (se r (Lib.byteCells l) 5)) (hR : Rw 1 n r (Lib.byteCells l)) : Rd w (sv r n) (Lib.byteCells l) := Rd.own hs k hk hR
theorem rsign_core (n : Nat) (v : Value) (bs : List UInt8) (w : World) (hrd : Rd w v (Lib.byteCells bs)) (hn : bs.length ≤ 10000) (se pn R fn H sn : Nat) (sal : List UInt8) (Q : Fin PP × Fin PP) (hsal : sal.length = 32) (hles : qC (leN sal) = sal)
 (hsec : ∀ w, Calls Try.prog 96 ([.agg (k32 n)] : List Value).toArray w fun e w' => e = .returned (.tuple #[.agg (k32 se), .agg (k32 (leN sal))]) ∧ Below w.heap.size w w')
 (hpub : ∀ w, Calls Try.prog 62 ([.agg (k32 n)] : List Value).toArray w fun e w' => e = .returned (.agg (k32 pn)) ∧ Below w.heap.size w w')
 (hres : ∀ w v, Rd w v (Lib.byteCells (sal ++ bs)) → Calls Try.prog 101 ([v] : List Value).toArray w fun e w' => e = .returned (.agg (k32 R)) ∧ Below w.heap.size w w')
 (hrch : ∀ w v, Rd w v (Lib.byteCells (qC fn ++ qC pn ++ bs)) → Calls Try.prog 101 ([v] : List Value).toArray w fun e w' => e = .returned (.agg (k32 H)) ∧ Below w.heap.size w w')
 (hm : ∀ X Y Z T, Rq X Y Z T gG → ∀ w, Calls Try.prog 57 ([.agg (rp X Y Z T), .agg (k32 R)] : List Value).toArray w fun e w' => ∃ x : Nat × Nat × Nat × Nat, Rq x.1 x.2.1 x.2.2.1 x.2.2.2 Q ∧ e = .returned (.agg (rp x.1 x.2.1 x.2.2.1 x.2.2.2)) ∧ Below w.heap.size w w')
 (hk : ∀ X Y Z T, Rq X Y Z T Q → ∀ w, Calls Try.prog 50 ([.agg (rp X Y Z T)] : List Value).toArray w fun e w' => e = .returned (.agg (k32 fn)) ∧ Below w.heap.size w w')
 (ht : ∀ w, Calls Try.prog 27 ([.agg (k32 H), .agg (k32 se), .agg (k32 R)] : List Value).toArray w fun e w' => e = .returned (.agg (k32 sn)) ∧ Below w.heap.size w w') :
 Calls Try.prog 65 ([.agg (k32 n), v] : List Value).toArray w fun e w' => e = .returned (Qr (qC fn ++ qC sn)) ∧ Below w.heap.size w w' := by
 refine q9 qi Try.func65 rfl Try.ntmps65 rfl (St.start w) ?_
 intro b2 b4
 refine ldN 0 rfl (qf _) ?_
 refine cv (fun w => hsec w) ?_
 intro b5 b6
 refine sN 2 rfl (by rw [qf]; rfl) (qF _) ?_ (by kernel_rfl)
 refine sN 3 rfl (by rw [qf]; rfl) (qF _) ?_ (by kernel_rfl)
 refine ldN 0 rfl (qf _) ?_
 refine cv (fun w => hpub w) ?_
 intro b7
 refine sN 4 rfl (by rw [qf]; rfl) (qF _) ?_ (by kernel_rfl)
 refine .mk #[] 5 (fun w => bs0 w) (fun b0 => ?_)
 refine ⟨.mk 0 32 32 rfl rfl rfl (by decide) (by decide) (by decide) (by simp) (.on (by decide) ?_)⟩
 refine apB 5 (r := some (b0, 0, [])) (n := 0) (pre := []) (l := sal) rfl (zM b0) (fun w' hs => by have := QA hs 3 rfl; rwa [hles] at this) (by omega) (fun r1 hr1 => ?_)
 refine apB 5 (r := r1) (l := bs) rfl hr1 (fun w' hs => hrd.below hs.below) (by omega) (fun r2 hr2 => ?_)
 rw [hsal, List.nil_append] at hr2 ⊢
 refine cvs (fun w' hs => hres w' _ (rdw hs 5 rfl hr2)) ?_
 intro b8
 refine sN 6 rfl (by rw [qf]; rfl) (qF _) ?_ (by kernel_rfl)
 refine cut (α := Nat) (fun _ => True) (fun b9 => ⟨[(1, v), (4, ptr b4), (5, ptr b5), (7, ptr b7), (8, ptr b8), (9, ptr b9)], [dead, cl b4 (List.replicate 64 (Value.int .u8 0)).toArray 74, cl b5 (k32 se) 24, dead, cl b7 (k32 pn) 24, cl b8 (k32 R) 24, cl b9 (k32 fn) 24], []⟩) ?_ ?_
 · refine drs [dead, dead, dead, dead, dead, dead, cl b8 (k32 R) 24] [5] (.t 1 (.b 0 4 (.b 2 4 (.b 3 4 (.n 4 (.n 5 .nil)) (.n 3 (.n 5 .nil))) (.n 2 (.n 3 (.n 5 .nil)))) (.n 0 (.n 2 (.n 3 (.n 5 .nil)))))) qi qq (by kernel_rfl) (.dead (.dead (.dead (.dead (.dead (.dead (.cons .nil))))))) ?_
   refine ldN 6 rfl (qf _) ?_
   refine ⟨?_, ?_⟩
   · refine ce (fun w _ => rg (qaq w)) (fun g hg => ?_)
     refine ⟨(.dead (.dead (.dead (.dead (.dead (.dead (.cons .nil))))))), ?_⟩
     refine ⟨?_, ?_⟩
     · refine ce (fun w _ => hm _ _ _ _ hg w) (fun q hq => ?_)
       refine ⟨(.dead (.dead (.dead (.dead (.dead (.dead (.cons .nil))))))), ?_⟩
       refine ⟨?_, ?_⟩
       · refine cv (fun w => hk _ _ _ _ hq w) ?_
         refine ⟨(.dead (.dead (.dead (.dead (.dead (.dead (.cons .nil))))))), ?_⟩
         intro b9
         refine ⟨(.dead (.dead (.dead (.dead (.dead (.dead (.cons .nil))))))), ?_⟩
         refine sN 7 rfl (by rw [qf]; rfl) (qF _) ?_ (by kernel_rfl)
         exact ⟨b9, trivial, ⟨rfl, rfl, rfl, rfl, rfl, rfl, trivial⟩, .dead (.cons (.cons (.dead (.cons (.drop (.cons (.cons .nil))))))), rfl⟩
       · intro b9
         refine ⟨(.dead (.dead (.dead (.dead (.dead (.dead (.cons .nil))))))), ?_⟩
         refine cv (fun w => hk _ _ _ _ hq w) ?_
         refine ⟨(.dead (.dead (.dead (.dead (.dead (.dead (.cons .nil))))))), ?_⟩
         refine sN 7 rfl (by rw [qf]; rfl) (qF _) ?_ (by kernel_rfl)
         exact ⟨b9, trivial, ⟨rfl, rfl, rfl, rfl, rfl, rfl, trivial⟩, .dead (.cons (.cons (.dead (.cons (.drop (.cons (.cons .nil))))))), rfl⟩
     · intro b9
       refine ⟨(.dead (.dead (.dead (.dead (.dead (.dead (.cons .nil))))))), ?_⟩
       refine ce (fun w _ => hm _ _ _ _ hg w) (fun q hq => ?_)
       refine ⟨(.dead (.dead (.dead (.dead (.dead (.dead (.cons .nil))))))), ?_⟩
       refine cv (fun w => hk _ _ _ _ hq w) ?_
       refine ⟨(.dead (.dead (.dead (.dead (.dead (.dead (.cons .nil))))))), ?_⟩
       refine sN 7 rfl (by rw [qf]; rfl) (qF _) ?_ (by kernel_rfl)
       exact ⟨b9, trivial, ⟨rfl, rfl, rfl, rfl, rfl, rfl, trivial⟩, .dead (.cons (.cons (.dead (.cons (.drop (.cons (.cons .nil))))))), rfl⟩
   · intro b9
     refine ⟨(.dead (.dead (.dead (.dead (.dead (.dead (.cons .nil))))))), ?_⟩
     refine ce (fun w _ => rg (qaq w)) (fun g hg => ?_)
     refine ⟨(.dead (.dead (.dead (.dead (.dead (.dead (.cons .nil))))))), ?_⟩
     refine ce (fun w _ => hm _ _ _ _ hg w) (fun q hq => ?_)
     refine ⟨(.dead (.dead (.dead (.dead (.dead (.dead (.cons .nil))))))), ?_⟩
     refine cv (fun w => hk _ _ _ _ hq w) ?_
     refine ⟨(.dead (.dead (.dead (.dead (.dead (.dead (.cons .nil))))))), ?_⟩
     refine sN 7 rfl (by rw [qf]; rfl) (qF _) ?_ (by kernel_rfl)
     exact ⟨b9, trivial, ⟨rfl, rfl, rfl, rfl, rfl, rfl, trivial⟩, .dead (.cons (.cons (.dead (.cons (.drop (.cons (.cons .nil))))))), rfl⟩
 · intro b9 _
   refine cut (α := Nat) (fun _ => True) (fun b10 => ⟨[(4, ptr b4), (5, ptr b5), (8, ptr b8), (9, ptr b9), (10, ptr b10)], [dead, cl b4 (List.replicate 64 (Value.int .u8 0)).toArray 74, cl b5 (k32 se) 24, dead, dead, cl b8 (k32 R) 24, cl b9 (k32 fn) 24, cl b10 (k32 H) 24], []⟩) ?_ ?_
   · refine drs [] [9] (.t 1 (.t 3 (.t 5 (.b 0 8 (.b 2 8 (.b 4 8 (.b 6 8 (.b 7 8 (.n 8 (.n 9 .nil)) (.n 7 (.n 9 .nil))) (.n 6 (.n 7 (.n 9 .nil)))) (.n 4 (.n 6 (.n 7 (.n 9 .nil))))) (.n 2 (.n 4 (.n 6 (.n 7 (.n 9 .nil)))))) (.n 0 (.n 2 (.n 4 (.n 6 (.n 7 (.n 9 .nil)))))))))) qi qq (by kernel_rfl) .nil ?_
     refine ⟨.mk 0 32 32 rfl rfl rfl (by decide) (by decide) (by decide) (by simp) (.on (by decide) ?_)⟩
     refine ⟨.mk 0 32 32 rfl rfl rfl (by decide) (by decide) (by decide) (by simp) (.on (by decide) ?_)⟩
     refine ⟨?_, ?_⟩
     · refine .mk #[] 5 (fun w => bs0 w) (fun b0 => ?_)
       refine ⟨.nil, ?_⟩
       refine ⟨?_, ?_⟩
       · refine apB 7 (r := (some (b0, 0, []))) (n := 0) (pre := []) (l := (qC fn)) rfl (zM b0) (fun w' hs => QA hs 6 rfl) (by rw [qo]; omega) (fun r1 hr1 => ?_)
         rw [qo] at hr1 ⊢
         refine ⟨.nil, ?_⟩
         refine ⟨?_, ?_⟩
         · refine apB 7 (r := r1) (n := (0 + 32)) (pre := ([] ++ (qC fn))) (l := (qC pn)) rfl hr1 (fun w' hs => QA hs 4 rfl) (by rw [qo]; omega) (fun r2 hr2 => ?_)
           rw [qo] at hr2 ⊢
           refine ⟨.nil, ?_⟩
           refine ⟨?_, ?_⟩
           · refine apB 7 (r := r2) (n := ((0 + 32) + 32)) (pre := (([] ++ (qC fn)) ++ (qC pn))) (l := bs) rfl hr2 (fun w' hs => hrd.below hs.below) (by omega) (fun r3 hr3 => ?_)
             refine ⟨.nil, ?_⟩
             refine ⟨?_, ?_⟩
             · refine cvs (fun w' hs => hrch w' _ (rdw hs 7 rfl hr3)) ?_
               refine ⟨.nil, ?_⟩
               intro b10
               refine ⟨.nil, ?_⟩
               refine sN 8 rfl (by rw [qf]; rfl) (qF _) ?_ (by kernel_rfl)
               exact ⟨b10, trivial, ⟨rfl, rfl, rfl, rfl, rfl, trivial⟩, .dead (.cons (.cons (.dead (.dead (.cons (.cons (.drop (.cons .nil)))))))), rfl⟩
             · intro b10
               refine ⟨.nil, ?_⟩
               refine cvs (fun w' hs => hrch w' _ (rdw hs 7 rfl hr3)) ?_
               refine ⟨.nil, ?_⟩
               refine sN 8 rfl (by rw [qf]; rfl) (qF _) ?_ (by kernel_rfl)
               exact ⟨b10, trivial, ⟨rfl, rfl, rfl, rfl, rfl, trivial⟩, .dead (.cons (.cons (.dead (.dead (.cons (.cons (.drop (.cons .nil)))))))), rfl⟩
           · intro b10
             refine ⟨.nil, ?_⟩
             refine apB 7 (r := r2) (n := ((0 + 32) + 32)) (pre := (([] ++ (qC fn)) ++ (qC pn))) (l := bs) rfl hr2 (fun w' hs => hrd.below hs.below) (by omega) (fun r3 hr3 => ?_)
             refine ⟨.nil, ?_⟩
             refine cvs (fun w' hs => hrch w' _ (rdw hs 7 rfl hr3)) ?_
             refine ⟨.nil, ?_⟩
             refine sN 8 rfl (by rw [qf]; rfl) (qF _) ?_ (by kernel_rfl)
             exact ⟨b10, trivial, ⟨rfl, rfl, rfl, rfl, rfl, trivial⟩, .dead (.cons (.cons (.dead (.dead (.cons (.cons (.drop (.cons .nil)))))))), rfl⟩
         · intro b10
           refine ⟨.nil, ?_⟩
           refine apB 7 (r := r1) (n := (0 + 32)) (pre := ([] ++ (qC fn))) (l := (qC pn)) rfl hr1 (fun w' hs => QA hs 4 rfl) (by rw [qo]; omega) (fun r2 hr2 => ?_)
           rw [qo] at hr2 ⊢
           refine ⟨.nil, ?_⟩
           refine apB 7 (r := r2) (n := ((0 + 32) + 32)) (pre := (([] ++ (qC fn)) ++ (qC pn))) (l := bs) rfl hr2 (fun w' hs => hrd.below hs.below) (by omega) (fun r3 hr3 => ?_)
           refine ⟨.nil, ?_⟩
           refine cvs (fun w' hs => hrch w' _ (rdw hs 7 rfl hr3)) ?_
           refine ⟨.nil, ?_⟩
           refine sN 8 rfl (by rw [qf]; rfl) (qF _) ?_ (by kernel_rfl)
           exact ⟨b10, trivial, ⟨rfl, rfl, rfl, rfl, rfl, trivial⟩, .dead (.cons (.cons (.dead (.dead (.cons (.cons (.drop (.cons .nil)))))))), rfl⟩
       · intro b10
         refine ⟨.nil, ?_⟩
         refine apB 7 (r := (some (b0, 0, []))) (n := 0) (pre := []) (l := (qC fn)) rfl (zM b0) (fun w' hs => QA hs 6 rfl) (by rw [qo]; omega) (fun r1 hr1 => ?_)
         rw [qo] at hr1 ⊢
         refine ⟨.nil, ?_⟩
         refine apB 7 (r := r1) (n := (0 + 32)) (pre := ([] ++ (qC fn))) (l := (qC pn)) rfl hr1 (fun w' hs => QA hs 4 rfl) (by rw [qo]; omega) (fun r2 hr2 => ?_)
         rw [qo] at hr2 ⊢
         refine ⟨.nil, ?_⟩
         refine apB 7 (r := r2) (n := ((0 + 32) + 32)) (pre := (([] ++ (qC fn)) ++ (qC pn))) (l := bs) rfl hr2 (fun w' hs => hrd.below hs.below) (by omega) (fun r3 hr3 => ?_)
         refine ⟨.nil, ?_⟩
         refine cvs (fun w' hs => hrch w' _ (rdw hs 7 rfl hr3)) ?_
         refine ⟨.nil, ?_⟩
         refine sN 8 rfl (by rw [qf]; rfl) (qF _) ?_ (by kernel_rfl)
         exact ⟨b10, trivial, ⟨rfl, rfl, rfl, rfl, rfl, trivial⟩, .dead (.cons (.cons (.dead (.dead (.cons (.cons (.drop (.cons .nil)))))))), rfl⟩
     · intro b10
       refine ⟨.nil, ?_⟩
       refine .mk #[] 5 (fun w => bs0 w) (fun b0 => ?_)
       refine ⟨.nil, ?_⟩
       refine apB 8 (r := (some (b0, 0, []))) (n := 0) (pre := []) (l := (qC fn)) rfl (zM b0) (fun w' hs => QA hs 6 rfl) (by rw [qo]; omega) (fun r1 hr1 => ?_)
       rw [qo] at hr1 ⊢
       refine ⟨.nil, ?_⟩
       refine apB 8 (r := r1) (n := (0 + 32)) (pre := ([] ++ (qC fn))) (l := (qC pn)) rfl hr1 (fun w' hs => QA hs 4 rfl) (by rw [qo]; omega) (fun r2 hr2 => ?_)
       rw [qo] at hr2 ⊢
       refine ⟨.nil, ?_⟩
       refine apB 8 (r := r2) (n := ((0 + 32) + 32)) (pre := (([] ++ (qC fn)) ++ (qC pn))) (l := bs) rfl hr2 (fun w' hs => hrd.below hs.below) (by omega) (fun r3 hr3 => ?_)
       refine ⟨.nil, ?_⟩
       refine cvs (fun w' hs => hrch w' _ (rdw hs 8 rfl hr3)) ?_
       refine ⟨.nil, ?_⟩
       refine sN 7 rfl (by rw [qf]; rfl) (qF _) ?_ (by kernel_rfl)
       exact ⟨b10, trivial, ⟨rfl, rfl, rfl, rfl, rfl, trivial⟩, .dead (.cons (.cons (.dead (.dead (.cons (.cons (.cons .nil))))))), rfl⟩
   · intro b10 _
     refine ldN 7 rfl (qf _) ?_
     refine ldN 2 rfl (qf _) ?_
     refine ldN 5 rfl (qf _) ?_
     refine cv (fun w => ht w) ?_
     intro b11
     refine sN 8 rfl (by rw [qf]; rfl) (qF _) ?_ (by kernel_rfl)
     intro b12
     obtain ⟨D, hD⟩ : ∃ D, D = qC fn ++ qC sn := ⟨_, rfl⟩
     have hDl : D.length = 64 := by rw [hD, List.length_append, qo, qo]
     have hDc : (Lib.byteCells D).length = 64 := by rw [Lib.byteCells_length, hDl]
     have hd0 : ∀ i, i < 32 → (qC fn).getD i 0 = D.getD i 0 := fun i hi => by rw [hD]; simp [List.getD, List.getElem?_append_left (show i < (qC fn).length by rw [qo]; exact hi)]
     have hd1 : ∀ i, 32 ≤ i → (qC sn).getD (i - 32) 0 = D.getD i 0 := fun i hi => by rw [hD]; simp [List.getD, List.getElem?_append_right (show (qC fn).length ≤ i by rw [qo]; exact hi), qo]
     rw [← hD]
     have hput : ∀ i, i < 64 → ((Lib.byteCells D).take (i + 1) ++ (List.replicate 64 (Value.int .u8 0)).drop (i + 1)).toArray = ((Lib.byteCells D).take i ++ (List.replicate 64 (Value.int .u8 0)).drop i).toArray.setIfInBounds (nad 0 (nmu (Int.toNat (i : Int)) 1)) (.int .u8 (D.getD i 0).toNat) := fun i hi => by
      rw [qK, qI, Nat.zero_add, Nat.mul_one, Int.toNat_natCast, List.setIfInBounds_toArray, Zd _ _ _ (by rw [hDc]; rfl) i (by omega) (qaD D i (by omega))]
     refine lp qi (fun i : Nat => i ≤ 64) (fun i => ⟨[(4, ptr b4), (9, ptr b9), (11, ptr b11), (12, ptr b12), (13, .int .i64 i)], [dead, cl b4 (List.replicate 64 (Value.int .u8 0)).toArray 74, dead, dead, dead, dead, cl b9 (k32 fn) 24, dead, cl b11 (k32 sn) 24, cl b12 ((Lib.byteCells D).take i ++ (List.replicate 64 (Value.int .u8 0)).drop i).toArray 74], []⟩) (fun i => 64 - i) 0 (Nat.zero_le _)
      ⟨⟨rfl, rfl, rfl, rfl, rfl, trivial⟩, .dead (.cons (.dead (.dead (.dead (.dead (.cons (.dead (.cons (.cons .nil))))))))), rfl⟩ ?_
     intro i hi
     refine cd (fun h => ?_) (fun h => ?_)
     · have hlt : i < 64 := by omega
       refine cd (fun h2 => ?_) (fun h2 => ?_)
       · have hl2 : i < 32 := by omega
         refine ⟨by omega, by omega, ?_⟩
         refine ld1 6 rfl (v := .int .u8 (D.getD i 0).toNat) (by rw [qK, qI, Nat.zero_add, Nat.mul_one, Int.toNat_natCast, ← hd0 i hl2, zl]; exact zP _ i (by rw [qo]; exact hl2)) ?_
         refine ⟨by omega, by omega, ?_⟩
         refine s1e 9 _ rfl (by rw [show (((Lib.byteCells D).take i ++ (List.replicate 64 (Value.int .u8 0)).drop i).toArray.size = 64) by simp [hDc]; omega, qK, qI, Nat.zero_add, Nat.mul_one, Int.toNat_natCast]; omega) (hput i hlt).symm ?_
         refine .as ((i + 1 : Nat) : Int) (by omega) (by simp only [mn]; omega) (by simp only [mx]; omega) ?_
         exact ⟨i + 1, by omega, by omega, ⟨rfl, rfl, rfl, rfl, rfl, trivial⟩, .dead (.cons (.dead (.dead (.dead (.dead (.cons (.dead (.cons (.cons .nil))))))))), rfl⟩
       · have hl2 : 32 ≤ i := by omega
         refine .as ((i - 32 : Nat) : Int) (by omega) (by simp only [mn]; omega) (by simp only [mx]; omega) ?_
         refine ⟨by omega, by omega, ?_⟩
         refine ld1 8 rfl (v := .int .u8 (D.getD i 0).toNat) (by rw [qK, qI, Nat.zero_add, Nat.mul_one, Int.toNat_natCast, ← hd1 i hl2, zl]; exact zP _ _ (by rw [qo]; omega)) ?_
         refine ⟨by omega, by omega, ?_⟩
         refine s1e 9 _ rfl (by rw [show (((Lib.byteCells D).take i ++ (List.replicate 64 (Value.int .u8 0)).drop i).toArray.size = 64) by simp [hDc]; omega, qK, qI, Nat.zero_add, Nat.mul_one, Int.toNat_natCast]; omega) (hput i hlt).symm ?_
         refine .as ((i + 1 : Nat) : Int) (by omega) (by simp only [mn]; omega) (by simp only [mx]; omega) ?_
         exact ⟨i + 1, by omega, by omega, ⟨rfl, rfl, rfl, rfl, rfl, trivial⟩, .dead (.cons (.dead (.dead (.dead (.dead (.cons (.dead (.cons (.cons .nil))))))))), rfl⟩
     · obtain rfl : i = 64 := by omega
       have hE : ((Lib.byteCells D).take 64 ++ (List.replicate 64 (Value.int .u8 0)).drop 64).toArray = (Lib.byteCells D).toArray := by rw [List.take_of_length_le (by omega)]; simp
       rw [hE]
       refine ldN 9 rfl (by simp [hDc]) ?_
       refine sN 1 rfl (by rw [List.size_toArray, hDc]; rfl) (QS _) ?_ (by rw [List.size_toArray, hDc]; kernel_rfl)
       refine ldN 1 rfl (by simp [hDc]) ?_
       exact rt rfl
theorem qdB (n : Nat) (v : Value) (bs : List UInt8) (w : World) (hrd : Rd w v (Lib.byteCells bs)) (hn : bs.length ≤ 10000) : Calls Try.prog 65 ([.agg (k32 n), v] : List Value).toArray w fun e w' => e = .returned (Qr (zK n bs)) ∧ Below w.heap.size w w' := by
 have hl3 : qbR n bs < 115792089237316195423570985008687907853269984665640564039457584007913129639936 := by unfold qbR; exact ZT _
 have hl1 : zr (Zv n bs) (Ql n) bs < 115792089237316195423570985008687907853269984665640564039457584007913129639936 := by unfold zr; exact ZT _
 have h0 := rsign_core n v bs w hrd hn (ZA n) (Ql n) (qbR n bs) (Zv n bs) (zr (Zv n bs) (Ql n) bs) (qan n bs) (qa0 n) (firP n bs) (qaI n) (le32_leN _ (qaI n))
  (fun w => qb7 n w) (fun w => qap n w) (fun w v hr => by unfold qbR; exact ZR w v _ hr (by rw [List.length_append, qaI]; omega)) (fun w v hr => by unfold zr; exact ZR w v _ hr (by rw [List.length_append, List.length_append, qo, qo]; omega))
  (fun X Y Z T h w => by unfold firP; exact rg (qcs X Y Z T (qbR n bs) gG h hl3 w)) (fun X Y Z T h w => by unfold Zv; exact gr_key X Y Z T (firP n bs) h w)
  (fun w => by unfold qan; exact rtimes3_any _ _ _ hl1 (qbn n) hl3 w)
 unfold zK; exact h0
end
section
open Go.RowKit Go.Sx
theorem right_least (p F S : Nat) (hF : F < 115792089237316195423570985008687907853269984665640564039457584007913129639936) (hS : S < 115792089237316195423570985008687907853269984665640564039457584007913129639936) (h : L0 ≤ S) (bs : List UInt8) : Zi p (qC F ++ qC S) bs = false := by
 unfold Zi
 rw [(qcD F S hF hS).2, decide_eq_false (by omega), Bool.and_false, Bool.false_and]
end
section
open Go.ChangeShapes Go.WideShapes Go.ChangeAt Go.RowKit Go.Sx
theorem qaL {H : Type} {enc : TypeId × Value → H} {w : World} {base : Nat} {spare : Nat → Bool} {held : Bool} {r : Reach} {b0 : Nat} {v : Value} {d : DataW H} {p : List MemPlace}
 (hv : Value.okWide Try.prog w r b0 22 v) (h : DataW.Trod enc Try.prog w base spare held 22 v d p) : ∃ a bs c, v = .slice a bs.length c ∧ bs.length ≤ c ∧ c ≤ maxLen ∧ (∀ x, a = some x → x.spot = none) ∧ Rd w v (Lib.byteCells bs) := by
 obtain ⟨a0, len, cap, rfl⟩ := okWide_slice Try.underlying22 hv
 obtain ⟨fuel, hf⟩ := h
 rcases open_ints Try.underlying22 Try.underlying5 cellsU8 hf with ⟨hcs, hx⟩ | ⟨a, len', cap', zs, hcs, _, hl, hm, hz, hx, hcell, hwz⟩
 · have e : Value.slice a0 len cap = .slice none 0 0 := by simpa [Value.cells] using hcs
   injection e with e1 e2 e3
   subst e1 e2 e3
   exact ⟨none, [], 0, rfl, Nat.le_refl _, Nat.zero_le _, by simp, none, 0, rfl, fun h => absurd rfl h⟩
 · have e : Value.slice a0 len cap = .slice (some a) len' cap' := by simpa [Value.cells] using hcs
   injection e with e1 e2 e3
   subst e1 e2 e3
   have hlz : len ≤ zs.length := by rw [hz]; split <;> omega
   obtain ⟨bs, hbs, hd⟩ := qdh (fun i => zs.getD i 0) len (fun i hi => by
    have hmem : zs.getD i 0 ∈ zs := by
     have : zs.getD i 0 = zs[i]'(by omega) := by simp [List.getD, show i < zs.length by omega]
     rw [this]; exact List.getElem_mem _
    have := bounds_u8 (hwz _ hmem)
    omega)
   have hsp : a.spot = none := by
    have h := hv
    simp only [Value.okWide, Try.underlying22, Cell.okWide, Cell.ok, World.has] at h
    exact h.2.2.2.1
   refine ⟨some a, bs, cap, by rw [hbs], by omega, hm, by rintro x hx; obtain rfl := Option.some.inj hx; exact hsp, some a, cap, by rw [Lib.byteCells_length, hbs], fun hne => ?_⟩
   obtain ⟨b, o, sp⟩ := a
   obtain rfl : sp = none := hsp
   have hpos : 0 < len := by
    rcases Nat.eq_zero_or_pos len with h0 | h0
    · rw [h0] at hbs; rw [List.eq_nil_of_length_eq_zero hbs] at hne; exact absurd rfl hne
    · exact h0
   refine ⟨b, o, rfl, ?_, fun j u hu => ?_⟩
   · have := hcell 0 (by omega); exact World.block_lt_of_cell? w _ this
   · have hj : j < len := by have := (List.getElem?_eq_some_iff.1 hu).1; rw [Lib.byteCells_length] at this; omega
     rw [hd j hj] at hu
     rw [← QP, hcell j (by omega)]; exact hu
end
section
open Go.RowKit Go.Sx
theorem ZV (n : Nat) : Ql n < 115792089237316195423570985008687907853269984665640564039457584007913129639936 := by unfold Ql; exact qaP _
end
section
open Go.RowKit Go.Sx
def qdg (S K i : Nat) : Nat := (S % 256 ^ i + K % 256 ^ i) / 256 ^ i
theorem car_div (S K i : Nat) : (S + K) / 256 ^ i = S / 256 ^ i + K / 256 ^ i + qdg S K i := by
 have hp : 0 < 256 ^ i := Nat.pow_pos (by decide)
 unfold qdg
 have e1 : S + K = (S % 256 ^ i + K % 256 ^ i) + 256 ^ i * (S / 256 ^ i + K / 256 ^ i) := by
  have a := Nat.mod_add_div S (256 ^ i)
  have b := Nat.mod_add_div K (256 ^ i)
  rw [Nat.mul_add]; omega
 rw [e1, Nat.add_mul_div_left _ _ hp]
 omega
theorem car_mod (S K i : Nat) : (qdg S K i + (S / 256 ^ i % 256 + K / 256 ^ i % 256)) % 256 = (S + K) / 256 ^ i % 256 := by
 rw [car_div]; omega
theorem car_next (S K i : Nat) : (qdg S K i + (S / 256 ^ i % 256 + K / 256 ^ i % 256)) / 256 = qdg S K (i + 1) := by
 have hp : 0 < 256 ^ i := Nat.pow_pos (by decide)
 unfold qdg
 rw [Nat.pow_succ, Nat.mod_mul, Nat.mod_mul, ← Nat.div_div_eq_div_mul]
 rw [show S % 256 ^ i + 256 ^ i * (S / 256 ^ i % 256) + (K % 256 ^ i + 256 ^ i * (K / 256 ^ i % 256)) = (S % 256 ^ i + K % 256 ^ i) + 256 ^ i * (S / 256 ^ i % 256 + K / 256 ^ i % 256) by rw [Nat.mul_add]; omega]
 rw [Nat.add_mul_div_left _ _ hp]
theorem car_lt (S K i : Nat) : qdg S K i ≤ 1 := by
 have hp : 0 < 256 ^ i := Nat.pow_pos (by decide)
 have a := Nat.mod_lt S hp
 have b := Nat.mod_lt K hp
 unfold qdg
 exact Nat.le_of_lt_succ (Nat.div_lt_of_lt_mul (by omega))
end
section
open Go.RowKit Go.Sx
theorem le32_at (n i : Nat) (hi : i < 32) : ((qC n).getD i 0).toNat = n / 256 ^ i % 256 := by
 rw [qC, List.getD_eq_getElem?_getD, List.getElem?_map, List.getElem?_range hi]
 simp
theorem k32_at (n i : Nat) (hi : i < 32) : (k32 n)[nmu (Int.toNat (i : Int)) 1]? = some (.int .u8 ((n / 256 ^ i % 256 : Nat) : Int)) := by
 rw [qI, Nat.mul_one, Int.toNat_natCast, zl, ← le32_at n i hi]
 exact zP _ i (by rw [qo]; exact hi)
theorem leastS_core (n pn F S K : Nat) (D0 D1 : List UInt8) (h0 : D0 = qC F ++ qC S) (h1 : D1 = qC F ++ qC (S + K)) (va : Value) (a : List UInt8) (w : World) (hra : Rd w va (Lib.byteCells a))
 (g1 : a.length ≤ 1000 → ∀ w v, Rd w v (Lib.byteCells a) → Calls Try.prog 65 ([.agg (k32 n), v] : List Value).toArray w fun e w' => e = .returned (Qr D0) ∧ Below w.heap.size w w')
 (g2 : ∀ w, Calls Try.prog 59 #[] w fun e w' => e = .returned (.agg (k32 K)) ∧ Below w.heap.size w w')
 (g3 : ∀ w, Calls Try.prog 62 ([.agg (k32 n)] : List Value).toArray w fun e w' => e = .returned (.agg (k32 pn)) ∧ Below w.heap.size w w')
 (g4 : a.length ≤ 1000 → ∀ w v, Parts w v a → Calls Try.prog 67 ([.agg (k32 pn), Qr D1, v] : List Value).toArray w fun e w' => e = .returned (.bool false) ∧ Below w.heap.size w w') :
 Calls Try.prog 21 ([.agg (k32 n), va] : List Value).toArray w fun e w' => e = .returned (.bool true) ∧ Below w.heap.size w w' := by
 have hra0 := hra
 obtain ⟨aa, ac, ha, _⟩ := hra0
 rw [Lib.byteCells_length] at ha
 have hl0 : D0.length = 64 := by rw [h0, List.length_append, qo, qo]
 have hl1 : D1.length = 64 := by rw [h1, List.length_append, qo, qo]
 have hc0 : (Lib.byteCells D0).length = 64 := by rw [Lib.byteCells_length, hl0]
 have hc1 : (Lib.byteCells D1).length = 64 := by rw [Lib.byteCells_length, hl1]
 have hcar0 : 0 = qdg S K 0 := by simp [qdg, Nat.mod_one]
 have hE0 : Lib.byteCells D0 = (Lib.byteCells D1).take (32 + 0) ++ (Lib.byteCells D0).drop (32 + 0) := by
  rw [h0, h1, Lib.byteCells_append, Lib.byteCells_append, List.take_left' (by rw [Lib.byteCells_length, qo]), List.drop_left' (by rw [Lib.byteCells_length, qo])]
 refine q9 qi Try.func21 rfl Try.ntmps21 rfl (St.start w) ?_
 intro b2
 refine cv (fun w => Za w) ?_
 refine cf rfl ?_
 rw [ha]
 refine cd (fun h => ?_) (fun h => ?_)
 · exact rt rfl
 have la : a.length ≤ 1000 := by omega
 rw [ha] at hra
 refine ldN 0 rfl (qf _) ?_
 refine cvs (fun w' hs => g1 la w' _ (hra.below hs.below)) ?_
 intro b5
 refine sN 1 rfl (by rw [List.size_toArray, hc0]; rfl) (QS _) ?_ (by rw [List.size_toArray, hc0]; kernel_rfl)
 refine cvs (fun w' hs => g2 w') ?_
 intro b6
 refine sN 2 rfl (by rw [qf]; rfl) (qF _) ?_ (by kernel_rfl)
 refine ldN 2 rfl (qf _) ?_
 refine lp qi (fun x : Nat × Nat × List Value => x.1 ≤ 32 ∧ x.2.1 = qdg S K x.1 ∧ x.2.2 = (Lib.byteCells D1).take (32 + x.1) ++ (Lib.byteCells D0).drop (32 + x.1)) (fun x => ⟨[(1, .slice aa a.length ac), (2, ptr b2), (5, ptr b5), (6, ptr b6), (7, .int .i64 x.2.1), (19, .agg (k32 K)), (20, .int .i64 x.1)], [cl b2 (k32 n) 24, cl b5 x.2.2.toArray 74, cl b6 (k32 K) 24], []⟩) (fun x => 32 - x.1) (0, 0, Lib.byteCells D0) ⟨Nat.zero_le _, hcar0, hE0⟩
  ⟨⟨rfl, rfl, rfl, rfl, rfl, rfl, rfl, trivial⟩, .cons (.cons (.cons .nil)), rfl⟩ ?_
 intro ⟨i, o, xs⟩ ⟨hi, ho, hx⟩
 dsimp only at hi ho hx ⊢
 refine cd (fun h => ?_) (fun h => ?_)
 · have hlt : i < 32 := by omega
   refine ⟨by omega, by omega, ?_⟩
   refine .cell _ rfl (k32_at K i hlt) ?_
   refine .as ((32 + i : Nat) : Int) (by omega) (by simp only [mn]; omega) (by simp only [mx]; omega) ?_
   refine ⟨by omega, by omega, ?_⟩
   have hxs : xs[32 + i]? = some (.int .u8 ((S / 256 ^ i % 256 : Nat) : Int)) := by
    rw [hx, List.getElem?_append_right (by rw [List.length_take, hc1]; omega), List.length_take, hc1, Nat.min_eq_left (by omega), Nat.sub_self, List.getElem?_drop, Nat.add_zero, h0, Lib.byteCells_append, List.getElem?_append_right (by rw [Lib.byteCells_length, qo]; omega), Lib.byteCells_length, qo, Nat.add_sub_cancel_left, ← le32_at S i hlt]
    exact qaD _ i (by rw [qo]; exact hlt)
   refine ld1 1 rfl (v := .int .u8 ((S / 256 ^ i % 256 : Nat) : Int)) (by rw [qK, qI, Nat.zero_add, Nat.mul_one, Int.toNat_natCast, List.getElem?_toArray]; exact hxs) ?_
   have hb1 : S / 256 ^ i % 256 < 256 := Nat.mod_lt _ (by decide)
   have hb2 : K / 256 ^ i % 256 < 256 := Nat.mod_lt _ (by decide)
   have hb3 : o ≤ 1 := by rw [ho]; exact car_lt S K i
   generalize hsv : S / 256 ^ i % 256 = sv' at hb1
   generalize hkv : K / 256 ^ i % 256 = kv' at hb2
   refine .same (by simp only [mn]; omega) (by simp only [mx]; omega) ?_
   refine .same (by simp only [mn]; omega) (by simp only [mx]; omega) ?_
   refine .as ((sv' + kv' : Nat) : Int) (by omega) (by simp only [mn]; omega) (by simp only [mx]; omega) ?_
   refine .as ((o + (sv' + kv') : Nat) : Int) (by omega) (by simp only [mn]; omega) (by simp only [mx]; omega) ?_
   refine .as ((32 + i : Nat) : Int) (by omega) (by simp only [mn]; omega) (by simp only [mx]; omega) ?_
   refine .to (((o + (sv' + kv')) % 256 : Nat) : Int) ?_ ?_
   · show ((o + (sv' + kv') : Nat) : Int) % 256 = _
     omega
   refine ⟨by omega, by omega, ?_⟩
   have hbig : (Lib.byteCells D1)[32 + i]? = some (.int .u8 (((o + (sv' + kv')) % 256 : Nat) : Int)) := by
    rw [← hsv, ← hkv, ho, car_mod, h1, Lib.byteCells_append, List.getElem?_append_right (by rw [Lib.byteCells_length, qo]; omega), Lib.byteCells_length, qo, Nat.add_sub_cancel_left, ← le32_at (S + K) i hlt]
    exact qaD _ i (by rw [qo]; exact hlt)
   refine s1e 1 ((Lib.byteCells D1).take (32 + (i + 1)) ++ (Lib.byteCells D0).drop (32 + (i + 1))).toArray rfl (by rw [qK, qI, Nat.zero_add, Nat.mul_one, Int.toNat_natCast, List.size_toArray, hx]; simp [hc0, hc1]; omega) ?_ ?_
   · rw [qK, qI, Nat.zero_add, Nat.mul_one, Int.toNat_natCast, List.setIfInBounds_toArray, hx]
     rw [show 32 + (i + 1) = 32 + i + 1 by omega]
     rw [Zd _ _ _ (by rw [hc0, hc1]) (32 + i) (by omega) hbig]
   refine ⟨by omega, by simp only [mx]; omega, by decide, ?_⟩
   refine .as ((i + 1 : Nat) : Int) (by omega) (by simp only [mn]; omega) (by simp only [mx]; omega) ?_
   exact ⟨(i + 1, (o + (sv' + kv')) / 256, _), ⟨by omega, by rw [← car_next, hsv, hkv, ← ho], rfl⟩, by omega, ⟨rfl, rfl, rfl, rfl, rfl, rfl, rfl, trivial⟩, .cons (.cons (.cons .nil)), rfl⟩
 · obtain rfl : i = 32 := by omega
   have hxD : xs = Lib.byteCells D1 := by
    rw [hx, List.take_of_length_le (by omega), List.drop_of_length_le (by omega), List.append_nil]
   subst hxD
   refine drs [cl b2 (k32 n) 24, cl b5 (Lib.byteCells D1).toArray 74] [] (.t 0 (.t 2 (.t 3 (.b 1 4 (.n 4 (.n 5 (.t 6 (.t 7 .nil)))) (.n 1 (.n 5 (.t 6 (.t 7 .nil)))))))) qi qq (by kernel_rfl) (.cons (.cons .nil)) ?_
   refine ldN 0 rfl (qf _) ?_
   refine ldN 1 rfl (by rw [List.size_toArray, hc1]) ?_
   have hp : ∀ (x : List UInt8) ax (xc : Nat), Rd w (.slice ax x.length xc) (Lib.byteCells x) → ∀ (M : Bks) (B w' : World) (L : List Ent) (hs : St M B w' L) (k bn : Nat), Below w.heap.size w w' → L[k]? = some (cl bn #[.slice ax x.length xc] 22) → Parts w' (.slice (some ⟨bn, 0, none⟩) 1 1) x := fun x ax xc hx M B w' L hs k bn hbl hk =>
    Parts.made hs k [Lib.byteCells x] 1 hk rfl rfl (by simp) (fun i u xs hu hy => qbV (hx.below hbl) hu hy) (by simp)
   refine ⟨?_, ?_⟩
   · refine cvs (fun w' hs => g3 w') ?_
     refine ⟨.cons (.cons .nil), ?_⟩
     refine .mk #[.slice aa a.length ac] 22 (fun w => Zw _ _ _ w) (fun bn => ?_)
     refine ⟨.cons (.cons .nil), ?_⟩
     refine cvs (fun w' hs => g4 la w' _ (hp _ _ _ hra _ _ _ _ hs 3 bn hs.below rfl)) ?_
     refine ⟨.cons (.cons .nil), ?_⟩
     exact rt rfl
   · refine .mk #[.slice aa a.length ac] 22 (fun w => Zw _ _ _ w) (fun bn => ?_)
     refine ⟨.cons (.cons .nil), ?_⟩
     refine cvs (fun w' hs => g3 w') ?_
     refine ⟨.cons (.cons .nil), ?_⟩
     refine cvs (fun w' hs => g4 la w' _ (hp _ _ _ hra _ _ _ _ hs 3 bn hs.below rfl)) ?_
     refine ⟨.cons (.cons .nil), ?_⟩
     exact rt rfl
theorem qdt (n : Nat) (v : Value) (bs : List UInt8) (w : World) (hrd : Rd w v (Lib.byteCells bs)) : Calls Try.prog 21 ([.agg (k32 n), v] : List Value).toArray w fun e w' => e = .returned (.bool true) ∧ Below w.heap.size w w' := by
 have hs := sndN_lt n bs
 have hL : L0 + L0 < 115792089237316195423570985008687907853269984665640564039457584007913129639936 := by decide +kernel
 have hS : qan n bs + L0 < 115792089237316195423570985008687907853269984665640564039457584007913129639936 := by omega
 refine leastS_core n (Ql n) (Zv n bs) (qan n bs) L0 (zK n bs) (qC (Zv n bs) ++ qC (qan n bs + L0)) rfl rfl v bs w hrd (fun h w v hr => qdB n v bs w hr (by omega)) (fun w => qcL w) (fun w => qap n w) (fun h w v hp => ?_)
 have hl : (qC (Zv n bs) ++ qC (qan n bs + L0)).length = 64 := by rw [List.length_append, qo, qo]
 have := zC (Ql n) (ZV n) (qC (Zv n bs) ++ qC (qan n bs + L0)) hl v bs w hp (by omega)
 rwa [right_least (Ql n) (Zv n bs) (qan n bs + L0) (firN_lt n bs) hS (Nat.le_add_left _ _) bs] at this
end
end Go.Proofs.Ytjiagjonlcadiaa
