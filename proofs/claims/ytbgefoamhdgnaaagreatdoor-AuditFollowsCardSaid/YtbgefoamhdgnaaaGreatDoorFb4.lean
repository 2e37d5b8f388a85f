/- For all texts, steps and numbers the law AuditFollows returns true, and they read as they did; no condition. -/
import Derived.LoopN
import Derived.Laws.Bits64b
import Derived.Laws.CopyOwn
import Derived.BigCall
import Derived.Test.YtbgefoamhdgnaaaGreatDoorFb3
set_option maxRecDepth 100000
set_option maxHeartbeats 16000000
set_option linter.unusedVariables false
set_option linter.unusedSimpArgs false
namespace Go.Proofs.YtbgefoamhdgnaaaGreatDoor
section
open Go.RowKit Go.Lib Go.Sx
theorem mul_step (x y wd cr : Int) (hx : 0 ≤ x) (hx' : x < 18446744073709551616) (hy : 0 ≤ y) (hy' : y < 18446744073709551616) (hw : 0 ≤ wd) (hw' : wd < 18446744073709551616) (hc : 0 ≤ cr) (hc' : cr < 18446744073709551616) :
 ∃ hi lo s1 c1 s2 c2 : Int, x * y / 18446744073709551616 = hi ∧ x * y % 18446744073709551616 = lo ∧ (lo + wd) % 18446744073709551616 = s1 ∧ (lo + wd) / 18446744073709551616 = c1 ∧ (s1 + cr) % 18446744073709551616 = s2 ∧ (s1 + cr) / 18446744073709551616 = c2 ∧
  0 ≤ hi ∧ hi < 18446744073709551616 ∧ 0 ≤ lo ∧ lo < 18446744073709551616 ∧ 0 ≤ s1 ∧ s1 < 18446744073709551616 ∧ 0 ≤ c1 ∧ c1 ≤ 1 ∧ 0 ≤ s2 ∧ s2 < 18446744073709551616 ∧ 0 ≤ c2 ∧ c2 ≤ 1 ∧ hi + c1 < 18446744073709551616 ∧ hi + c1 + c2 < 18446744073709551616 ∧
  s2 + 18446744073709551616 * (hi + c1 + c2) = x * y + wd + cr := by
 have hp : x * y ≤ 18446744073709551615 * 18446744073709551615 := Int.mul_le_mul (by omega) (by omega) hy (by decide)
 have hp0 : 0 ≤ x * y := Int.mul_nonneg hx hy
 generalize x * y = p at *
 exact ⟨_, _, _, _, _, _, rfl, rfl, rfl, rfl, rfl, rfl, by omega, by omega, by omega, by omega, by omega, by omega, by omega, by omega, by omega, by omega, by omega, by omega, by omega, by omega, by omega⟩
theorem qcf (B : Int) (f : Nat → Int) (n : Nat) : qn B f (n + 1) = qn B f n + f n * B ^ n := rfl
theorem mul_add (H G D X b y cr wd s2 k' Bk : Int) (h : H + cr * (D * Bk) = G + X * D * b) (hs : s2 + 18446744073709551616 * k' = X * y + wd + cr) : H + (s2 - wd) * (D * Bk) + k' * (D * (Bk * 18446744073709551616)) = G + X * D * (b + y * Bk) := by
 have : s2 = X * y + wd + cr - 18446744073709551616 * k' := by omega
 subst this; grind
theorem low_add (S D F G x y c r q : Int) (h : S + c * D = F + 38 * G) (hr : r + 18446744073709551616 * q = y * 38 + x + c) : (S + r * D) + q * (D * 18446744073709551616) = (F + x * D) + 38 * (G + y * D) := by
 have : r = y * 38 + x + c - 18446744073709551616 * q := by omega
 subst this; grind
theorem times_ex (a b : Nat) (ha : a < 115792089237316195423570985008687907853269984665640564039457584007913129639936) (hb : b < 115792089237316195423570985008687907853269984665640564039457584007913129639936) (w : World) :
 Calls Tryz.prog 210 ([.agg (e4 a), .agg (e4 b)] : List Value).toArray w fun e w' => e = .returned (.agg (e4 (qd7 (f38 (a * b))))) ∧ Below w.heap.size w w' := by
 refine qj qc Tryz.func210 rfl Tryz.ntmps210 rfl (St.start w) ?_
 intro q2 q3 q4 q5
 refine ldN 0 rfl (qd _) ?_
 refine lp qc (fun x : Nat × (Nat → Int) => x.1 ≤ 4 ∧ (∀ j, 0 ≤ x.2 j ∧ x.2 j < 18446744073709551616) ∧ (∀ j, x.1 + 4 ≤ j → x.2 j = 0) ∧ qn 18446744073709551616 x.2 (x.1 + 4) = qn 18446744073709551616 (dg 18446744073709551616 a) x.1 * b) (fun x => ⟨[(3, ptr q3), (4, ptr q4), (5, ptr q5), (20, .agg (e4 a)), (21, .int .i64 (x.1 : Int))], [dead, cl q3 (e4 b) 180, cl q4 (#[.int .u64 0, .int .u64 0, .int .u64 0, .int .u64 0] : Array Value) 180, cl q5 (row .u64 8 x.2) 172], []⟩) (fun x => 4 - x.1) (0, fun _ => 0)
  ⟨by omega, fun j => by simp, fun _ _ => rfl, by rw [zr _ _ _ (fun _ _ => rfl)]; simp [qn]⟩ ⟨⟨rfl, rfl, rfl, rfl, rfl, trivial⟩, .dead (.cons (.cons (.cons .nil))), rfl⟩ ?_
 rintro ⟨i, g⟩ ⟨hi, hd, hz, hs⟩
 simp only at hi hd hz hs
 refine cd (fun hlt => ?_) (fun hge => ?_)
 · have hlt' : i < 4 := by (try simp only at hlt); omega
   have x0 := w_nn a i
   have x1 := w_lt a i
   refine ⟨by omega, by omega, .cell _ rfl (qY .u64 4 _ i hlt') ?_⟩
   refine ldN 1 rfl (qd _) ?_
   refine lp qc (fun x : Nat × (Nat → Int) × Int => x.1 ≤ 4 ∧ (0 ≤ x.2.2 ∧ x.2.2 < 18446744073709551616) ∧ (∀ j, 0 ≤ x.2.1 j ∧ x.2.1 j < 18446744073709551616) ∧ (∀ j, i + 4 ≤ j → x.2.1 j = 0) ∧ qn 18446744073709551616 x.2.1 (i + 4) + x.2.2 * (18446744073709551616 ^ i * 18446744073709551616 ^ x.1) = qn 18446744073709551616 g (i + 4) + dg 18446744073709551616 a i * 18446744073709551616 ^ i * qn 18446744073709551616 (dg 18446744073709551616 b) x.1) (fun x => ⟨[(3, ptr q3), (4, ptr q4), (5, ptr q5), (6, .int .i64 (i : Int)), (7, .int .u64 (dg 18446744073709551616 a i)), (8, .int .u64 x.2.2), (20, .agg (e4 a)), (21, .int .i64 (i : Int)), (25, .agg (e4 b)), (26, .int .i64 (x.1 : Int))], [dead, cl q3 (e4 b) 180, cl q4 (#[.int .u64 0, .int .u64 0, .int .u64 0, .int .u64 0] : Array Value) 180, cl q5 (row .u64 8 x.2.1) 172], []⟩) (fun x => 4 - x.1) (0, g, 0)
    ⟨by omega, ⟨by simp only; omega, by simp only; omega⟩, hd, hz, by simp only [qn]; omega⟩ ⟨⟨rfl, rfl, rfl, rfl, rfl, rfl, rfl, rfl, rfl, rfl, trivial⟩, .refl _, rfl⟩ ?_
   clear hd hz
   rintro ⟨k, h, cr⟩ ⟨hk, ⟨cr0, cr1⟩, hd, hz, ht⟩
   simp only at hk cr0 cr1 hd hz ht
   refine cd (fun hkl => ?_) (fun hkg => ?_)
   · have hk' : k < 4 := by (try simp only at hkl); omega
     have y0 := w_nn b k
     have y1 := w_lt b k
     obtain ⟨wd, hwd⟩ : ∃ z, z = h (i + k) := ⟨_, rfl⟩
     obtain ⟨z0, z1⟩ := hd (i + k)
     rw [← hwd] at z0 z1
     obtain ⟨x, hx⟩ : ∃ x, x = dg 18446744073709551616 a i := ⟨_, rfl⟩
     obtain ⟨y, hy⟩ : ∃ y, y = dg 18446744073709551616 b k := ⟨_, rfl⟩
     refine ⟨by omega, by omega, .cell _ rfl (qY .u64 4 _ k hk') ?_⟩
     rw [← hx] at x0 x1 ht ⊢
     rw [← hy] at y0 y1 ⊢
     have hm := fun w => mul64p x y x0 x1 y0 y1 w
     obtain ⟨hi', lo, s1, c1, s2, c2, e1, e2, e3, e4', e5, e6, b1, b2, b3, b4, b5', b6, b7, b8, b9, b10, b11, b12, b13, b14', hsum⟩ := mul_step x y wd cr x0 x1 y0 y1 z0 z1 cr0 cr1
     have ka := fun w => qdd lo wd b3 z0 w
     have kb := fun w => qdd s1 cr b5' cr0 w
     rw [e1, e2] at hm
     rw [e3, e4'] at ka
     rw [e5, e6] at kb
     clear e1 e2 e3 e4' e5 e6
     refine cv hm ?_
     refine .as ((i + k : Nat) : Int) (by (try push_cast); (try omega)) (by simp only [mn]; omega) (by simp only [mx]; omega) ?_
     refine ⟨by omega, by omega, ?_⟩
     refine ld1 3 rfl (v := .int .u64 wd) (by rw [hwd]; exact qY _ _ _ _ (by omega)) ?_
     refine qd9 rfl rfl rfl (fun w hs => ka w) ?_
     refine .as (hi' + c1) rfl (by show (0 : Int) ≤ _; omega) (by show _ ≤ (18446744073709551615 : Int); omega) ?_
     refine .as ((i + k : Nat) : Int) (by (try push_cast); (try omega)) (by simp only [mn]; omega) (by simp only [mx]; omega) ?_
     refine qd9 rfl rfl rfl (fun w hs => kb w) ?_
     refine ⟨by omega, by omega, ?_⟩
     refine s1e 3 (row .u64 8 (upd h (i + k) s2)) rfl (QV _ _ _ _ (by omega)) (zz _ _ _ _ _ _ rfl) ?_
     refine .as (hi' + c1 + c2) rfl (by show (0 : Int) ≤ _; omega) (by show _ ≤ (18446744073709551615 : Int); omega) ?_
     refine .as ((k + 1 : Nat) : Int) (by (try push_cast); (try omega)) (by simp only [mn]; omega) (by simp only [mx]; omega) ?_
     refine ⟨(k + 1, upd h (i + k) s2, hi' + c1 + c2), ⟨by simp only; omega, ⟨by simp only; omega, b14'⟩, fun j => ?_, fun j hj => ?_, ?_⟩, by simp only; omega, ⟨⟨rfl, rfl, rfl, rfl, rfl, rfl, rfl, rfl, rfl, rfl, trivial⟩, .refl _, rfl⟩⟩
     · by_cases e : j = i + k
       · subst e; simp only; rw [qu]; exact ⟨b9, b10⟩
       · simp only; rw [qs _ _ _ _ e]; exact hd j
     · simp only; rw [qs _ _ _ _ (by omega)]; exact hz j hj
     · simp only
       rw [Qt _ _ _ _ _ (by omega), ← hwd, Int.pow_add, qcf _ (dg 18446744073709551616 b) k, ← hy, Int.pow_succ 18446744073709551616 k]
       exact mul_add _ _ _ _ _ _ _ _ _ _ _ ht hsum
   · obtain rfl : k = 4 := by (try simp only at hkg); omega
     refine .as ((i + 4 : Nat) : Int) (by (try push_cast); (try omega)) (by simp only [mn]; omega) (by simp only [mx]; omega) ?_
     refine ⟨by omega, by omega, ?_⟩
     refine s1e 3 (row .u64 8 (upd h (i + 4) cr)) rfl (QV _ _ _ _ (by omega)) (zz _ _ _ _ _ _ rfl) ?_
     refine .as ((i + 1 : Nat) : Int) (by (try push_cast); (try omega)) (by simp only [mn]; omega) (by simp only [mx]; omega) ?_
     refine ⟨(i + 1, upd h (i + 4) cr), ⟨by simp only; omega, fun j => ?_, fun j hj => ?_, ?_⟩, by simp only; omega, ⟨⟨rfl, rfl, rfl, rfl, rfl, trivial⟩, .refl _, rfl⟩⟩
     · by_cases e : j = i + 4
       · subst e; simp only; rw [qu]; exact ⟨cr0, cr1⟩
       · simp only; rw [qs _ _ _ _ e]; exact hd j
     · simp only at hj ⊢; rw [qs _ _ _ _ (by omega)]; exact hz j (by omega)
     · simp only
       rw [show i + 1 + 4 = (i + 4) + 1 by omega]
       rw [hs, sum4 b hb] at ht
       rw [qcf _ (upd h (i + 4) cr) (i + 4), qcf _ (dg 18446744073709551616 a) i, QB _ _ _ _ _ (Nat.le_refl _), qu, Int.pow_add 18446744073709551616 i 4, Int.add_mul]
       exact ht
 · obtain rfl : i = 4 := by (try simp only at hge); omega
   rw [sum4 a ha] at hs
   obtain ⟨lw, _, _, hlws⟩ := e4_of g (fun j _ => hd j)
   obtain ⟨hg, _, _, hhgs⟩ := e4_of (fun j => g (j + 4)) (fun j _ => hd (j + 4))
   have hsp := Zt 18446744073709551616 g 4 4
   rw [hs, hlws, hhgs, p64_4] at hsp
   have hnum : f38 (a * b) = lw + 38 * hg := by
    have h1 : ((a * b : Nat) : Int) = ((lw + hg * 115792089237316195423570985008687907853269984665640564039457584007913129639936 : Nat) : Int) := by rw [Int.natCast_mul, hsp]; omega
    rw [Int.ofNat_inj.1 h1, f38_at _ _ (by assumption)]
   clear hsp hs hz
   intro q14
   refine lp qc (fun x : Nat × (Nat → Int) × Int => x.1 ≤ 4 ∧ (0 ≤ x.2.2 ∧ x.2.2 < 18446744073709551616) ∧ (∀ j, 0 ≤ x.2.1 j ∧ x.2.1 j < 18446744073709551616) ∧ qn 18446744073709551616 x.2.1 x.1 + x.2.2 * 18446744073709551616 ^ x.1 = qn 18446744073709551616 g x.1 + 38 * qn 18446744073709551616 (fun j => g (j + 4)) x.1) (fun x => ⟨[(4, ptr q4), (5, ptr q5), (14, ptr q14), (15, .int .u64 x.2.2), (68, .int .i64 (x.1 : Int))], [dead, dead, cl q4 (#[.int .u64 0, .int .u64 0, .int .u64 0, .int .u64 0] : Array Value) 180, cl q5 (row .u64 8 g) 172, cl q14 (row .u64 4 x.2.1) 180], []⟩) (fun x => 4 - x.1) (0, fun _ => 0, 0)
    ⟨by omega, ⟨by simp only; omega, by simp only; omega⟩, fun j => by simp, by simp [qn]⟩ ⟨⟨rfl, rfl, rfl, rfl, rfl, trivial⟩, .dead (.dead (.cons (.cons (.cons .nil)))), rfl⟩ ?_
   rintro ⟨k, h, cr⟩ ⟨hk, ⟨cr0, cr1⟩, he, hs⟩
   simp only at hk cr0 cr1 he hs
   refine cd (fun hkl => ?_) (fun hkg => ?_)
   · have hk' : k < 4 := by (try simp only at hkl); omega
     obtain ⟨x, hx⟩ : ∃ x, x = g (k + 4) := ⟨_, rfl⟩
     obtain ⟨wd, hwd⟩ : ∃ z, z = g k := ⟨_, rfl⟩
     obtain ⟨x0, x1⟩ := hd (k + 4)
     obtain ⟨z0, z1⟩ := hd k
     rw [← hx] at x0 x1
     rw [← hwd] at z0 z1
     have hm := fun w => mul64p x 38 x0 x1 (by omega) (by omega) w
     obtain ⟨hi', lo, s1, c1, s2, c2, e1, e2, e3, e4', e5, e6, b1, b2, b3, b4, b5', b6, b7, b8, b9, b10, b11, b12, b13, b14', hsum⟩ := mul_step x 38 wd cr x0 x1 (by omega) (by omega) z0 z1 cr0 cr1
     have ka := fun w => qdd lo wd b3 z0 w
     have kb := fun w => qdd s1 cr b5' cr0 w
     rw [e1, e2] at hm
     rw [e3, e4'] at ka
     rw [e5, e6] at kb
     clear e1 e2 e3 e4' e5 e6
     refine .as ((k + 4 : Nat) : Int) (by (try push_cast); (try omega)) (by simp only [mn]; omega) (by simp only [mx]; omega) ?_
     refine ⟨by omega, by omega, ?_⟩
     refine ld1 3 rfl (v := .int .u64 x) (by rw [hx]; exact qY _ _ _ _ (by omega)) ?_
     refine cv hm ?_
     refine ⟨by omega, by omega, ?_⟩
     refine ld1 3 rfl (v := .int .u64 wd) (by rw [hwd]; exact qY _ _ _ _ (by omega)) ?_
     refine qd9 rfl rfl rfl (fun w hs => ka w) ?_
     refine .as (hi' + c1) rfl (by show (0 : Int) ≤ _; omega) (by show _ ≤ (18446744073709551615 : Int); omega) ?_
     refine qd9 rfl rfl rfl (fun w hs => kb w) ?_
     refine ⟨by omega, by omega, ?_⟩
     refine s1e 4 (row .u64 4 (upd h k s2)) rfl (QV _ _ _ _ hk') (zz _ _ _ _ _ _ rfl) ?_
     refine .as (hi' + c1 + c2) rfl (by show (0 : Int) ≤ _; omega) (by show _ ≤ (18446744073709551615 : Int); omega) ?_
     refine .as ((k + 1 : Nat) : Int) (by (try push_cast); (try omega)) (by simp only [mn]; omega) (by simp only [mx]; omega) ?_
     refine ⟨(k + 1, upd h k s2, hi' + c1 + c2), ⟨by simp only; omega, ⟨by simp only; omega, b14'⟩, fun j => ?_, ?_⟩, by simp only; omega, ⟨⟨rfl, rfl, rfl, rfl, rfl, trivial⟩, .refl _, rfl⟩⟩
     · by_cases e : j = k
       · subst e; simp only; rw [qu]; exact ⟨b9, b10⟩
       · simp only; rw [qs _ _ _ _ e]; exact he j
     · simp only [qn]
       rw [QB _ _ _ _ _ (Nat.le_refl _), qu, ← hx, ← hwd, Int.pow_succ]
       exact low_add _ _ _ _ _ _ _ _ _ hs hsum
   · obtain rfl : k = 4 := by (try simp only at hkg); omega
     obtain ⟨A', hA', hrow, hsumA⟩ := e4_of h (fun j _ => he j)
     rw [hsumA, hlws, hhgs, p64_4] at hs
     obtain ⟨o', rfl⟩ := Int.eq_ofNat_of_zero_le cr0
     have hN : f38 (a * b) = A' + o' * 115792089237316195423570985008687907853269984665640564039457584007913129639936 := by rw [hnum]; omega
     refine ldN 4 rfl (qR _ _ _) ?_
     rw [hrow, ← e4_hi A' o', ← hN, show (o' : Int) = ((f38 (a * b) / 115792089237316195423570985008687907853269984665640564039457584007913129639936 : Nat) : Int) by rw [hN]; omega]
     refine cv (fun w => fold_ex (f38 (a * b)) (by rw [hN]; omega) w) ?_
     refine sN 2 rfl (by rw [qd]; rfl) (ql _) ?_ (by kernel_rfl)
     refine ldN 2 rfl (qd _) ?_
     exact rt rfl
theorem times_lt (a b : Nat) (ha : a < 115792089237316195423570985008687907853269984665640564039457584007913129639936) (hb : b < 115792089237316195423570985008687907853269984665640564039457584007913129639936) : f38 (a * b) < 2135987035920910082395021706169552114602704522356652769947041607822219725780640550022962086936576 := by
 have : a * b < 115792089237316195423570985008687907853269984665640564039457584007913129639936 * 115792089237316195423570985008687907853269984665640564039457584007913129639936 := Nat.mul_lt_mul'' ha hb
 unfold f38
 omega
end
section
open Go.RowKit Go.Lib
def ofw (n k q : Nat) : Nat := if k ≤ 8 * q then n / 256 ^ (8 * q) % 256 ^ 8 else if 8 * q + 8 ≤ k then 0 else n / 256 ^ k % 256 ^ (8 * q + 8 - k)
theorem qdO (n k q : Nat) (h1 : 8 * q ≤ k) (h2 : k ≤ 8 * q + 8) : ofw n k q = n / 256 ^ k % 256 ^ (8 * q + 8 - k) := by
 unfold ofw
 split
 · have : k = 8 * q := by omega
   subst this; rw [show 8 * q + 8 - 8 * q = 8 by omega]
 · split
   · have : k = 8 * q + 8 := by omega
     subst this; simp [Nat.mod_one]
   · rfl
theorem ofw_other (n k q : Nat) (h : q ≠ k / 8) : ofw n (k + 1) q = ofw n k q := by
 unfold ofw
 by_cases h1 : k + 1 ≤ 8 * q
 · rw [if_pos h1, if_pos (by omega)]
 · rw [if_neg h1, if_neg (show ¬ k ≤ 8 * q by omega), if_pos (show 8 * q + 8 ≤ k + 1 by omega), if_pos (show 8 * q + 8 ≤ k by omega)]
theorem ofw_step (n k : Nat) : ofw n k (k / 8) = ofw n (k + 1) (k / 8) * 256 + n / 256 ^ k % 256 := by
 rw [qdO n k (k / 8) (by omega) (by omega), qdO n (k + 1) (k / 8) (by omega) (by omega)]
 have e : 8 * (k / 8) + 8 - k = (8 * (k / 8) + 8 - (k + 1)) + 1 := by omega
 rw [e, Nat.pow_succ 256 (8 * (k / 8) + 8 - (k + 1)), Nat.mul_comm, Nat.mod_mul, Nat.pow_succ 256 k, ← Nat.div_div_eq_div_mul]
 omega
theorem ofw_lt (n k : Nat) : ofw n (k + 1) (k / 8) < 72057594037927936 := by
 rw [qdO n (k + 1) (k / 8) (by omega) (by omega)]
 have h1 : n / 256 ^ (k + 1) % 256 ^ (8 * (k / 8) + 8 - (k + 1)) < 256 ^ (8 * (k / 8) + 8 - (k + 1)) := Nat.mod_lt _ (Nat.pow_pos (by decide))
 have h2 : 256 ^ (8 * (k / 8) + 8 - (k + 1)) ≤ 256 ^ 7 := Nat.pow_le_pow_right (by decide) (by omega)
 have h3 : (256 : Nat) ^ 7 = 72057594037927936 := by decide
 omega
theorem or_byte (a b : Nat) (ha : a < 72057594037927936) (hb : b < 256) : bits .or .u64 ((a : Int) * 256) (b : Int) = ((a * 256 + b : Nat) : Int) := by
 have h := bits_or_u64_nat (a * 256) b (by omega) (by omega)
 have e : a * 256 ||| b = a * 256 + b := by
  have := Nat.shiftLeft_add_eq_or_of_lt (i := 8) (b := b) (by omega) a
  rw [Nat.shiftLeft_eq] at this
  exact this.symm
 rw [e] at h
 rw [← h, Int.natCast_mul]; rfl
theorem and_top (a : Nat) (ha : a < 18446744073709551616) : bits .and .u64 (a : Int) 9223372036854775807 = ((a % 9223372036854775808 : Nat) : Int) := by
 have h := bits_and_u64_nat a 9223372036854775807 ha (by omega)
 have e : a &&& 9223372036854775807 = a % 9223372036854775808 := Nat.and_two_pow_sub_one_eq_mod a 63
 rw [e] at h
 exact h
theorem ofw_0 (n q : Nat) : (ofw n 0 q : Int) = dg 18446744073709551616 n q := by
 unfold ofw dg
 rw [if_pos (by omega), Nat.pow_mul, show (256 : Nat) ^ 8 = 18446744073709551616 by decide]
theorem top_row (n : Nat) (hn : n < 115792089237316195423570985008687907853269984665640564039457584007913129639936) (h : Nat → Int) (hh : ∀ q, q < 4 → h q = dg 18446744073709551616 n q) (t : Nat) (ht : h 3 = t) : row .u64 4 (upd h 3 ((t % 9223372036854775808 : Nat) : Int)) = e4 (n % 57896044618658097711785492504343953926634992332820282019728792003956564819968) := by
 have h3 : (t : Int) = ((n / 18446744073709551616 ^ 3 % 18446744073709551616 : Nat) : Int) := by rw [← ht, hh 3 (by omega)]; rfl
 have hp : (18446744073709551616 : Nat) ^ 3 = 6277101735386680763835789423207666416102355444464034512896 := by decide +kernel
 refine Qb _ _ _ _ (zL 18446744073709551616 _ _ 4 (fun i hi => ?_) ?_)
 · by_cases e : i = 3
   · subst e; rw [qu]; omega
   · rw [qs _ _ _ _ e, hh i hi]; exact ⟨w_nn n i, w_lt n i⟩
 · show qn 18446744073709551616 _ 4 = _
   rw [Qt _ _ _ _ _ (by omega), zm _ h (dg 18446744073709551616 n) 4 hh, sum4 n hn, ht]
   have hp3 : (18446744073709551616 : Int) ^ 3 = 6277101735386680763835789423207666416102355444464034512896 := by decide +kernel
   rw [hp] at h3
   rw [hp3]
   omega
open Go.Sx
theorem of_any (n : Nat) (hn : n < 115792089237316195423570985008687907853269984665640564039457584007913129639936) (w : World) :
 Calls Tryz.prog 159 ([.agg (k32 n)] : List Value).toArray w fun e w' => e = .returned (.agg (e4 (n % 57896044618658097711785492504343953926634992332820282019728792003956564819968))) ∧ Below w.heap.size w w' := by
 refine qj qc Tryz.func159 rfl Tryz.ntmps159 rfl (St.start w) ?_
 intro b1 b2
 refine lp qc (fun x : Nat × (Nat → Int) => x.1 ≤ 32 ∧ ∀ q, q < 4 → x.2 q = (ofw n x.1 q : Int)) (fun x => ⟨[(1, ptr b1), (2, ptr b2), (3, .int .i64 ((x.1 : Int) - 1))], [cl b1 (k32 n) 36, cl b2 (row .u64 4 x.2) 180], []⟩) (fun x => x.1) (32, fun _ => 0) ⟨Nat.le_refl _, fun q hq => by unfold ofw; rw [if_neg (by omega), if_pos (by omega)]; rfl⟩ ⟨⟨rfl, rfl, rfl, trivial⟩, .refl _, rfl⟩ ?_
 rintro ⟨k, h⟩ ⟨hk, hh⟩
 simp only at hk hh
 refine cd (fun hlt => ?_) (fun hge => ?_)
 · obtain ⟨k, rfl⟩ : ∃ j, k = j + 1 := ⟨k - 1, by (try simp only at hlt); omega⟩
   rw [show (((k + 1 : Nat) : Int) - 1) = (k : Int) by omega]
   have x1 := ofw_lt n k
   have hst := ofw_step n k
   obtain ⟨x, hx⟩ : ∃ x, x = ofw n (k + 1) (k / 8) := ⟨_, rfl⟩
   obtain ⟨y, hy⟩ : ∃ y, y = n / 256 ^ k % 256 := ⟨_, rfl⟩
   have y1 : y < 256 := by rw [hy]; exact Nat.mod_lt _ (by decide)
   rw [← hx] at x1 hst
   rw [← hy] at hst
   have hor := or_byte x y x1 y1
   have hq : (k : Int) / 8 = ((k / 8 : Nat) : Int) := by omega
   refine drs [cl b1 (k32 n) 36, dead] [] (.t 0 (.t 1 (.t 2 (.t 3 (.t 4 (.t 7 (.t 8 (.t 9 (.t 10 (.n 5 (.t 6 (.t 11 (.t 12 (.n 13 .nil)))))))))))))) qc qe (by kernel_rfl) (.cons (.dead .nil)) ?_
   refine ⟨by omega, by simp only [mx]; omega, by decide, ?_⟩
   refine ⟨by omega, by simp only [mx]; omega, by decide, ?_⟩
   rw [hq]
   refine ⟨by omega, by omega, ?_⟩
   refine ⟨by omega, by omega, ?_⟩
   refine ld1 0 rfl (v := .int .u8 (y : Int)) (by rw [hy]; exact qY .u8 32 (dg 256 n) k (by omega)) ?_
   refine .same (by simp only [mn]; omega) (by simp only [mx]; omega) ?_
   refine ld1 1 rfl (v := .int .u64 (x : Int)) (by rw [hx, ← hh _ (by omega)]; exact qY .u64 4 h (k / 8) (by omega)) ?_
   refine ⟨.cons (.dead .nil), ?_⟩
   refine ⟨by decide, .as ((x * 256 : Nat) : Int) (shlB x 8 64 (by decide)) (by simp only [mn]; omega) (by simp only [mx]; omega) ?_⟩
   refine ⟨by omega, by omega, ?_⟩
   refine s1e 1 (row .u64 4 (upd h (k / 8) ((x * 256 + y : Nat) : Int))) rfl (QV _ _ _ _ (by omega)) (by rw [bitB_or, Int.natCast_mul, show ((256 : Nat) : Int) = 256 from rfl, hor]; exact zz _ _ _ _ _ _ rfl) ?_
   refine ⟨.cons (.dead .nil), ?_⟩
   refine .as ((k : Int) - 1) rfl (by simp only [mn]; omega) (by simp only [mx]; omega) ?_
   refine ⟨(k, upd h (k / 8) ((x * 256 + y : Nat) : Int)), ⟨by simp only; omega, fun q hq' => ?_⟩, by simp only; omega, ⟨⟨rfl, rfl, rfl, trivial⟩, .refl _, rfl⟩⟩
   simp only
   by_cases e : q = k / 8
   · subst e; rw [qu, hst]
   · rw [qs _ _ _ _ e, ← ofw_other n k q e]; exact hh q hq'
 · obtain rfl : k = 0 := by (try simp only at hge); omega
   have h0 : ∀ q, q < 4 → h q = dg 18446744073709551616 n q := fun q hq => (hh q hq).trans (ofw_0 n q)
   obtain ⟨t, ht⟩ : ∃ t, t = ofw n 0 3 := ⟨_, rfl⟩
   have z1 : t < 18446744073709551616 := by have := w_lt n 3; rw [← ofw_0, ← ht] at this; omega
   have h3 : h 3 = (t : Int) := by rw [ht]; exact hh 3 (by omega)
   refine ⟨by decide, by decide, ?_⟩
   refine ld1 1 rfl (v := .int .u64 (t : Int)) (by rw [← h3]; exact qP _ _ _ 3 (by decide)) ?_
   refine ⟨by decide, by decide, ?_⟩
   refine s1e 1 (e4 (n % 57896044618658097711785492504343953926634992332820282019728792003956564819968)) rfl (by rw [qR]; decide) (by rw [z6, and_top t z1]; exact (zS _ _ _ 3 _).trans (top_row n hn h h0 t h3)) ?_
   refine ldN 1 rfl (qd _) ?_
   refine sN 1 rfl rfl (ql _) ?_ (by kernel_rfl)
   refine ldN 1 rfl (qd _) ?_
   exact rt rfl
end
section
open Go.RowKit Go.Lib
theorem qdL (a b : Nat) (ha : a < 115792089237316195423570985008687907853269984665640564039457584007913129639936) (hb : b < 115792089237316195423570985008687907853269984665640564039457584007913129639936) (hab : a + b < 115792089237316195423570985008687907853269984665640564039457584007913129639936) (w : World) :
 Calls Tryz.prog 211 #[.agg (e4 a), .agg (e4 b)] w fun e w' => e = .returned (.agg (e4 (a + b))) ∧ Below w.heap.size w w' := by
 have := plus_ex a b ha hb w
 rwa [fld_self _ hab] at this
end
section
open Go.RowKit Go.Lib
theorem e4_small (x : Nat) (hx : x < 18446744073709551616) : (#[.int .u64 (x : Int), .int .u64 0, .int .u64 0, .int .u64 0] : Array Value) = e4 x := by
 have : e4 x = row .u64 4 (fun i => if i = 0 then (x : Int) else 0) := Qb _ _ _ _ fun i hi => by
  unfold dg
  split
  · rename_i h; subst h; rw [Nat.pow_zero, Nat.div_one, Nat.mod_eq_of_lt hx]
  · rw [Nat.div_eq_of_lt (Nat.lt_of_lt_of_le hx (by
     have : 18446744073709551616 ^ 1 ≤ 18446744073709551616 ^ i := Nat.pow_le_pow_right (by decide) (by omega)
     simpa using this))]; rfl
 rw [this]; rfl
theorem top_word (A : Nat) (hA : A < 115792089237316195423570985008687907853269984665640564039457584007913129639936) : ∃ t : Nat, dg 18446744073709551616 A 3 = t ∧ t < 18446744073709551616 ∧ t / 9223372036854775808 = A / 57896044618658097711785492504343953926634992332820282019728792003956564819968 := by
 refine ⟨A / 18446744073709551616 ^ 3 % 18446744073709551616, rfl, Nat.mod_lt _ (by decide), ?_⟩
 have hp : (18446744073709551616 : Nat) ^ 3 = 6277101735386680763835789423207666416102355444464034512896 := by decide +kernel
 rw [hp]; omega
theorem least_round (A : Nat) : (A % 57896044618658097711785492504343953926634992332820282019728792003956564819968 + 19 * (A / 57896044618658097711785492504343953926634992332820282019728792003956564819968)) % PP = A % PP := by
 have e : 57896044618658097711785492504343953926634992332820282019728792003956564819968 = 19 + PP := by decide +kernel
 have h1 := Nat.div_add_mod A 57896044618658097711785492504343953926634992332820282019728792003956564819968
 generalize A % 57896044618658097711785492504343953926634992332820282019728792003956564819968 = x at *
 generalize A / 57896044618658097711785492504343953926634992332820282019728792003956564819968 = q at *
 rw [← h1, e, Nat.add_mul, show 19 * q + PP * q + x = x + 19 * q + PP * q by omega, Nat.add_mul_mod_self_left]
open Go.Sx
theorem bdE (x : Nat) (hx : x < 18446744073709551616) : Tryz.prog.built 180 [(0, .int .u64 (x : Int))] = some (e4 x) := by rw [← e4_small x hx]; kernel_rfl
theorem shr63 (t : Nat) : (t : Int).fdiv (2 ^ (min (Int.toNat 63) 64)) = ((t / 9223372036854775808 : Nat) : Int) := shrB t 63 64 (by decide)
theorem qav (n : Nat) (hn : n < 115792089237316195423570985008687907853269984665640564039457584007913129639936) (w : World) :
 Calls Tryz.prog 209 ([.agg (e4 n)] : List Value).toArray w fun e w' => e = .returned (.agg (e4 (n % PP))) ∧ Below w.heap.size w w' := by
 have hPP := QR
 refine qj qc Tryz.func209 rfl Tryz.ntmps209 rfl (St.start w) ?_
 intro b1 b2
 refine lp qc (fun x : Nat × Nat => x.1 ≤ 2 ∧ x.2 % PP = n % PP ∧ x.2 < 115792089237316195423570985008687907853269984665640564039457584007913129639936 ∧ (1 ≤ x.1 → x.2 < 57896044618658097711785492504343953926634992332820282019728792003956564819987) ∧ (2 ≤ x.1 → x.2 < 57896044618658097711785492504343953926634992332820282019728792003956564819968)) (fun x => ⟨[(1, ptr b1), (2, ptr b2), (5, .int .i64 (x.1 : Int))], [cl b1 (e4 x.2) 180, cl b2 (#[.int .u64 0, .int .u64 0, .int .u64 0, .int .u64 0] : Array Value) 180], []⟩) (fun x => 2 - x.1) (0, n) ⟨by omega, rfl, hn, fun h => by simp at h, fun h => by simp at h⟩ ⟨⟨rfl, rfl, rfl, trivial⟩, .refl _, rfl⟩ ?_
 rintro ⟨k, A⟩ ⟨hk, hA, hA2, hk1, hk2⟩
 simp only at hk hA hA2 hk1 hk2
 refine cd (fun hlt => ?_) (fun hge => ?_)
 · obtain ⟨t, ht, htb, hov⟩ := top_word A hA2
   refine ⟨by decide, by decide, ?_⟩
   refine ld1 0 rfl (v := .int .u64 (t : Int)) (by rw [← ht]; exact qP .u64 4 _ 3 (by decide)) ?_
   refine ⟨by decide, ?_⟩
   refine ⟨by decide, by decide, ?_⟩
   refine ld1 0 rfl (v := .int .u64 (t : Int)) (by rw [← ht]; exact qP .u64 4 _ 3 (by decide)) ?_
   refine ⟨by decide, by decide, ?_⟩
   refine s1e 0 (e4 (A % 57896044618658097711785492504343953926634992332820282019728792003956564819968)) rfl (by rw [qd]; decide) (by rw [z6, and_top t htb]; exact (zS _ _ _ 3 _).trans (top_row A hA2 _ (fun _ _ => rfl) t ht)) ?_
   have hlr := least_round A
   obtain ⟨B, hB⟩ : ∃ B, B = A % 57896044618658097711785492504343953926634992332820282019728792003956564819968 := ⟨_, rfl⟩
   obtain ⟨o, ho⟩ : ∃ o, o = A / 57896044618658097711785492504343953926634992332820282019728792003956564819968 := ⟨_, rfl⟩
   rw [← hB, ← ho] at hlr
   rw [← hB]
   have ho1 : o ≤ 1 := by omega
   refine ldN 0 rfl (qd _) ?_
   refine .as ((19 * o : Nat) : Int) (by show (19 : Int) * (t : Int).fdiv (2 ^ (min (Int.toNat 63) 64)) = _; rw [shr63 t, hov]; omega) (by simp only [mn]; omega) (by simp only [mx]; omega) ?_
   refine bu (bdE (19 * o) (by omega)) ?_
   refine cv (fun w => qdL B (19 * o) (by omega) (by omega) (by omega) w) ?_
   refine sN 0 rfl (by rw [qd]; rfl) (ql _) ?_ (by kernel_rfl)
   refine .as ((k + 1 : Nat) : Int) (by (try push_cast); (try omega)) (by simp only [mn]; omega) (by simp only [mx]; omega) ?_
   exact ⟨(k + 1, B + 19 * o), ⟨by (try simp only at hlt); simp only; omega, hlr.trans hA, by simp only; omega, fun _ => by simp only; omega, fun hh => by simp only at hh ⊢; have := hk1 (by omega); omega⟩, by (try simp only at hlt); simp only; omega, ⟨⟨rfl, rfl, rfl, trivial⟩, .refl _, rfl⟩⟩
 · obtain rfl : k = 2 := by (try simp only at hge); omega
   have h255 := hk2 (by omega)
   refine ldN 0 rfl (qd _) ?_
   refine bu (bdE 19 (by decide)) ?_
   refine cv (fun w => qdL A 19 hA2 (by decide) (by omega) w) ?_
   intro b4
   refine sN 2 rfl (by rw [qd]; rfl) (ql _) ?_ (by kernel_rfl)
   obtain ⟨b, hb⟩ : ∃ b, b = A + 19 := ⟨_, rfl⟩
   have hb256 : b < 115792089237316195423570985008687907853269984665640564039457584007913129639936 := by omega
   obtain ⟨t, ht, htb, hov⟩ := top_word b hb256
   rw [← hb]
   refine ⟨by decide, by decide, ?_⟩
   refine ld1 2 rfl (v := .int .u64 (t : Int)) (by rw [← ht]; exact qP .u64 4 _ 3 (by decide)) ?_
   refine ⟨by decide, ?_⟩
   have he : (t : Int).fdiv (2 ^ (min (Int.toNat 63) 64)) = ((b / 57896044618658097711785492504343953926634992332820282019728792003956564819968 : Nat) : Int) := by rw [shr63 t, hov]
   refine cq (x := (t : Int).fdiv (2 ^ (min (Int.toNat 63) 64))) (fun h1 => ?_) (fun h1 => ?_) <;> rw [he] at h1
   · refine ⟨by decide, by decide, ?_⟩
     refine ld1 2 rfl (v := .int .u64 (t : Int)) (by rw [← ht]; exact qP .u64 4 _ 3 (by decide)) ?_
     refine ⟨by decide, by decide, ?_⟩
     refine s1e 2 (e4 (b % 57896044618658097711785492504343953926634992332820282019728792003956564819968)) rfl (by rw [qd]; decide) (by rw [z6, and_top t htb]; exact (zS _ _ _ 3 _).trans (top_row b hb256 _ (fun _ _ => rfl) t ht)) ?_
     refine ldN 2 rfl (qd _) ?_
     refine sN 1 rfl (by rw [qd]; rfl) (ql _) ?_ (by kernel_rfl)
     refine ldN 1 rfl (qd _) ?_
     refine rt ?_
     have hz : b % 57896044618658097711785492504343953926634992332820282019728792003956564819968 = n % PP := by
      rw [← hA, Nat.mod_eq_sub_mod (show A ≥ PP by rw [QR]; omega), Nat.mod_eq_of_lt (show A - PP < PP by rw [QR]; omega), QR]; omega
     rw [hz]
     rfl
   · refine ldN 0 rfl (qd _) ?_
     refine sN 1 rfl (by rw [qd]; rfl) (ql _) ?_ (by kernel_rfl)
     refine ldN 1 rfl (qd _) ?_
     exact rt (by rw [← hA, Nat.mod_eq_of_lt (show A < PP by omega)]; rfl)
end
section
open Go.RowKit Go.Sx
variable {C : Cx} {L : List Ent} {t : TypeId} {a b : Operand} {c d : Array Value} {r : Bool} {next : Value → List Ent → Prop}
theorem eqR (hP : C.P = Tryz.prog) (hg : Tryz.prog.eqGuardType Tryz.prog.depth t = false) (h : ∀ w, (Op.equalIn 10000 t (.agg c) (.agg d)).run Tryz.prog w = .ok r w) (go : next (.bool r) L) :
 ZV C (do eqGuard .eql t a b (.agg c) (.agg d); binOp .eql t (.agg c) (.agg d)) L next := by
 refine semV (fun w _ => ?_) go
 rw [hP]
 simp only [Sem.run_bind, qcz hg, Result.andThen_ok]
 rw [run_eql_struct, h]
 rfl
theorem neR (hP : C.P = Tryz.prog) (hg : Tryz.prog.eqGuardType Tryz.prog.depth t = false) (h : ∀ w, (Op.equalIn 10000 t (.agg c) (.agg d)).run Tryz.prog w = .ok r w) (go : next (.bool (!r)) L) :
 ZV C (do eqGuard .neq t a b (.agg c) (.agg d); binOp .neq t (.agg c) (.agg d)) L next := by
 refine semV (fun w _ => ?_) go
 rw [hP]
 simp only [Sem.run_bind, qcz hg, Result.andThen_ok]
 rw [run_neq_struct, h]
 rfl
end
section
open Go.RowKit Go.Lib
theorem key_byte (n k : Nat) : (n / 18446744073709551616 ^ (k / 8) % 18446744073709551616) / 2 ^ (8 * (k % 8)) % 256 = n / 256 ^ k % 256 := by
 have e : 256 ^ k = 18446744073709551616 ^ (k / 8) * 256 ^ (k % 8) := by
  rw [show (18446744073709551616 : Nat) = 256 ^ 8 by decide, ← Nat.pow_mul, ← Nat.pow_add, Nat.div_add_mod]
 rw [e, ← Nat.div_div_eq_div_mul]
 generalize n / 18446744073709551616 ^ (k / 8) = q
 have hr : k % 8 < 8 := Nat.mod_lt _ (by decide)
 generalize k % 8 = r at *
 rcases (show r = 0 ∨ r = 1 ∨ r = 2 ∨ r = 3 ∨ r = 4 ∨ r = 5 ∨ r = 6 ∨ r = 7 by omega) with rfl | rfl | rfl | rfl | rfl | rfl | rfl | rfl <;> simp <;> omega
theorem and_one (a : Nat) (ha : a < 18446744073709551616) : bits .and .u64 (a : Int) 1 = ((a % 2 : Nat) : Int) := by
 have h := bits_and_u64_nat a 1 ha (by omega)
 have e : a &&& 1 = a % 2 := Nat.and_two_pow_sub_one_eq_mod a 1
 rw [e] at h
 exact h
theorem e4_eq (x y : Nat) (hx : x < 115792089237316195423570985008687907853269984665640564039457584007913129639936) (hy : y < 115792089237316195423570985008687907853269984665640564039457584007913129639936) (w : World) : (Op.equalIn 10000 180 (.agg (e4 x)) (.agg (e4 y))).run Tryz.prog w = .ok (decide (x = y)) w := by
 rw [← eqr_dg 18446744073709551616 4 x y (by rw [n64_4]; exact hx) (by rw [n64_4]; exact hy)]
 exact qaA w 9998 180 131 4 .u64 Tryz.underlying180 Tryz.underlying131 sz_u64 _ _
theorem qdV (n : Nat) : n % PP < 115792089237316195423570985008687907853269984665640564039457584007913129639936 := Nat.lt_trans (Nat.mod_lt _ qw) (by decide +kernel)
open Go.Sx
theorem z24k : ((#[.int .u8 0, .int .u8 0, .int .u8 0, .int .u8 0, .int .u8 0, .int .u8 0, .int .u8 0, .int .u8 0, .int .u8 0, .int .u8 0, .int .u8 0, .int .u8 0, .int .u8 0, .int .u8 0, .int .u8 0, .int .u8 0, .int .u8 0, .int .u8 0, .int .u8 0, .int .u8 0, .int .u8 0, .int .u8 0, .int .u8 0, .int .u8 0, .int .u8 0, .int .u8 0, .int .u8 0, .int .u8 0, .int .u8 0, .int .u8 0, .int .u8 0, .int .u8 0] : Array Value)) = k32 0 := by kernel_rfl
theorem key_any (n : Nat) (hn : n < 115792089237316195423570985008687907853269984665640564039457584007913129639936) (w : World) :
 Calls Tryz.prog 160 ([.agg (e4 n)] : List Value).toArray w fun e w' => e = .returned (.agg (k32 (n % PP))) ∧ Below w.heap.size w w' := by
 refine qj qc Tryz.func160 rfl Tryz.ntmps160 rfl (St.start w) ?_
 intro b1 b2
 refine ldN 0 rfl (qd _) ?_
 refine cv (fun w => qav n hn w) ?_
 obtain ⟨r, hr⟩ : ∃ r, r = n % PP := ⟨_, rfl⟩
 rw [← hr]
 refine sN 0 rfl (by rw [qd]; rfl) (ql _) ?_ (by kernel_rfl)
 have he : ((#[.int .u8 0, .int .u8 0, .int .u8 0, .int .u8 0, .int .u8 0, .int .u8 0, .int .u8 0, .int .u8 0, .int .u8 0, .int .u8 0, .int .u8 0, .int .u8 0, .int .u8 0, .int .u8 0, .int .u8 0, .int .u8 0, .int .u8 0, .int .u8 0, .int .u8 0, .int .u8 0, .int .u8 0, .int .u8 0, .int .u8 0, .int .u8 0, .int .u8 0, .int .u8 0, .int .u8 0, .int .u8 0, .int .u8 0, .int .u8 0, .int .u8 0, .int .u8 0] : Array Value)) = row .u8 32 (mix 256 r 0 0) := z24k.trans (qdX _ _ _ _ _)
 refine lp qc (fun k : Nat => k ≤ 32) (fun k => ⟨[(1, ptr b1), (2, ptr b2), (6, .int .i64 (k : Int))], [cl b1 (e4 r) 180, cl b2 (row .u8 32 (mix 256 r 0 k)) 36], []⟩) (fun k => 32 - k) 0 (by decide) ⟨⟨rfl, rfl, rfl, trivial⟩, by rw [← he]; exact .refl _, rfl⟩ ?_
 intro k hk
 refine cd (fun hlt => ?_) (fun hge => ?_)
 · have hlt' : k < 32 := by omega
   have hkb := key_byte r k
   have hx1 := Nat.mod_lt (r / 18446744073709551616 ^ (k / 8)) (show 18446744073709551616 > 0 by decide)
   refine ⟨by omega, by simp only [mx]; omega, by decide, ?_⟩
   rw [show (k : Int) / 8 = ((k / 8 : Nat) : Int) by omega]
   refine ⟨by omega, by omega, ?_⟩
   refine ld1 0 rfl (qY .u64 4 _ (k / 8) (by omega)) ?_
   refine ⟨by omega, by simp only [mx]; omega, by decide, ?_⟩
   refine .as ((8 * (k % 8) : Nat) : Int) (by omega) (by simp only [mn]; omega) (by simp only [mx]; omega) ?_
   refine ⟨by omega, ?_⟩
   refine .to (dg 256 r k) (by show ((r / 18446744073709551616 ^ (k / 8) % 18446744073709551616 : Nat) : Int).fdiv (2 ^ (min ((8 * (k % 8) : Nat) : Int).toNat 64)) % 256 = _; rw [shrB _ (8 * (k % 8)) 64 (by omega), dgn, ← hkb]; exact (Int.natCast_emod _ _).symm) ?_
   refine ⟨by omega, by omega, ?_⟩
   refine s1e 1 (row .u8 32 (mix 256 r 0 (k + 1))) rfl (QV _ _ _ _ hlt') (qaL _ _ _ _ _ _ _ rfl) ?_
   refine .as ((k + 1 : Nat) : Int) (by (try push_cast); (try omega)) (by simp only [mn]; omega) (by simp only [mx]; omega) ?_
   exact ⟨k + 1, by omega, by omega, ⟨⟨rfl, rfl, rfl, trivial⟩, .refl _, rfl⟩⟩
 · obtain rfl : k = 32 := by omega
   refine ldN 1 rfl (qR _ _ _) ?_
   refine sN 1 rfl rfl (Zw _ _ _) ?_ (by kernel_rfl)
   refine ldN 1 rfl (qR _ _ _) ?_
   exact rt (by rw [qdW]; rfl)
theorem is_any (a b : Nat) (ha : a < 115792089237316195423570985008687907853269984665640564039457584007913129639936) (hb : b < 115792089237316195423570985008687907853269984665640564039457584007913129639936) (w : World) :
 Calls Tryz.prog 213 ([.agg (e4 a), .agg (e4 b)] : List Value).toArray w fun e w' => e = .returned (.bool (decide (a % PP = b % PP))) ∧ Below w.heap.size w w' := by
 refine qj qc Tryz.func213 rfl Tryz.ntmps213 rfl (St.start w) ?_
 intro b2 b3
 refine dr _ 5 (.t 0 (.t 1 (.t 2 (.t 3 (.n 4 (.n 5 .nil)))))) qc qe (by kernel_rfl) (.refl _) ?_
 refine ldN 0 rfl (qd _) ?_
 refine cz (fun w => qav a ha w) ?_
 refine ldN 1 rfl (qd _) ?_
 refine cz (fun w => qav b hb w) ?_
 refine eqR (by rfl) (by kernel_rfl) (fun w => e4_eq (a % PP) (b % PP) (qdV a) (qdV b) w) ?_
 refine ⟨.refl _, ?_⟩
 exact rt rfl
theorem qbZ (a : Nat) (ha : a < 115792089237316195423570985008687907853269984665640564039457584007913129639936) (w : World) :
 Calls Tryz.prog 175 ([.agg (e4 a)] : List Value).toArray w fun e w' => e = .returned (.bool (a % PP % 2 == 0)) ∧ Below w.heap.size w w' := by
 refine qj qc Tryz.func175 rfl Tryz.ntmps175 rfl (St.start w) ?_
 intro b1
 refine ldN 0 rfl (qd _) ?_
 refine cv (fun w => qav a ha w) ?_
 refine ⟨by decide, by decide, .cell _ rfl (qP .u64 4 _ 0 (by decide)) ?_⟩
 refine rt ?_
 show Value.bool (Qz .and .u64 (dg 18446744073709551616 (a % PP) 0) 1 == 0) = _
 rw [dgn, z6, and_one _ (Nat.mod_lt _ (by decide)), Nat.pow_zero, Nat.div_one, Nat.mod_mod_of_dvd _ (by decide)]
 rcases Nat.mod_two_eq_zero_or_one (a % PP) with e | e <;> rw [e] <;> rfl
end
section
open Go.RowKit Go.Lib Go.Sx
theorem bd93z : Tryz.prog.built 237 [] = some (r17 0) := by kernel_rfl
theorem top_step (N len k : Nat) (hk : k < len) : N / 65536 ^ (len - k) * 65536 + N / 65536 ^ (len - 1 - k) % 65536 = N / 65536 ^ (len - (k + 1)) := by
 rw [show len - k = len - 1 - k + 1 by omega, show len - (k + 1) = len - 1 - k by omega, Nat.pow_succ, ← Nat.div_div_eq_div_mul]
 omega
theorem bit_step (T f j b : Nat) (hj : j < 16) (hb : f / 2 ^ j % 2 = b) : 2 * (T * 2 ^ (16 - (j + 1)) + f / 2 ^ (j + 1)) + b = T * 2 ^ (16 - j) + f / 2 ^ j := by
 rw [show 16 - j = 16 - (j + 1) + 1 by omega, Nat.pow_succ 2 (16 - (j + 1)), Nat.pow_succ 2 j, ← Nat.div_div_eq_div_mul, ← Nat.mul_assoc]
 generalize T * 2 ^ (16 - (j + 1)) = P
 generalize f / 2 ^ j = q at *
 omega
theorem bit_rest (X b : Nat) : (2 * (X % L0) + b) % L0 = (2 * X + b) % L0 := by
 rw [Nat.add_mod, Nat.mul_mod, Nat.mod_mod, ← Nat.mul_mod, ← Nat.add_mod]
theorem bit_and (f j b : Nat) (hf : f < 65536) (hb : f / 2 ^ j % 2 = b) : bits .and .u32 ((f : Int) / 2 ^ j) 1 = (b : Int) := by
 have e : ((f : Int) / 2 ^ j) = ((f / 2 ^ j : Nat) : Int) := by rw [Int.natCast_ediv, Int.natCast_pow]; rfl
 have hl : f / 2 ^ j ≤ f := Nat.div_le_self _ _
 rw [e]
 generalize f / 2 ^ j = q at *
 have h := bits_mask .u32 32 (by decide) wu32 1 (by decide) (q : Int) (by omega) (by omega)
 rw [show ((2 : Int) ^ 1 - 1) = 1 by decide] at h
 rw [h, ← hb]
 omega
def qc2 (v k : Nat) : Nat → Int := fun j => if j < k then dg 256 v j else 0
theorem mixb_0 (v : Nat) : row .u8 32 (qc2 v 0) = k32 0 := Qb _ _ _ _ fun j _ => by
 unfold qc2 dg; rw [if_neg (by omega), Nat.zero_div]; rfl
theorem mixb_32 (v : Nat) : row .u8 32 (qc2 v 32) = k32 v := Qb _ _ _ _ fun j hj => by unfold qc2; rw [if_pos hj]
theorem mixb_upd (v k : Nat) (x : Int) (h : x = dg 256 v k) : upd (qc2 v k) k x = qc2 v (k + 1) := by
 funext j
 unfold upd qc2
 by_cases e : j = k
 · rw [if_pos e, if_pos (by omega), h, e]
 · rw [if_neg e]
   by_cases e2 : j < k
   · rw [if_pos e2, if_pos (by omega)]
   · rw [if_neg e2, if_neg (by omega)]
theorem dig_two (v k : Nat) : v / 65536 ^ (k / 2) % 65536 / 2 ^ (8 * (k % 2)) % 256 = v / 256 ^ k % 256 := by
 rcases Nat.mod_two_eq_zero_or_one k with he | he
 · obtain ⟨j, rfl⟩ : ∃ j, k = 2 * j := ⟨k / 2, by omega⟩
   rw [he, show 2 * j / 2 = j by omega, show (65536 : Nat) ^ j = 256 ^ (2 * j) by rw [Nat.pow_mul], Nat.mul_zero, Nat.pow_zero, Nat.div_one]
   omega
 · obtain ⟨j, rfl⟩ : ∃ j, k = 2 * j + 1 := ⟨k / 2, by omega⟩
   rw [he, show (2 * j + 1) / 2 = j by omega, show (65536 : Nat) ^ j = 256 ^ (2 * j) by rw [Nat.pow_mul], Nat.pow_succ 256, ← Nat.div_div_eq_div_mul, show 2 ^ (8 * 1) = 256 from rfl]
   omega
theorem divide_any (b len cap N : Nat) (hlen : len ≤ 1000) (hN : N < 65536 ^ len) (w : World) (hf : Figs w b len (dg 65536 N)) :
 Calls Tryz.prog 254 ([.slice (some ⟨b, 0, none⟩) len cap] : List Value).toArray w fun e w' => e = .returned (.agg (k32 (N % L0))) ∧ Below w.heap.size w w' := by
 refine qj qc Tryz.func254 rfl Tryz.ntmps254 rfl (St.start w) ?_
 intro b2
 refine bu bd93z ?_
 intro bR b3
 refine s1e 2 #[ptr bR] rfl (by decide) rfl ?_
 refine inl qc Tryz.func217 rfl Tryz.ntmps217 rfl ?_
 intro bS
 refine bk ?_
 refine rf (C := ⟨Tryz.prog, tab, 40, [], w, none⟩) (α := Unit) (β := Empty) qc rfl rfl rfl (bkf_itr bS b len cap (dg 65536 N) (by omega)) 1 (fun k _ => cl bR (r17 (N / 65536 ^ (len - k) % L0)) 237) (fun y => y.elim) (fun y => y.elim) () (by rw [Nat.sub_zero, Nat.div_eq_of_lt hN, Nat.zero_mod]; rfl)
  (fun w' hs => ⟨⟨hs.nth (k := 3) rfl, Nat.lt_of_lt_of_le hf.1 hs.size, fun j hj => (hs.below.cell (p := ⟨b, j, none⟩) hf.1).trans (hf.2 j hj)⟩, ?_⟩) ?_ ?_ ?_ (fun y => y.elim)
 · rintro x (hx | rfl | rfl) hw
   · exact hx.elim
   · exact (QG hs.apart (i := 1) (j := 3) rfl rfl (by decide) _).1 hw (by simp)
   · have e : bR = x := by simpa using hw
     rcases hs.own _ (List.mem_of_getElem? (i := 1) rfl) rfl rfl with h | h
     · have := hf.1; simp only at h; omega
     · simp at h
 · rintro i args j ⟨_, rfl, _⟩; rfl
 · rintro l k args j x w' ready busy ⟨hk, rfl, rfl⟩
   obtain ⟨f, hfd⟩ : ∃ f, N / 65536 ^ (len - 1 - k) % 65536 = f := ⟨_, rfl⟩
   have lf : f < 65536 := by omega
   have htop := top_step N len k hk
   rw [hfd] at htop
   obtain ⟨T, hT⟩ : ∃ T, T = N / 65536 ^ (len - k) := ⟨_, rfl⟩
   rw [← hT] at htop
   rw [dgn, hfd, ← hT]
   refine ⟨rfl, ?_⟩
   refine lp qc (fun j : Nat => j ≤ 16) (fun j => ⟨[(3, ptr b3), (4, .int .u32 (f : Int)), (5, .int .i64 ((j : Int) - 1))], [dead, cl bR (r17 ((T * 2 ^ (16 - j) + f / 2 ^ j) % L0)) 237, ⟨b3, some (.cells #[ptr bR] 235 (0, 0)), true, none⟩, dead, ⟨l, some busy, false, none⟩], []⟩) (fun j => j) 16 (Nat.le_refl _) ⟨⟨rfl, rfl, rfl, trivial⟩, by rw [show T * 2 ^ (16 - 16) + f / 2 ^ 16 = T by rw [Nat.sub_self, Nat.pow_zero, Nat.mul_one, Nat.div_eq_of_lt (show f < 2 ^ 16 by omega), Nat.add_zero]]; exact .dead (.cons (.cons (.dead (.cons .nil)))), rfl⟩ ?_
   intro j hj
   refine cd (fun h => ?_) (fun h => ?_)
   · obtain ⟨i, rfl⟩ : ∃ i, j = i + 1 := ⟨j - 1, by omega⟩
     rw [show ((i + 1 : Nat) : Int) - 1 = (i : Int) by omega]
     obtain ⟨bt, hbt⟩ : ∃ bt, f / 2 ^ i % 2 = bt := ⟨_, rfl⟩
     have hand : Qz .and .u32 ((f : Int).fdiv (2 ^ (min ((i : Nat) : Int).toNat 32))) 1 = (bt : Int) := by
      rw [shrB f i 32 (by omega), z6, ← bit_and f i bt lf hbt, Int.natCast_ediv, Int.natCast_pow]; rfl
     have hstep := bit_step T f i bt (by omega) hbt
     have hbr := bit_rest (T * 2 ^ (16 - (i + 1)) + f / 2 ^ (i + 1)) bt
     rw [hstep] at hbr
     refine dr _ 5 (.t 0 (.t 1 (.t 2 (.t 3 (.t 4 (.n 5 .nil)))))) qc qe (by kernel_rfl) (.refl _) ?_
     refine ld1 2 rfl rfl ?_
     refine ⟨by omega, ?_⟩
     refine cU1 (c := r17 ((T * 2 ^ (16 - i) + f / 2 ^ i) % L0)) 1 rfl (fun w hw => by
      have := bit_any bR ((T * 2 ^ (16 - (i + 1)) + f / 2 ^ (i + 1)) % L0) bt (Nat.mod_lt _ (by decide)) (by omega) w hw
      rw [hbr, ← hand] at this
      exact this) ?_
     refine .as ((i : Int) - 1) rfl (by simp only [mn]; omega) (by simp only [mx]; omega) ?_
     exact ⟨i, by omega, by omega, ⟨⟨rfl, rfl, rfl, trivial⟩, .refl _, rfl⟩⟩
   · obtain rfl : j = 0 := by omega
     refine ⟨(), ?_, fun b hb => .inl (by simpa using hb)⟩
     show Sub [cl bR (r17 (N / 65536 ^ (len - (k + 1)) % L0)) 237, _] _
     rw [← htop, show T * 65536 + f = T * 2 ^ (16 - 0) + f / 2 ^ 0 by rw [Nat.sub_zero, Nat.pow_zero, Nat.div_one]]
     exact .drop (.cons (.drop (.drop (.cons .nil))))
 · intro k y b0 hfin
   obtain rfl : k = len := hfin
   rw [Nat.sub_self, Nat.pow_zero, Nat.div_one]
   obtain ⟨v, hv⟩ : ∃ v, v = N % L0 := ⟨_, rfl⟩
   rw [← hv]
   refine lp qc (fun k : Nat => k ≤ 32) (fun k => ⟨[(2, ptr b2), (3, ptr b3), (22, .int .i64 (k : Int))], [cl b2 (row .u8 32 (qc2 v k)) 36, cl bR (r17 v) 237, cl b3 #[ptr bR] 235, dead, dfe b0], [{ target := .collected b0, args := #[] }]⟩) (fun k => 32 - k) 0 (Nat.zero_le _) ⟨⟨rfl, rfl, rfl, trivial⟩, by rw [mixb_0, ← z24k]; exact .cons (.cons (.cons (.dead (.cons .nil)))), rfl⟩ ?_
   intro k hk
   refine cd (fun h => ?_) (fun h => ?_)
   · have hlt : k < 32 := by omega
     have hx1 := Nat.mod_lt (v / 65536 ^ (k / 2)) (show 65536 > 0 by decide)
     refine ld1 2 rfl rfl ?_
     refine ⟨by omega, by simp only [mx]; omega, by decide, ?_⟩
     rw [show (k : Int) / 2 = ((k / 2 : Nat) : Int) by omega]
     refine ⟨by omega, by omega, ?_⟩
     refine ld1 1 rfl (qY .u32 17 (dg 65536 v) (k / 2) (by omega)) ?_
     refine ⟨by omega, by simp only [mx]; omega, by decide, ?_⟩
     refine .as ((8 * (k % 2) : Nat) : Int) (by omega) (by simp only [mn]; omega) (by simp only [mx]; omega) ?_
     refine ⟨by omega, ?_⟩
     refine .to (dg 256 v k) (by show ((v / 65536 ^ (k / 2) % 65536 : Nat) : Int).fdiv (2 ^ (min ((8 * (k % 2) : Nat) : Int).toNat 32)) % 256 = _; rw [shrB _ (8 * (k % 2)) 32 (by omega), dgn, ← dig_two]; exact (Int.natCast_emod _ _).symm) ?_
     refine ⟨by omega, by omega, ?_⟩
     refine s1e 0 (row .u8 32 (qc2 v (k + 1))) rfl (QV _ _ _ _ hlt) (zz _ _ _ _ _ _ (mixb_upd v k _ rfl).symm) ?_
     refine .as ((k + 1 : Nat) : Int) (by (try push_cast); (try omega)) (by simp only [mn]; omega) (by simp only [mx]; omega) ?_
     exact ⟨k + 1, by omega, by omega, ⟨⟨rfl, rfl, rfl, trivial⟩, .refl _, rfl⟩⟩
   · obtain rfl : k = 32 := by omega
     rw [mixb_32]
     refine ldN 0 rfl (qf _) ?_
     refine sN 0 rfl rfl (Zw _ _ _) ?_ (by kernel_rfl)
     refine .mk 4 rfl ?_
     refine ldN 0 rfl (qf _) ?_
     exact rt rfl
end
section
open Go.RowKit Go.Lib Go.Sx
theorem dgs (n K len : Nat) (h : n < 256 ^ len) (hK : K = (len + 1) / 2) : n < 65536 ^ K := by
 subst hK
 refine Nat.lt_of_lt_of_le h ?_
 rw [show (65536 : Nat) = 256 ^ 2 by decide, ← Nat.pow_mul]
 exact Nat.pow_le_pow_right (by decide) (by omega)
theorem k32_ones2 (n : Nat) : (k32 n).toList.all (·.oneCell') = true := Zw _ _ _
theorem Byts.call {w w' : World} {a : Option Addr} {len n : Nat} (h : Byts w a len n) (hb : Below w.heap.size w w') : Byts w' a len n := by
 rcases h with h | ⟨b, o, h1, h2, h3⟩
 · exact .inl h
 · exact .inr ⟨b, o, h1, Nat.lt_of_lt_of_le h2 hb.size, fun i hi => (hb.cell (p := ⟨b, o + i, none⟩) h2).trans (h3 i hi)⟩
theorem figs_of {w : World} {F K n : Nat} (h : w.heap[F]? = some (.cells (row .u32 K (dg 65536 n)) 127 (0, 0))) : Figs w F K (dg 65536 n) := ⟨(Array.getElem?_eq_some_iff.1 h).1, fun j hj => by rw [cell_of_row w F j _ _ _ h]; exact qP _ _ _ _ hj⟩
theorem residue_any (a : Option Addr) (len cap n : Nat) (hlen : len ≤ 64) (hn : n < 256 ^ len) (w : World) (hb : Byts w a len n) :
 Calls Tryz.prog 220 #[.slice a len cap] w fun e w' => e = .returned (.tuple #[.agg (k32 (n % L0)), .bool true]) ∧ Below w.heap.size w w' := by
 refine qj (vs := [.slice a len cap]) qc Tryz.func220 rfl Tryz.ntmps220 rfl (St.start w) ?_
 intro b2
 refine cf (decide_eq_false (by omega)) ?_
 refine cn (v := fun F => .slice (some ⟨F, 0, none⟩) ((len + 1) / 2) ((len + 1) / 2)) (fun w' hs => qcV a len cap n (by omega) hn w' (hb.call hs.below)) (fun F => ?_)
 refine cvs (fun w' hs => divide_any F ((len + 1) / 2) ((len + 1) / 2) n (by omega) (dgs n _ len hn rfl) w' (figs_of (hs.nth (k := 1) rfl))) ?_
 refine sN 0 rfl (by rw [qf]; rfl) (k32_ones2 _) ?_ (by kernel_rfl)
 refine ldN 0 rfl (qf _) ?_
 exact rt rfl
theorem splice17 (n : Nat) (hn : n < 65536 ^ 16) : (splice (r17 0).toList 0 (Qc .u32 16 (dg 65536 n))).toArray = r17 n := by
 have e : (r17 0).toList = Qc .u32 17 (dg 65536 0) := rfl
 unfold splice
 rw [e]
 apply Array.ext'
 show List.take 0 (Qc .u32 17 (dg 65536 0)) ++ (Qc .u32 16 (dg 65536 n) ++ List.drop (0 + (Qc .u32 16 (dg 65536 n)).length) (Qc .u32 17 (dg 65536 0))) = Qc .u32 17 (dg 65536 n)
 rw [zy]
 have h16 : dg 65536 n 16 = 0 := by unfold dg; rw [Nat.div_eq_of_lt hn]; rfl
 have h0 : dg 65536 0 16 = 0 := by unfold dg; rw [Nat.zero_div]; rfl
 have e2 : ∀ f : Nat → Int, List.drop 16 (Qc .u32 17 f) = [Value.int .u32 (f 16)] := fun _ => rfl
 have e3 : ∀ f : Nat → Int, Qc .u32 17 f = Qc .u32 16 f ++ [Value.int .u32 (f 16)] := fun _ => rfl
 rw [Nat.zero_add, e2, e3 (dg 65536 n), h16, h0]
 rfl
theorem p256_32 : (256 : Nat) ^ 32 = 115792089237316195423570985008687907853269984665640564039457584007913129639936 := by decide +kernel
theorem p256_16 : (65536 : Nat) ^ 16 = 115792089237316195423570985008687907853269984665640564039457584007913129639936 := by decide +kernel
theorem cp17 {C : Cx} {L : List Ent} (k j : Nat) (n : Nat) {R F : Nat} {ts : Array TypeId} {t : TypeId} {cs : Array Bool} {next : Value → List Ent → Prop} (hP : C.P = Tryz.prog) (hts : ts = #[208, 208]) (hn : n < 65536 ^ 16) (hk : L[k]? = some (cl R (r17 0) 237)) (hj : L[j]? = some (cl F (row .u32 16 (dg 65536 n)) 127))
 (go : next (.int .i64 16) (L.set k (cl R (r17 n) 237))) : BiP C .copy ts t cs [.slice (some ⟨R, 0, none⟩) 17 17, .slice (some ⟨F, 0, none⟩) 16 16] L next := by
 refine biW (m := Builtin.copy_ ts t #[.slice (some ⟨R, 0, none⟩) 17 17, .slice (some ⟨F, 0, none⟩) 16 16]) rfl fun w hs => ?_
 have h := run_copy_row (P := Tryz.prog) w 208 208 t 127 R 0 17 17 ⟨F, 0, none⟩ 16 16 (r17 0) 237 (Qc .u32 16 (dg 65536 n)) und32 (by kernel_rfl) (hs.nth hk) (by rw [zy]; rfl)
  (fun i v hv => by
   have hi : i < 16 := by have := (List.getElem?_eq_some_iff.1 hv).1; rwa [zy] at this
   rw [Addr.add_mid, Nat.zero_add, hs.cell hj i, row, List.getElem?_toArray]; exact hv) (by rw [zy, qbF]; decide) (Zv _ _ _)
 refine ⟨_, _, _, by rw [hP, hts]; exact h, ?_, go⟩
 have e : ((r17 0).toList.take 0 ++ Qc .u32 16 (dg 65536 n) ++ (r17 0).toList.drop (0 + (Qc .u32 16 (dg 65536 n)).length)).toArray = r17 n := by
  rw [← splice17 n hn]; unfold splice; rw [List.append_assoc]
 rw [e]
 exact hs.setRow hk _
theorem kleast_any (n : Nat) (hn : n < 115792089237316195423570985008687907853269984665640564039457584007913129639936) (w : World) :
 Calls Tryz.prog 120 #[.agg (k32 n)] w fun e w' => e = .returned (.bool (decide (n < L0))) ∧ Below w.heap.size w w' := by
 have hn16 : n < 65536 ^ 16 := by rw [p256_16]; exact hn
 have hn32 : n < 256 ^ 32 := by rw [p256_32]; exact hn
 have hn17 : n < 65536 ^ 17 := Nat.lt_of_lt_of_le hn16 (Nat.pow_le_pow_right (by decide) (by decide))
 refine qj (vs := [.agg (k32 n)]) qc Tryz.func120 rfl Tryz.ntmps120 rfl (St.start w) ?_
 intro b1
 refine bu bd93z ?_
 intro bR
 refine dr _ 5 (.t 0 (.t 1 (.t 2 (.t 3 (.n 4 (.n 5 .nil)))))) qc qe (by kernel_rfl) (.refl _) ?_
 refine ⟨.mk 0 17 17 rfl rfl rfl (by decide) (by decide) (by decide) (by simp) (.on (by decide) ?_)⟩
 refine ⟨.mk 0 32 32 rfl rfl rfl (by decide) (by decide) (by decide) (by simp) (.on (by decide) ?_)⟩
 refine cn (v := fun F => .slice (some ⟨F, 0, none⟩) 16 16) (fun w' hs => qcV _ 32 32 n (by decide) hn32 w' (.inr ⟨b1, 0, rfl, hs.lt (List.mem_of_getElem? (i := 0) rfl) rfl, fun i hi => by rw [Nat.zero_add, hs.cell (k := 0) rfl i]; exact qP _ _ _ _ hi⟩)) (fun F => ?_)
 refine ⟨qk _, ?_⟩
 refine cp17 1 2 n rfl rfl hn16 rfl rfl ?_
 refine cvs (fun w' hs => qcX bR n hn17 w' (hs.nth (k := 1) rfl)) ?_
 refine rt ?_
 by_cases h : L0 ≤ n
 · rw [decide_eq_true h, decide_eq_false (show ¬ n < L0 by omega)]; rfl
 · rw [decide_eq_false h, decide_eq_true (show n < L0 by omega)]; rfl
end
section
open Go.RowKit Go.Sx
def leN : List UInt8 → Nat
 | [] => 0
 | b :: l => b.toNat + 256 * leN l
theorem qcu (l : List UInt8) : leN l < 256 ^ l.length := by
 induction l with
 | nil => decide
 | cons b l ih =>
  have := b.toNat_lt
  rw [leN, List.length_cons, Nat.pow_succ]; omega
theorem leN_dg (l : List UInt8) : ∀ i, i < l.length → dg 256 (leN l) i = ((l.getD i 0).toNat : Int) := by
 induction l with
 | nil => intro i hi; cases hi
 | cons b l ih =>
  intro i hi
  have hb := b.toNat_lt
  cases i with
  | zero => unfold dg leN; rw [Nat.pow_zero, Nat.div_one]; simp
  | succ i =>
   have := ih i (by simpa using hi)
   unfold dg at this ⊢
   rw [leN, Nat.pow_succ, Nat.mul_comm (256 ^ i), ← Nat.div_div_eq_div_mul, show (b.toNat + 256 * leN l) / 256 = leN l by omega]
   rw [this]; simp
def qQ (n : Nat) : List UInt8 := (List.range 32).map fun i => UInt8.ofNat (n / 256 ^ i % 256)
theorem qt (n : Nat) : (qQ n).length = 32 := by simp [qQ]
theorem qbq (n : Nat) : k32 n = (Lib.byteCells (qQ n)).toArray := by
 unfold k32 row
 congr 1
 unfold Qc Lib.byteCells qQ
 rw [List.map_map]
 apply List.map_congr_left
 intro i hi
 simp [dg]
theorem leN_inj (l m : List UInt8) (hl : l.length = m.length) (h : leN l = leN m) : l = m := by
 refine List.ext_getElem hl fun i h1 h2 => ?_
 have e1 := leN_dg l i h1
 have e2 := leN_dg m i h2
 rw [h, e2] at e1
 simp only [List.getD, List.getElem?_eq_getElem h1, List.getElem?_eq_getElem h2, Option.getD_some] at e1
 exact UInt8.toNat_inj.1 (by omega)
theorem qaf (l : List UInt8) (h : l.length = 32) : (Lib.byteCells l).toArray = k32 (leN l) := by
 rw [qbq]
 congr 2
 refine List.ext_getElem (by rw [h, qt]) fun i h1 h2 => ?_
 have e := leN_dg l i h1
 unfold dg at e
 have e' : leN l / 256 ^ i % 256 = (l.getD i 0).toNat := by omega
 simp only [qQ, List.getElem_map, List.getElem_range, e']
 simp [List.getD, h1]
theorem byts_of {w : World} {v : Value} {l : List UInt8} (h : Rd w v (Lib.byteCells l)) : ∃ a c, v = .slice a l.length c ∧ Byts w a l.length (leN l) := by
 obtain ⟨a, c, hv, h⟩ := h
 rw [Lib.byteCells_length] at hv
 refine ⟨a, c, hv, ?_⟩
 by_cases hl : l = []
 · left; rw [hl]; rfl
 · right
   obtain ⟨b, o, h1, h2, h3⟩ := h (by intro e; apply hl; have := congrArg List.length e; rw [Lib.byteCells_length] at this; exact List.eq_nil_of_length_eq_zero this)
   refine ⟨b, o, h1, h2, fun i hi => ?_⟩
   rw [h3 i _ (qaX l i hi), leN_dg l i hi]
def Parts (w : World) (v : Value) (bs : List UInt8) : Prop := ∃ (pb po kc : Nat) (vs : List Value) (xss : List (List Value)), v = .slice (some ⟨pb, po, none⟩) xss.length kc ∧ xss.flatten = Lib.byteCells bs ∧ vs.length = xss.length ∧ pb < w.heap.size ∧
 (∀ (i : Nat) (u : Value), vs[i]? = some u → w.cell? ⟨pb, po + i, none⟩ = some u) ∧ (∀ (i : Nat) (v : Value) (xs : List Value), vs[i]? = some v → xss[i]? = some xs → Rd w v xs) ∧ xss.length ≤ 1000
theorem Parts.below {w w' : World} {v : Value} {bs : List UInt8} (h : Parts w v bs) (hb : Below w.heap.size w w') : Parts w' v bs := by
 obtain ⟨pb, po, kc, vs, xss, h1, h2, h3, h4, h5, h6, h7⟩ := h
 exact ⟨pb, po, kc, vs, xss, h1, h2, h3, Nat.lt_of_lt_of_le h4 hb.size, fun i u hu => (hb.cell (p := ⟨pb, po + i, none⟩) h4).trans (h5 i u hu), fun i v xs hv hx => (h6 i v xs hv hx).below hb, h7⟩
theorem Parts.made {M : Bks} {B w : World} {L : List Ent} (hs : St M B w L) (k : Nat) {b : Nat} {vs : List Value} {t : TypeId} (xss : List (List Value)) {bs : List UInt8} (n : Nat) (hk : L[k]? = some (cl b vs.toArray t)) (hn : xss.length = n) (hl : vs.length = xss.length) (hx : xss.flatten = Lib.byteCells bs)
 (hr : ∀ (i : Nat) (v : Value) (xs : List Value), vs[i]? = some v → xss[i]? = some xs → Rd w v xs) (h7 : xss.length ≤ 1000) : Parts w (.slice (some ⟨b, 0, none⟩) n n) bs := by
 subst hn
 refine ⟨b, 0, xss.length, vs, xss, rfl, hx, hl, hs.lt (List.mem_of_getElem? hk) rfl, fun i u hu => ?_, hr, h7⟩
 rw [hs.cell hk, Nat.zero_add]; simpa using hu
theorem long_p {w : World} {v : Value} {bs : List UInt8} (h : Parts w v bs) (hn : bs.length ≤ 1000000) : Calls Tryz.prog 219 ([v] : List Value).toArray w fun e w' => e = .returned (qdg (shaB bs)) ∧ Below w.heap.size w w' := by
 obtain ⟨pb, po, kc, vs, xss, rfl, h2, h3, h4, h5, h6, h7⟩ := h
 exact long_any pb po kc vs xss bs h2 h3 w h4 h5 h6 hn h7
theorem concat_p {w : World} {v : Value} {bs : List UInt8} (h : Parts w v bs) (hn : bs.length ≤ 1000000) : Calls Tryz.prog 122 ([v] : List Value).toArray w fun e w' => ∃ r, e = .returned (sv r bs.length) ∧ Rw 1 bs.length r (Lib.byteCells bs) ∧ zq w w' r (Lib.byteCells bs) 5 ∧ Below w.heap.size w w' := by
 obtain ⟨pb, po, kc, vs, xss, rfl, h2, h3, h4, h5, h6, h7⟩ := h
 have := qbu pb po kc vs xss h3 w h4 h5 h6 (fun xs hxs u hu => by
  have : u ∈ xss.flatten := List.mem_flatten.2 ⟨xs, hxs, hu⟩
  rw [h2] at this
  simp only [Lib.byteCells, List.mem_map] at this
  obtain ⟨_, _, rfl⟩ := this; rfl) (by rw [h2, Lib.byteCells_length]; omega) h7
 rwa [h2, Lib.byteCells_length] at this
end
end Go.Proofs.YtbgefoamhdgnaaaGreatDoor
namespace Go.Proofs.YtbgefoamhdgnaaaGreatDoor.Nm
section
def pm (m : Nat) : Nat → Nat → Nat → Nat
 | 0, _, _ => 1 % m
 | f + 1, b, e => if e % 2 = 1 then pm m f (b * b % m) (e / 2) * b % m else pm m f (b * b % m) (e / 2)
theorem Ze (b m e : Nat) : (b % m) ^ e % m = b ^ e % m := (Nat.pow_mod b e m).symm
theorem pm_eq (m f : Nat) : ∀ b e, e < 2 ^ f → pm m f b e = b ^ e % m := by
 induction f with
 | zero => intro b e h; have : e = 0 := by simpa using h
           subst this; simp [pm]
 | succ f ih =>
  intro b e h
  have h2 : e / 2 < 2 ^ f := by rw [Nat.pow_succ] at h; omega
  have e1 : (b * b % m) ^ (e / 2) % m = b ^ (2 * (e / 2)) % m := by
   rw [Ze, Nat.pow_mul, Nat.pow_two]
  unfold pm
  rw [ih _ _ h2, e1]
  split
  · rename_i ho
    have : e = 2 * (e / 2) + 1 := by omega
    conv => rhs; rw [this, Nat.pow_succ]
    rw [Nat.mod_mul_mod]
  · rename_i ho
    have : e = 2 * (e / 2) := by omega
    conv => rhs; rw [this]
def Pr (q : Nat) : Prop := 1 < q ∧ ∀ a b, q ∣ a * b → q ∣ a ∨ q ∣ b
theorem pr_of_divs {q : Nat} (h1 : 1 < q) (h : ∀ d, d ∣ q → d = 1 ∨ d = q) : Pr q := by
 refine ⟨h1, fun a b hab => ?_⟩
 rcases h (Nat.gcd q a) (Nat.gcd_dvd_left q a) with hg | hg
 · exact Or.inr (Nat.Coprime.dvd_of_dvd_mul_left hg hab)
 · exact Or.inl (hg ▸ Nat.gcd_dvd_right q a)
theorem Pr.divs {q : Nat} (h : Pr q) {d : Nat} (hd : d ∣ q) : d = 1 ∨ d = q := by
 obtain ⟨h1, h⟩ := h
 obtain ⟨e, he⟩ := hd
 have h0 : q ∣ d * e := he ▸ Nat.dvd_refl q
 rcases h d e h0 with hh | hh
 · right; exact Nat.dvd_antisymm ⟨e, he⟩ hh
 · left
   have : e = q := Nat.dvd_antisymm ⟨d, by rw [he, Nat.mul_comm]⟩ hh
   subst this
   have : d * e = 1 * e := by omega
   exact Nat.eq_of_mul_eq_mul_right (by omega) this
def noDiv (n : Nat) : Nat → Nat → Bool
 | 0, _ => true
 | f + 1, d => n % d != 0 && noDiv n f (d + 1)
theorem noDiv_spec (n : Nat) : ∀ f d, noDiv n f d = true → ∀ k, d ≤ k → k < d + f → ¬ k ∣ n := by
 intro f
 induction f with
 | zero => intro d _ k h1 h2; omega
 | succ f ih =>
  intro d h k h1 h2
  simp only [noDiv, Bool.and_eq_true, bne_iff_ne] at h
  by_cases hk : k = d
  · subst hk; intro hd; exact h.1 (Nat.mod_eq_zero_of_dvd hd)
  · exact ih (d + 1) h.2 k (by omega) (by omega)
theorem qM {n f : Nat} (h1 : 1 < n) (hf : n < (f + 2) * (f + 2)) (h : noDiv n f 2 = true) : Pr n := by
 have key := noDiv_spec n f 2 h
 refine pr_of_divs h1 fun d hd => ?_
 obtain ⟨e, he⟩ := hd
 have he0 : 0 < e := by
  rcases Nat.eq_zero_or_pos e with h0 | h0
  · subst h0; omega
  · exact h0
 have hd0 : 0 < d := by
  rcases Nat.eq_zero_or_pos d with h0 | h0
  · subst h0; omega
  · exact h0
 by_cases hd1 : d = 1
 · exact Or.inl hd1
 by_cases he1 : e = 1
 · right; subst he1; omega
 exfalso
 by_cases hdl : d < f + 2
 · exact key d (by omega) (by omega) ⟨e, he⟩
 · by_cases hel : e < f + 2
   · exact key e (by omega) (by omega) ⟨d, by rw [he, Nat.mul_comm]⟩
   · have : (f + 2) * (f + 2) ≤ d * e := Nat.mul_le_mul (by omega) (by omega)
     omega
def prod : List Nat → Nat
 | [] => 1
 | q :: l => q * prod l
theorem qet (l : List Nat) (hl : ∀ q ∈ l, Pr q) (k : Nat) (hk : k ∣ prod l) (h1 : k ≠ 1) : ∃ q ∈ l, q ∣ k := by
 induction l generalizing k with
 | nil => exact absurd (Nat.dvd_one.1 hk) h1
 | cons q l ih =>
  rcases (hl q (by simp)).divs (Nat.gcd_dvd_right k q) with hg | hg
  · have : k ∣ prod l := Nat.Coprime.dvd_of_dvd_mul_left hg hk
    obtain ⟨r, hr, hrk⟩ := ih (fun r hr => hl r (by simp [hr])) k this h1
    exact ⟨r, by simp [hr], hrk⟩
  · exact ⟨q, by simp, hg ▸ Nat.gcd_dvd_left k q⟩
theorem least_of (p : Nat → Prop) (n : Nat) (hn : p n) : ∃ m, p m ∧ ∀ k, k < m → ¬ p k := by
 induction n using Nat.strongRecOn with
 | _ n ih =>
  by_cases h : ∃ k, k < n ∧ p k
  · obtain ⟨k, hk, hpk⟩ := h
    exact ih k hk hpk
  · exact ⟨n, hn, fun k hk hp => h ⟨k, hk, hp⟩⟩
theorem pigeon (N : Nat) : ∀ f : Nat → Nat, (∀ i, i < N → f i < N) → (∀ i j, i < N → j < N → f i = f j → i = j) → ∀ y, y < N → ∃ i, i < N ∧ f i = y := by
 induction N with
 | zero => intro f _ _ y hy; omega
 | succ N ih =>
  intro f hr hi y hy
  have hr' : ∀ i, i < N → (if f i = N then f N else f i) < N := by
   intro i hiN
   split
   · rename_i h
     have h1 := hr N (by omega)
     have h2 : f N ≠ N := fun h3 => by have := hi i N (by omega) (by omega) (by omega); omega
     omega
   · have := hr i (by omega); omega
  have hi' : ∀ i j, i < N → j < N → (if f i = N then f N else f i) = (if f j = N then f N else f j) → i = j := by
   intro i j h1 h2 h
   split at h <;> split at h
   · exact hi i j (by omega) (by omega) (by omega)
   · have := hi N j (by omega) (by omega) h; omega
   · have := hi i N (by omega) (by omega) h; omega
   · exact hi i j (by omega) (by omega) h
  have H := ih (fun i => if f i = N then f N else f i) hr' hi'
  by_cases hv : y = f N
  · exact ⟨N, by omega, hv.symm⟩
  by_cases hyN : y = N
  · subst hyN
    have hfN : f y < y := by have := hr y (by omega); omega
    obtain ⟨i, hiN, he⟩ := H (f y) hfN
    split at he
    · exact ⟨i, by omega, by assumption⟩
    · have := hi i y (by omega) (by omega) he; omega
  · obtain ⟨i, hiN, he⟩ := H y (by omega)
    split at he
    · exact absurd he.symm hv
    · exact ⟨i, by omega, he⟩
theorem qdU {n x y : Nat} (h : x % n = 1) (h' : (x * y) % n = 1) : y % n = 1 := by
 have : (x % n * y) % n = 1 := by rw [Nat.mod_mul_mod]; exact h'
 rw [h, Nat.one_mul] at this
 exact this
structure Gen (n g : Nat) : Prop where
 one : 1 < n
 flt : g ^ (n - 1) % n = 1
 all : ∀ a, 0 < a → a < n → ∃ i, i < n - 1 ∧ g ^ i % n = a
theorem lucas {n g : Nat} (l : List Nat) (h1 : 1 < n) (hl : ∀ q ∈ l, Pr q) (hp : prod l = n - 1) (hg : g ^ (n - 1) % n = 1)
 (hq : ∀ q ∈ l, g ^ ((n - 1) / q) % n ≠ 1) : Gen n g := by
 -- the order
 obtain ⟨m, ⟨hm0, hm1⟩, hmin⟩ := least_of (fun m => 0 < m ∧ g ^ m % n = 1) (n - 1) ⟨by omega, hg⟩
 have hpowmul : ∀ k, g ^ (m * k) % n = 1 := by
  intro k
  rw [Nat.pow_mul, Nat.pow_mod, hm1, Nat.one_pow, Nat.mod_eq_of_lt h1]
 have hdiv : ∀ k, g ^ k % n = 1 → m ∣ k := by
  intro k hk
  have e1 : g ^ k = g ^ (m * (k / m)) * g ^ (k % m) := by rw [← Nat.pow_add, Nat.div_add_mod]
  have e2 : g ^ (k % m) % n = 1 := qdU (hpowmul (k / m)) (by rw [← e1]; exact hk)
  have hlt := Nat.mod_lt k hm0
  by_cases hz : k % m = 0
  · exact Nat.dvd_of_mod_eq_zero hz
  · exact absurd ⟨by omega, e2⟩ (hmin _ hlt)
 have hmn : m = n - 1 := by
  obtain ⟨k, hk⟩ := hdiv _ hg
  by_cases hk1 : k = 1
  · subst hk1; omega
  obtain ⟨q, hql, c, hc⟩ := qet l hl k ⟨m, by rw [hp, hk, Nat.mul_comm]⟩ hk1
  exfalso
  have hq1 := (hl q hql).1
  have : (n - 1) / q = m * c := by
   rw [hk, hc, show m * (q * c) = q * (m * c) by ac_rfl]
   exact Nat.mul_div_cancel_left _ (by omega)
  exact hq q hql (by rw [this]; exact hpowmul c)
 subst hmn
 have hinv : ∀ i, i ≤ n - 1 → (g ^ i * g ^ (n - 1 - i)) % n = 1 := by
  intro i hi
  rw [← Nat.pow_add, show i + (n - 1 - i) = n - 1 by omega]; exact hg
 have hnz : ∀ i, i < n - 1 → 0 < g ^ i % n := by
  intro i hi
  rcases Nat.eq_zero_or_pos (g ^ i % n) with h0 | h0
  · have := hinv i (by omega)
    rw [← Nat.mod_mul_mod, h0, Nat.zero_mul, Nat.zero_mod] at this
    omega
  · exact h0
 have hinj : ∀ i j, i < j → j < n - 1 → g ^ i % n = g ^ j % n → False := by
  intro i j hij hj he
  have h2 : (g ^ j * g ^ (n - 1 - i)) % n = 1 := by
   rw [← Nat.mod_mul_mod, ← he, Nat.mod_mul_mod]; exact hinv i (by omega)
  have e1 : g ^ j * g ^ (n - 1 - i) = g ^ (n - 1) * g ^ (j - i) := by
   rw [← Nat.pow_add, ← Nat.pow_add]; congr 1; omega
  rw [e1] at h2
  exact hmin (j - i) (by omega) ⟨by omega, qdU hg h2⟩
 refine ⟨h1, hg, fun a ha0 han => ?_⟩
 obtain ⟨i, hi, he⟩ := pigeon (n - 1) (fun i => g ^ i % n - 1) (fun i hi => by
  have := hnz i hi; have := Nat.mod_lt (g ^ i) (show 0 < n by omega); omega) (fun i j hi hj h => by
  have h1 := hnz i hi
  have h2 := hnz j hj
  have h3 : g ^ i % n = g ^ j % n := by omega
  rcases Nat.lt_trichotomy i j with hh | hh | hh
  · exact (hinj i j hh hj h3).elim
  · exact hh
  · exact (hinj j i hh hi h3.symm).elim) (a - 1) (by omega)
 exact ⟨i, hi, by have := hnz i hi; omega⟩
theorem Gen.pr {n g : Nat} (h : Gen n g) : Pr n := by
 obtain ⟨h1, hg, hall⟩ := h
 refine ⟨h1, fun a b hab => ?_⟩
 by_cases ha : a % n = 0
 · exact Or.inl (Nat.dvd_of_mod_eq_zero ha)
 right
 obtain ⟨i, hi, he⟩ := hall (a % n) (by omega) (Nat.mod_lt _ (by omega))
 have hb : (g ^ (n - 1 - i) * a) % n = 1 := by
  rw [Nat.mul_comm, ← Nat.mod_mul_mod, ← he, Nat.mod_mul_mod, ← Nat.pow_add, show i + (n - 1 - i) = n - 1 by omega]; exact hg
 have h2 : (g ^ (n - 1 - i) * a * b) % n = 0 := by
  rw [Nat.mul_assoc]; exact Nat.mod_eq_zero_of_dvd (Nat.dvd_trans hab ⟨g ^ (n - 1 - i), by ac_rfl⟩)
 rw [← Nat.mod_mul_mod, hb, Nat.one_mul] at h2
 exact Nat.dvd_of_mod_eq_zero h2
theorem Gen.little {n g : Nat} (h : Gen n g) (a : Nat) (ha : a % n ≠ 0) : a ^ (n - 1) % n = 1 := by
 obtain ⟨h1, hg, hall⟩ := h
 obtain ⟨i, _, he⟩ := hall (a % n) (by omega) (Nat.mod_lt _ (by omega))
 rw [← Ze, ← he, Ze, ← Nat.pow_mul, Nat.mul_comm, Nat.pow_mul, ← Ze, hg, Nat.one_pow, Nat.mod_eq_of_lt h1]
theorem zY {n g : Nat} (l : List Nat) (h1 : 1 < n) (hn : n < 2 ^ 256) (hl : ∀ q ∈ l, Pr q) (hp : prod l = n - 1) (hg : pm n 256 g (n - 1) = 1)
 (hq : l.all (fun q => pm n 256 g ((n - 1) / q) != 1) = true) : Gen n g := by
 refine lucas l h1 hl hp (by rw [← pm_eq n 256 g (n - 1) (by omega)]; exact hg) fun q hql => ?_
 have := List.all_eq_true.1 hq q hql
 have hlt : (n - 1) / q < 2 ^ 256 := Nat.lt_of_le_of_lt (Nat.div_le_self _ _) (by omega)
 rw [pm_eq n 256 g _ hlt] at this
 simpa using this
theorem qbb : Pr 2 := qM (f := 0) (by decide) (by decide) (by decide +kernel)
theorem pr_3 : Pr 3 := qM (f := 0) (by decide) (by decide) (by decide +kernel)
theorem pr_65147 : Pr 65147 := qM (f := 254) (by decide) (by decide) (by decide +kernel)
theorem pr_353 : Pr 353 := qM (f := 17) (by decide) (by decide) (by decide +kernel)
theorem pr_57467 : Pr 57467 := qM (f := 238) (by decide) (by decide) (by decide +kernel)
theorem pr_132049 : Pr 132049 := qM (f := 362) (by decide) (by decide) (by decide +kernel)
theorem pr_1923133 : Pr 1923133 := qM (f := 1385) (by decide) (by decide) (by decide +kernel)
theorem pr_31 : Pr 31 := qM (f := 4) (by decide) (by decide) (by decide +kernel)
theorem pr_107 : Pr 107 := qM (f := 9) (by decide) (by decide) (by decide +kernel)
theorem pr_223 : Pr 223 := qM (f := 13) (by decide) (by decide) (by decide +kernel)
theorem pr_4153 : Pr 4153 := qM (f := 63) (by decide) (by decide) (by decide +kernel)
theorem pr_430751 : Pr 430751 := qM (f := 655) (by decide) (by decide) (by decide +kernel)
theorem gen_31757755568855353 : Gen 31757755568855353 10 := by
 refine zY [2, 2, 2, 3, 31, 107, 223, 4153, 430751] (by decide) (by decide) ?_ (by decide +kernel) (by decide +kernel) (by decide +kernel)
 intro q hq
 simp only [List.mem_cons, List.not_mem_nil, or_false] at hq
 rcases hq with rfl | rfl | rfl | rfl | rfl | rfl | rfl | rfl | rfl
 · exact qbb
 · exact qbb
 · exact qbb
 · exact pr_3
 · exact pr_31
 · exact pr_107
 · exact pr_223
 · exact pr_4153
 · exact pr_430751
theorem qaI : Pr 31757755568855353 := gen_31757755568855353.pr
theorem pr_5 : Pr 5 := qM (f := 1) (by decide) (by decide) (by decide +kernel)
theorem pr_75707 : Pr 75707 := qM (f := 274) (by decide) (by decide) (by decide +kernel)
theorem pr_13 : Pr 13 := qM (f := 2) (by decide) (by decide) (by decide +kernel)
theorem pr_2437 : Pr 2437 := qM (f := 48) (by decide) (by decide) (by decide +kernel)
theorem pr_569003 : Pr 569003 := qM (f := 753) (by decide) (by decide) (by decide +kernel)
theorem gen_2773320623 : Gen 2773320623 5 := by
 refine zY [2, 2437, 569003] (by decide) (by decide) ?_ (by decide +kernel) (by decide +kernel) (by decide +kernel)
 intro q hq
 simp only [List.mem_cons, List.not_mem_nil, or_false] at hq
 rcases hq with rfl | rfl | rfl
 · exact qbb
 · exact pr_2437
 · exact pr_569003
theorem qeq : Pr 2773320623 := gen_2773320623.pr
theorem gen_72106336199 : Gen 72106336199 7 := by
 refine zY [2, 13, 2773320623] (by decide) (by decide) ?_ (by decide +kernel) (by decide +kernel) (by decide +kernel)
 intro q hq
 simp only [List.mem_cons, List.not_mem_nil, or_false] at hq
 rcases hq with rfl | rfl | rfl
 · exact qbb
 · exact pr_13
 · exact qeq
theorem qdJ : Pr 72106336199 := gen_72106336199.pr
theorem pr_7 : Pr 7 := qM (f := 1) (by decide) (by decide) (by decide +kernel)
theorem pr_19 : Pr 19 := qM (f := 3) (by decide) (by decide) (by decide +kernel)
theorem pr_47 : Pr 47 := qM (f := 5) (by decide) (by decide) (by decide +kernel)
theorem pr_127 : Pr 127 := qM (f := 10) (by decide) (by decide) (by decide +kernel)
theorem pr_103 : Pr 103 := qM (f := 9) (by decide) (by decide) (by decide +kernel)
theorem pr_991 : Pr 991 := qM (f := 30) (by decide) (by decide) (by decide +kernel)
theorem gen_8574133 : Gen 8574133 2 := by
 refine zY [2, 2, 3, 7, 103, 991] (by decide) (by decide) ?_ (by decide +kernel) (by decide +kernel) (by decide +kernel)
 intro q hq
 simp only [List.mem_cons, List.not_mem_nil, or_false] at hq
 rcases hq with rfl | rfl | rfl | rfl | rfl | rfl
 · exact qbb
 · exact qbb
 · exact pr_3
 · exact pr_7
 · exact pr_103
 · exact pr_991
theorem pr_8574133 : Pr 8574133 := gen_8574133.pr
theorem gen_1919519569386763 : Gen 1919519569386763 2 := by
 refine zY [2, 3, 7, 19, 47, 47, 127, 8574133] (by decide) (by decide) ?_ (by decide +kernel) (by decide +kernel) (by decide +kernel)
 intro q hq
 simp only [List.mem_cons, List.not_mem_nil, or_false] at hq
 rcases hq with rfl | rfl | rfl | rfl | rfl | rfl | rfl | rfl
 · exact qbb
 · exact pr_3
 · exact pr_7
 · exact pr_19
 · exact pr_47
 · exact pr_47
 · exact pr_127
 · exact pr_8574133
theorem qbc : Pr 1919519569386763 := gen_1919519569386763.pr
theorem gen_75445702479781427272750846543864801 : Gen 75445702479781427272750846543864801 7 := by
 refine zY [2, 2, 2, 2, 2, 3, 3, 5, 5, 75707, 72106336199, 1919519569386763] (by decide) (by decide) ?_ (by decide +kernel) (by decide +kernel) (by decide +kernel)
 intro q hq
 simp only [List.mem_cons, List.not_mem_nil, or_false] at hq
 rcases hq with rfl | rfl | rfl | rfl | rfl | rfl | rfl | rfl | rfl | rfl | rfl | rfl
 · exact qbb
 · exact qbb
 · exact qbb
 · exact qbb
 · exact qbb
 · exact pr_3
 · exact pr_3
 · exact pr_5
 · exact pr_5
 · exact pr_75707
 · exact qdJ
 · exact qbc
theorem QZ : Pr 75445702479781427272750846543864801 := gen_75445702479781427272750846543864801.pr
theorem gen_74058212732561358302231226437062788676166966415465897661863160754340907 : Gen 74058212732561358302231226437062788676166966415465897661863160754340907 2 := by
 refine zY [2, 3, 353, 57467, 132049, 1923133, 31757755568855353, 75445702479781427272750846543864801] (by decide) (by decide) ?_ (by decide +kernel) (by decide +kernel) (by decide +kernel)
 intro q hq
 simp only [List.mem_cons, List.not_mem_nil, or_false] at hq
 rcases hq with rfl | rfl | rfl | rfl | rfl | rfl | rfl | rfl
 · exact qbb
 · exact pr_3
 · exact pr_353
 · exact pr_57467
 · exact pr_132049
 · exact pr_1923133
 · exact qaI
 · exact QZ
theorem qN : Pr 74058212732561358302231226437062788676166966415465897661863160754340907 := gen_74058212732561358302231226437062788676166966415465897661863160754340907.pr
theorem gen_P : Gen 57896044618658097711785492504343953926634992332820282019728792003956564819949 2 := by
 refine zY [2, 2, 3, 65147, 74058212732561358302231226437062788676166966415465897661863160754340907] (by decide) (by decide) ?_ (by decide +kernel) (by decide +kernel) (by decide +kernel)
 intro q hq
 simp only [List.mem_cons, List.not_mem_nil, or_false] at hq
 rcases hq with rfl | rfl | rfl | rfl | rfl
 · exact qbb
 · exact qbb
 · exact pr_3
 · exact pr_65147
 · exact qN
theorem pr_P : Pr 57896044618658097711785492504343953926634992332820282019728792003956564819949 := gen_P.pr
end
end Go.Proofs.YtbgefoamhdgnaaaGreatDoor.Nm
namespace Go.Proofs.YtbgefoamhdgnaaaGreatDoor
section
structure Fld (n : Nat) [NeZero n] (d : Fin n) (i : Fin n) (inv : Fin n → Fin n) : Prop where
 dom : ∀ a b : Fin n, a * b = 0 → a = 0 ∨ b = 0
 one : (1 : Fin n) ≠ 0
 two : (1 : Fin n) + 1 ≠ 0
 root : i * i = -1
 non : ∀ s t : Fin n, s * s = d * (t * t) → t = 0
 inv : ∀ a : Fin n, a ≠ 0 → a * inv a = 1
variable {n : Nat} [NeZero n] {d i : Fin n} {inv : Fin n → Fin n}
def On (d x y : Fin n) : Prop := y * y - x * x = 1 + d * x * x * y * y
theorem Fld.eps (F : Fld n d i inv) (x1 y1 x2 y2 e : Fin n) (h1 : On d x1 y1) (h2 : On d x2 y2) (he : e = d * x1 * x2 * y1 * y2) : e * e ≠ 1 := by
 intro hee
 unfold On at h1 h2
 have hr := F.root
 have hp : (i * x1 + e * y1) * (i * x1 + e * y1) = d * ((x1 * y1 * (i * x2 + y2)) * (x1 * y1 * (i * x2 + y2))) := by grind
 have hm : (i * x1 - e * y1) * (i * x1 - e * y1) = d * ((x1 * y1 * (i * x2 - y2)) * (x1 * y1 * (i * x2 - y2))) := by grind
 have tp := F.non _ _ hp
 have tm := F.non _ _ hm
 have hy : (1 + 1) * (x1 * y1 * y2) = 0 := by grind
 have hz : x1 * y1 * y2 = 0 := (F.dom _ _ hy).resolve_left F.two
 have h0 : e = 0 := by grind
 apply F.one
 grind
theorem Fld.plus_ne (F : Fld n d i inv) (x1 y1 x2 y2 : Fin n) (h1 : On d x1 y1) (h2 : On d x2 y2) : 1 + d * x1 * x2 * y1 * y2 ≠ 0 := by
 intro h
 refine F.eps x1 y1 x2 y2 _ h1 h2 rfl ?_
 grind
theorem Fld.minus_ne (F : Fld n d i inv) (x1 y1 x2 y2 : Fin n) (h1 : On d x1 y1) (h2 : On d x2 y2) : 1 - d * x1 * x2 * y1 * y2 ≠ 0 := by
 intro h
 refine F.eps x1 y1 x2 y2 _ h1 h2 rfl ?_
 grind
def sx (inv : Fin n → Fin n) (d x1 y1 x2 y2 : Fin n) : Fin n := (x1 * y2 + x2 * y1) * inv (1 + d * x1 * x2 * y1 * y2)
def sy (inv : Fin n → Fin n) (d x1 y1 x2 y2 : Fin n) : Fin n := (y1 * y2 + x1 * x2) * inv (1 - d * x1 * x2 * y1 * y2)
theorem Fld.cancel (F : Fld n d i inv) (a b c : Fin n) (hc : c ≠ 0) (h : a * c = b * c) : a = b := by
 have h0 : (a - b) * c = 0 := by grind
 have := (F.dom _ _ h0).resolve_right hc
 grind
theorem Fld.sx_eq (F : Fld n d i inv) (x1 y1 x2 y2 : Fin n) (h1 : On d x1 y1) (h2 : On d x2 y2) : sx inv d x1 y1 x2 y2 * (1 + d * x1 * x2 * y1 * y2) = x1 * y2 + x2 * y1 := by
 have := F.inv _ (F.plus_ne x1 y1 x2 y2 h1 h2)
 unfold sx; grind
theorem Fld.sy_eq (F : Fld n d i inv) (x1 y1 x2 y2 : Fin n) (h1 : On d x1 y1) (h2 : On d x2 y2) : sy inv d x1 y1 x2 y2 * (1 - d * x1 * x2 * y1 * y2) = y1 * y2 + x1 * x2 := by
 have := F.inv _ (F.minus_ne x1 y1 x2 y2 h1 h2)
 unfold sy; grind
theorem on_poly (x1 y1 x2 y2 : Fin n) (h1 : On d x1 y1) (h2 : On d x2 y2) :
 (y1 * y2 + x1 * x2) * (y1 * y2 + x1 * x2) * ((1 + d * x1 * x2 * y1 * y2) * (1 + d * x1 * x2 * y1 * y2)) - (x1 * y2 + x2 * y1) * (x1 * y2 + x2 * y1) * ((1 - d * x1 * x2 * y1 * y2) * (1 - d * x1 * x2 * y1 * y2))
  = (1 + d * x1 * x2 * y1 * y2) * (1 + d * x1 * x2 * y1 * y2) * ((1 - d * x1 * x2 * y1 * y2) * (1 - d * x1 * x2 * y1 * y2)) + d * ((x1 * y2 + x2 * y1) * (x1 * y2 + x2 * y1)) * ((y1 * y2 + x1 * x2) * (y1 * y2 + x1 * x2)) := by
 unfold On at h1 h2
 grind
theorem Fld.on_sum (F : Fld n d i inv) (x1 y1 x2 y2 : Fin n) (h1 : On d x1 y1) (h2 : On d x2 y2) : On d (sx inv d x1 y1 x2 y2) (sy inv d x1 y1 x2 y2) := by
 have hp := F.plus_ne x1 y1 x2 y2 h1 h2
 have hm := F.minus_ne x1 y1 x2 y2 h1 h2
 have ex := F.sx_eq x1 y1 x2 y2 h1 h2
 have ey := F.sy_eq x1 y1 x2 y2 h1 h2
 have hq := on_poly x1 y1 x2 y2 h1 h2
 generalize sx inv d x1 y1 x2 y2 = X at *
 generalize sy inv d x1 y1 x2 y2 = Y at *
 generalize 1 + d * x1 * x2 * y1 * y2 = P at *
 generalize 1 - d * x1 * x2 * y1 * y2 = M at *
 rw [← ex, ← ey] at hq
 have hpm : P * P * (M * M) ≠ 0 := by
  intro h
  rcases F.dom _ _ h with h | h <;> rcases F.dom _ _ h with h | h <;> contradiction
 unfold On
 refine F.cancel _ _ (P * P * (M * M)) hpm ?_
 grind
theorem x_poly (x1 y1 x2 y2 x3 y3 : Fin n) (h1 : On d x1 y1) (h2 : On d x2 y2) (h3 : On d x3 y3) :
 ((x1*y2+x2*y1)*(1-d*x1*x2*y1*y2)*y3 + x3*((y1*y2+x1*x2)*(1+d*x1*x2*y1*y2))) * ((1+d*x2*x3*y2*y3)*(1-d*x2*x3*y2*y3) + d*x1*y1*((x2*y3+x3*y2)*(y2*y3+x2*x3)))
 = (x1*((y2*y3+x2*x3)*(1+d*x2*x3*y2*y3)) + (x2*y3+x3*y2)*(1-d*x2*x3*y2*y3)*y1) * ((1+d*x1*x2*y1*y2)*(1-d*x1*x2*y1*y2) + d*x3*y3*((x1*y2+x2*y1)*(y1*y2+x1*x2))) := by
 unfold On at h1 h2 h3
 grind
theorem y_poly (x1 y1 x2 y2 x3 y3 : Fin n) (h1 : On d x1 y1) (h2 : On d x2 y2) (h3 : On d x3 y3) :
 ((y1*y2+x1*x2)*(1+d*x1*x2*y1*y2)*y3 + x3*((x1*y2+x2*y1)*(1-d*x1*x2*y1*y2))) * ((1+d*x2*x3*y2*y3)*(1-d*x2*x3*y2*y3) - d*x1*y1*((x2*y3+x3*y2)*(y2*y3+x2*x3)))
 = (y1*((y2*y3+x2*x3)*(1+d*x2*x3*y2*y3)) + (x2*y3+x3*y2)*(1-d*x2*x3*y2*y3)*x1) * ((1+d*x1*x2*y1*y2)*(1-d*x1*x2*y1*y2) - d*x3*y3*((x1*y2+x2*y1)*(y1*y2+x1*x2))) := by
 unfold On at h1 h2 h3
 grind
theorem frac_xl (x12 y12 x3 y3 P M Nx Ny X : Fin n) (hx : x12 * P = Nx) (hy : y12 * M = Ny) (h : X * (1 + d * x12 * x3 * y12 * y3) = x12 * y3 + x3 * y12) : X * (P * M + d * x3 * y3 * (Nx * Ny)) = Nx * M * y3 + x3 * (Ny * P) := by
 grind
theorem frac_xr (x23 y23 x1 y1 P M Nx Ny X : Fin n) (hx : x23 * P = Nx) (hy : y23 * M = Ny) (h : X * (1 + d * x1 * x23 * y1 * y23) = x1 * y23 + x23 * y1) : X * (P * M + d * x1 * y1 * (Nx * Ny)) = x1 * (Ny * P) + Nx * M * y1 := by
 grind
theorem frac_yl (x12 y12 x3 y3 P M Nx Ny Y : Fin n) (hx : x12 * P = Nx) (hy : y12 * M = Ny) (h : Y * (1 - d * x12 * x3 * y12 * y3) = y12 * y3 + x12 * x3) : Y * (P * M - d * x3 * y3 * (Nx * Ny)) = Ny * P * y3 + x3 * (Nx * M) := by
 grind
theorem frac_yr (x23 y23 x1 y1 P M Nx Ny Y : Fin n) (hx : x23 * P = Nx) (hy : y23 * M = Ny) (h : Y * (1 - d * x1 * x23 * y1 * y23) = y1 * y23 + x1 * x23) : Y * (P * M - d * x1 * y1 * (Nx * Ny)) = y1 * (Ny * P) + Nx * M * x1 := by
 grind
theorem den_pl (x12 y12 x3 y3 P M Nx Ny : Fin n) (hx : x12 * P = Nx) (hy : y12 * M = Ny) : P * M + d * x3 * y3 * (Nx * Ny) = P * M * (1 + d * x12 * x3 * y12 * y3) := by grind
theorem den_ml (x12 y12 x3 y3 P M Nx Ny : Fin n) (hx : x12 * P = Nx) (hy : y12 * M = Ny) : P * M - d * x3 * y3 * (Nx * Ny) = P * M * (1 - d * x12 * x3 * y12 * y3) := by grind
theorem den_pr (x23 y23 x1 y1 P M Nx Ny : Fin n) (hx : x23 * P = Nx) (hy : y23 * M = Ny) : P * M + d * x1 * y1 * (Nx * Ny) = P * M * (1 + d * x1 * x23 * y1 * y23) := by grind
theorem den_mr (x23 y23 x1 y1 P M Nx Ny : Fin n) (hx : x23 * P = Nx) (hy : y23 * M = Ny) : P * M - d * x1 * y1 * (Nx * Ny) = P * M * (1 - d * x1 * x23 * y1 * y23) := by grind
theorem Fld.mul_ne (F : Fld n d i inv) {a b : Fin n} (ha : a ≠ 0) (hb : b ≠ 0) : a * b ≠ 0 := fun h => (F.dom _ _ h).elim ha hb
theorem Fld.cross (F : Fld n d i inv) (X X' DL DR NL NR : Fin n) (hl : X * DL = NL) (hr : X' * DR = NR) (h : NL * DR = NR * DL) (h1 : DL ≠ 0) (h2 : DR ≠ 0) : X = X' := by
 refine F.cancel _ _ (DL * DR) (F.mul_ne h1 h2) ?_
 grind
theorem Fld.assoc_x (F : Fld n d i inv) (x1 y1 x2 y2 x3 y3 : Fin n) (h1 : On d x1 y1) (h2 : On d x2 y2) (h3 : On d x3 y3) :
 sx inv d (sx inv d x1 y1 x2 y2) (sy inv d x1 y1 x2 y2) x3 y3 = sx inv d x1 y1 (sx inv d x2 y2 x3 y3) (sy inv d x2 y2 x3 y3) := by
 have o12 := F.on_sum x1 y1 x2 y2 h1 h2
 have o23 := F.on_sum x2 y2 x3 y3 h2 h3
 have el := F.sx_eq _ _ x3 y3 o12 h3
 have er := F.sx_eq x1 y1 _ _ h1 o23
 have dl := F.plus_ne _ _ x3 y3 o12 h3
 have dr := F.plus_ne x1 y1 _ _ h1 o23
 have ax := F.sx_eq x1 y1 x2 y2 h1 h2
 have ay := F.sy_eq x1 y1 x2 y2 h1 h2
 have bx := F.sx_eq x2 y2 x3 y3 h2 h3
 have by' := F.sy_eq x2 y2 x3 y3 h2 h3
 have p12 := F.plus_ne x1 y1 x2 y2 h1 h2
 have m12 := F.minus_ne x1 y1 x2 y2 h1 h2
 have p23 := F.plus_ne x2 y2 x3 y3 h2 h3
 have m23 := F.minus_ne x2 y2 x3 y3 h2 h3
 have hq := x_poly x1 y1 x2 y2 x3 y3 h1 h2 h3
 refine F.cross _ _ _ _ _ _ (frac_xl _ _ x3 y3 _ _ _ _ _ ax ay el) (frac_xr _ _ x1 y1 _ _ _ _ _ bx by' er) hq ?_ ?_
 · rw [den_pl _ _ x3 y3 _ _ _ _ ax ay]; exact F.mul_ne (F.mul_ne p12 m12) dl
 · rw [den_pr _ _ x1 y1 _ _ _ _ bx by']; exact F.mul_ne (F.mul_ne p23 m23) dr
theorem Fld.assoc_y (F : Fld n d i inv) (x1 y1 x2 y2 x3 y3 : Fin n) (h1 : On d x1 y1) (h2 : On d x2 y2) (h3 : On d x3 y3) :
 sy inv d (sx inv d x1 y1 x2 y2) (sy inv d x1 y1 x2 y2) x3 y3 = sy inv d x1 y1 (sx inv d x2 y2 x3 y3) (sy inv d x2 y2 x3 y3) := by
 have o12 := F.on_sum x1 y1 x2 y2 h1 h2
 have o23 := F.on_sum x2 y2 x3 y3 h2 h3
 have el := F.sy_eq _ _ x3 y3 o12 h3
 have er := F.sy_eq x1 y1 _ _ h1 o23
 have dl := F.minus_ne _ _ x3 y3 o12 h3
 have dr := F.minus_ne x1 y1 _ _ h1 o23
 have ax := F.sx_eq x1 y1 x2 y2 h1 h2
 have ay := F.sy_eq x1 y1 x2 y2 h1 h2
 have bx := F.sx_eq x2 y2 x3 y3 h2 h3
 have by' := F.sy_eq x2 y2 x3 y3 h2 h3
 have p12 := F.plus_ne x1 y1 x2 y2 h1 h2
 have m12 := F.minus_ne x1 y1 x2 y2 h1 h2
 have p23 := F.plus_ne x2 y2 x3 y3 h2 h3
 have m23 := F.minus_ne x2 y2 x3 y3 h2 h3
 have hq := y_poly x1 y1 x2 y2 x3 y3 h1 h2 h3
 refine F.cross _ _ _ _ _ _ (frac_yl _ _ x3 y3 _ _ _ _ _ ax ay el) (frac_yr _ _ x1 y1 _ _ _ _ _ bx by' er) hq ?_ ?_
 · rw [den_ml _ _ x3 y3 _ _ _ _ ax ay]; exact F.mul_ne (F.mul_ne p12 m12) dl
 · rw [den_mr _ _ x1 y1 _ _ _ _ bx by']; exact F.mul_ne (F.mul_ne p23 m23) dr
def QL (inv : Fin n → Fin n) (d : Fin n) (p q : Fin n × Fin n) : Fin n × Fin n := (sx inv d p.1 p.2 q.1 q.2, sy inv d p.1 p.2 q.1 q.2)
def OnP (d : Fin n) (p : Fin n × Fin n) : Prop := On d p.1 p.2
theorem qbK : OnP d ((0, 1) : Fin n × Fin n) := by unfold OnP On; grind
theorem Fld.on_add (F : Fld n d i inv) (p q : Fin n × Fin n) (hp : OnP d p) (hq : OnP d q) : OnP d (QL inv d p q) := F.on_sum _ _ _ _ hp hq
theorem Fld.add_assoc (F : Fld n d i inv) (p q r : Fin n × Fin n) (hp : OnP d p) (hq : OnP d q) (hr : OnP d r) : QL inv d (QL inv d p q) r = QL inv d p (QL inv d q r) := by
 unfold QL
 exact Prod.ext (F.assoc_x _ _ _ _ _ _ hp hq hr) (F.assoc_y _ _ _ _ _ _ hp hq hr)
theorem qfb (p q : Fin n × Fin n) : QL inv d p q = QL inv d q p := by
 unfold QL sx sy
 have e1 : d * p.1 * q.1 * p.2 * q.2 = d * q.1 * p.1 * q.2 * p.2 := by grind
 have e2 : p.1 * q.2 + q.1 * p.2 = q.1 * p.2 + p.1 * q.2 := by grind
 have e3 : p.2 * q.2 + p.1 * q.1 = q.2 * p.2 + q.1 * p.1 := by grind
 rw [e1, e2, e3]
theorem Fld.add_zero (F : Fld n d i inv) (p : Fin n × Fin n) (hp : OnP d p) : QL inv d p (0, 1) = p := by
 have hx := F.sx_eq p.1 p.2 0 1 hp qbK
 have hy := F.sy_eq p.1 p.2 0 1 hp qbK
 unfold QL
 refine Prod.ext ?_ ?_
 · show sx inv d p.1 p.2 0 1 = p.1; grind
 · show sy inv d p.1 p.2 0 1 = p.2; grind
theorem on_neg (p : Fin n × Fin n) (hp : OnP d p) : OnP d (-p.1, p.2) := by
 unfold OnP On at *
 show p.2 * p.2 - -p.1 * -p.1 = 1 + d * -p.1 * -p.1 * p.2 * p.2
 grind
theorem Fld.add_neg (F : Fld n d i inv) (p : Fin n × Fin n) (hp : OnP d p) : QL inv d p (-p.1, p.2) = (0, 1) := by
 have hn := on_neg p hp
 have hx := F.sx_eq p.1 p.2 (-p.1) p.2 hp hn
 have hy := F.sy_eq p.1 p.2 (-p.1) p.2 hp hn
 have h1 := F.plus_ne p.1 p.2 (-p.1) p.2 hp hn
 have h2 := F.minus_ne p.1 p.2 (-p.1) p.2 hp hn
 have ho : p.2 * p.2 - p.1 * p.1 = 1 + d * p.1 * p.1 * p.2 * p.2 := hp
 unfold QL
 refine Prod.ext ?_ ?_
 · show sx inv d p.1 p.2 (-p.1) p.2 = 0
   exact F.cancel _ _ _ h1 (by grind)
 · show sy inv d p.1 p.2 (-p.1) p.2 = 1
   exact F.cancel _ _ _ h2 (by grind)
def qS (inv : Fin n → Fin n) (d : Fin n) (p : Fin n × Fin n) : Nat → Fin n × Fin n
 | 0 => (0, 1)
 | k + 1 => QL inv d (qS inv d p k) p
theorem Fld.on_mul (F : Fld n d i inv) (p : Fin n × Fin n) (hp : OnP d p) (k : Nat) : OnP d (qS inv d p k) := by
 induction k with
 | zero => exact qbK
 | succ k ih => exact F.on_add _ _ ih hp
theorem Fld.zero_add (F : Fld n d i inv) (p : Fin n × Fin n) (hp : OnP d p) : QL inv d (0, 1) p = p := by rw [qfb, F.add_zero p hp]
theorem Fld.mul_add (F : Fld n d i inv) (p : Fin n × Fin n) (hp : OnP d p) (a b : Nat) : qS inv d p (a + b) = QL inv d (qS inv d p a) (qS inv d p b) := by
 induction b with
 | zero => rw [Nat.add_zero]; exact (F.add_zero _ (F.on_mul p hp a)).symm
 | succ b ih =>
  show QL inv d (qS inv d p (a + b)) p = QL inv d (qS inv d p a) (QL inv d (qS inv d p b) p)
  rw [ih, F.add_assoc _ _ _ (F.on_mul p hp a) (F.on_mul p hp b) hp]
theorem Fld.mul_mul (F : Fld n d i inv) (p : Fin n × Fin n) (hp : OnP d p) (a b : Nat) : qS inv d (qS inv d p a) b = qS inv d p (a * b) := by
 induction b with
 | zero => rfl
 | succ b ih =>
  show QL inv d (qS inv d (qS inv d p a) b) (qS inv d p a) = qS inv d p (a * (b + 1))
  rw [ih, ← F.mul_add p hp, Nat.mul_succ]
end
section
open Go.RowKit Go.Lib Go.Sx
def Ex (g : FuncId) (vs : List Value) (r : Nat) : Prop := ∃ m : Nat, (m < 115792089237316195423570985008687907853269984665640564039457584007913129639936 ∧ m % PP = r) ∧ ∀ w, Calls Tryz.prog g vs.toArray w fun e w' => e = .returned (.agg (e4 m)) ∧ Below w.heap.size w w'
theorem Ex.el {g : FuncId} {vs : List Value} {r : Nat} (h : Ex g vs r) (w : World) : Calls Tryz.prog g vs.toArray w (ElP r w) :=
 let ⟨m, h1, k⟩ := h; (k w).mono fun _ _ ⟨h2, h3⟩ => ⟨m, h1.1, h1.2, h2, h3⟩
theorem Ex.to {g : FuncId} {vs : List Value} {r r' : Nat} (h : Ex g vs r) (e : r = r') : Ex g vs r' := e ▸ h
theorem Qs (a b : Nat) (ha : a < 115792089237316195423570985008687907853269984665640564039457584007913129639936) (hb : b < 115792089237316195423570985008687907853269984665640564039457584007913129639936) : Ex 210 [.agg (e4 a), .agg (e4 b)] (a * b % PP) :=
 ⟨_, ⟨qd6 _ (times_lt a b ha hb), by rw [qda, qdb]⟩, times_ex a b ha hb⟩
theorem plus_e (a b : Nat) (ha : a < 115792089237316195423570985008687907853269984665640564039457584007913129639936) (hb : b < 115792089237316195423570985008687907853269984665640564039457584007913129639936) : Ex 211 [.agg (e4 a), .agg (e4 b)] ((a + b) % PP) := ⟨_, ⟨qd6 _ (by omega), qda _⟩, plus_ex a b ha hb⟩
theorem qbP (a b : Nat) (ha : a < 115792089237316195423570985008687907853269984665640564039457584007913129639936) (hb : b < 115792089237316195423570985008687907853269984665640564039457584007913129639936) : Ex 174 [.agg (e4 a), .agg (e4 b)] ((a % PP + (PP - b % PP)) % PP) := ⟨_, ⟨mnN_lt _ _, mnN_mod _ _ ha hb⟩, minus_ex a b ha hb⟩
theorem qaw (n : Nat) (hn : n < 9223372036854775808) (w : World) :
 Calls Tryz.prog 166 ([.int .i64 (n : Int)] : List Value).toArray w fun e w' => e = .returned (.agg (e4 n)) ∧ Below w.heap.size w w' := by
 refine qj qc Tryz.func166 rfl Tryz.ntmps166 rfl (St.start w) ?_
 intro b2
 refine ct (decide_eq_true (Int.natCast_nonneg n)) ?_
 refine .same (by simp only [mn]; omega) (by simp only [mx]; omega) ?_
 refine bu (bdE n (by omega)) ?_
 refine sN 0 rfl (by rw [qd]; rfl) (ql _) ?_ (by kernel_rfl)
 refine ldN 0 rfl (qd _) ?_
 exact rt rfl
theorem bdE0 : Tryz.prog.built 180 [] = some (e4 0) := by kernel_rfl
theorem fneg_e (n : Int) (hn : n < 0) (hn2 : -9223372036854775808 ≤ n) : Ex 166 [.int .i64 n] (n % (PP : Int)).toNat := by
 obtain ⟨m, hm⟩ : ∃ m : Nat, -(n + 1) = (m : Int) := ⟨(-(n + 1)).toNat, by omega⟩
 obtain ⟨m1, h1, k1⟩ := qbP 0 m (by decide) (by omega)
 obtain ⟨m2, h2, k2⟩ := qbP m1 1 h1.1 (by decide)
 have hres := int_num n m (by omega)
 refine ⟨m2, ⟨h2.1, ?_⟩, fun w => ?_⟩
 · rw [h2.2, h1.2, Nat.zero_mod]; exact hres
 refine qj qc Tryz.func166 rfl Tryz.ntmps166 rfl (St.start w) ?_
 intro b2
 refine cf (decide_eq_false (by omega)) ?_
 refine bu bdE0 ?_
 refine .same (by simp only [mn]; omega) (by simp only [mx]; omega) ?_
 refine .as (m : Int) (by omega) (by simp only [mn]; omega) (by simp only [mx]; omega) ?_
 refine .same (by simp only [mn]; omega) (by simp only [mx]; omega) ?_
 refine bu (bdE m (by omega)) ?_
 refine cv k1 ?_
 refine bu (bdE 1 (by decide)) ?_
 refine cv k2 ?_
 refine sN 0 rfl (by rw [qd]; rfl) (ql _) ?_ (by kernel_rfl)
 refine ldN 0 rfl (qd _) ?_
 exact rt rfl
theorem sq_next (A a k : Nat) (h : A % PP = pwm a (2 ^ k)) : A * A % PP = pwm a (2 ^ (k + 1)) := by
 unfold pwm at *
 rw [Nat.mul_mod, h, ← Nat.mul_mod, ← Nat.pow_add, Nat.pow_succ, Nat.mul_two]
def sqi (a : Nat) : Nat → Nat
 | 0 => a
 | n + 1 => qd7 (f38 (sqi a n * sqi a n))
theorem qch (a : Nat) (ha : a < 115792089237316195423570985008687907853269984665640564039457584007913129639936) : ∀ n, sqi a n < 115792089237316195423570985008687907853269984665640564039457584007913129639936 ∧ sqi a n % PP = pwm a (2 ^ n)
 | 0 => ⟨ha, by unfold pwm sqi; rw [Nat.pow_zero, Nat.pow_one]⟩
 | n + 1 => ⟨qd6 _ (times_lt _ _ (qch a ha n).1 (qch a ha n).1), by unfold sqi; rw [qda, qdb]; exact sq_next _ a n (qch a ha n).2⟩
theorem zM (a n : Nat) (ha : a < 115792089237316195423570985008687907853269984665640564039457584007913129639936) (hn : n ≤ 1000) : Ex 221 [.agg (e4 a), .int .i64 (n : Int)] (pwm a (2 ^ n)) := by
 refine ⟨sqi a n, qch a ha n, fun w => ?_⟩
 refine qj qc Tryz.func221 rfl Tryz.ntmps221 rfl (St.start w) ?_
 intro b2 b4
 refine lp qc (fun k : Nat => k ≤ n) (fun k => ⟨[(2, ptr b2), (4, ptr b4), (5, .int .i64 (n : Int)), (6, .int .i64 (k : Int))], [cl b2 (e4 (sqi a k)) 180, cl b4 (#[.int .u64 0, .int .u64 0, .int .u64 0, .int .u64 0] : Array Value) 180], []⟩) (fun k => n - k) 0 (Nat.zero_le _) ⟨⟨rfl, rfl, rfl, rfl, trivial⟩, .refl _, rfl⟩ ?_
 intro k hk
 refine cd (fun hlt => ?_) (fun hge => ?_)
 · refine ldN 0 rfl (qd _) ?_
   refine ldN 0 rfl (qd _) ?_
   refine cv (times_ex _ _ (qch a ha k).1 (qch a ha k).1) ?_
   refine sN 0 rfl (by rw [qd]; rfl) (ql _) ?_ (by kernel_rfl)
   refine .as ((k + 1 : Nat) : Int) (by (try push_cast); (try omega)) (by simp only [mn]; omega) (by simp only [mx]; omega) ?_
   exact ⟨k + 1, by omega, by omega, ⟨⟨rfl, rfl, rfl, rfl, trivial⟩, .refl _, rfl⟩⟩
 · obtain rfl : k = n := by omega
   refine ldN 0 rfl (qd _) ?_
   refine sN 1 rfl (by rw [qd]; rfl) (ql _) ?_ (by kernel_rfl)
   refine ldN 1 rfl (qd _) ?_
   exact rt rfl
theorem pwm_mul (a e A B : Nat) (hA : A % PP = pwm a e) (hB : B % PP = a % PP) : A * B % PP = pwm a (e + 1) := by
 unfold pwm at *
 rw [Nat.mul_mod, hA, hB, ← Nat.mul_mod, Nat.pow_succ]
theorem qbs (a n : Nat) (ha : a < 115792089237316195423570985008687907853269984665640564039457584007913129639936) (hn : n ≤ 1000) : Ex 255 [.agg (e4 a), .int .i64 (n : Int)] (pwm a (2 ^ n + 1)) := by
 obtain ⟨m1, h1, k1⟩ := zM a n ha hn
 obtain ⟨m2, h2, k2⟩ := Qs m1 a h1.1 ha
 refine ⟨m2, ⟨h2.1, h2.2.trans (pwm_mul a _ m1 a h1.2 rfl)⟩, fun w => ?_⟩
 refine qj qc Tryz.func255 rfl Tryz.ntmps255 rfl (St.start w) ?_
 intro b2 b4
 refine dr _ 5 (.t 0 (.t 1 (.t 2 (.t 3 (.t 4 (.n 5 .nil)))))) qc qe (by kernel_rfl) (.refl _) ?_
 refine ldN 0 rfl (qd _) ?_
 refine cz k1 ?_
 refine ldN 0 rfl (qd _) ?_
 refine cz k2 ?_
 refine sN 1 rfl (by rw [qd]; rfl) (ql _) ?_ (by kernel_rfl)
 refine ldN 1 rfl (qd _) ?_
 exact rt rfl
end
section
theorem qbG (a e f : Nat) : pwm a (e + f) = pwm a e * pwm a f % PP := by
 unfold pwm; rw [Nat.pow_add, Nat.mul_mod]
theorem pwm_succ (a e : Nat) : pwm a (e + 1) = pwm a e * a % PP := by
 unfold pwm; rw [Nat.pow_succ, Nat.mod_mul_mod]
theorem pwm_pwm (a e f : Nat) : pwm (pwm a e) f = pwm a (e * f) := by
 unfold pwm; rw [← Nat.pow_mod, Nat.pow_mul]
theorem qao (a e : Nat) : pwm (a % PP) e = pwm a e := by
 unfold pwm; rw [← Nat.pow_mod]
theorem pwm_mulbase (a b e : Nat) : pwm (a * b) e = pwm a e * pwm b e % PP := by
 unfold pwm; rw [Nat.mul_pow, Nat.mul_mod]
theorem pwm_one (a : Nat) : pwm a 1 = a % PP := by unfold pwm; rw [Nat.pow_one]
theorem gen_PP : Nm.Gen PP 2 := Nm.gen_P
theorem pr_PP : Nm.Pr PP := Nm.pr_P
theorem little (a : Nat) (ha : a % PP ≠ 0) : pwm a (PP - 1) = 1 := gen_PP.little a ha
theorem over_undoes (u v : Nat) (hv : v % PP ≠ 0) : u * pwm v (PP - 2) % PP * v % PP = u % PP := by
 have h : pwm v (PP - 2) * v % PP = 1 := by
  rw [← pwm_succ]
  have e : PP - 2 + 1 = PP - 1 := by have := QR; omega
  rw [e]; exact little v hv
 rw [Nat.mod_mul_mod, Nat.mul_assoc, ← Nat.mul_mod_mod, h, Nat.mul_one]
theorem qbL (a b : Nat) (h : a * b % PP = 0) : a % PP = 0 ∨ b % PP = 0 := by
 rcases pr_PP.2 a b (Nat.dvd_of_mod_eq_zero h) with h | h
 · exact .inl (Nat.mod_eq_zero_of_dvd h)
 · exact .inr (Nat.mod_eq_zero_of_dvd h)
theorem sq_eq (x y : Nat) (hx : x < PP) (hy : y < PP) (h : x * x % PP = y * y % PP) : x = y ∨ (x + y) % PP = 0 := by
 by_cases hxy : x ≤ y
 · obtain ⟨d, rfl⟩ : ∃ d, y = x + d := ⟨y - x, by omega⟩
   have e : (x + d) * (x + d) = x * x + d * (x + (x + d)) := by grind
   rw [e] at h
   have h2 : d * (x + (x + d)) % PP = 0 := by
    have h1 := Nat.div_add_mod (x * x) PP
    have h3 := Nat.div_add_mod (x * x + d * (x + (x + d))) PP
    rw [← h] at h3
    have : PP * ((x * x + d * (x + (x + d))) / PP) = PP * (x * x / PP) + d * (x + (x + d)) := by omega
    have hd : PP ∣ d * (x + (x + d)) := by
     refine (Nat.dvd_add_right (Nat.dvd_mul_right PP (x * x / PP))).1 ?_
     rw [← this]; exact Nat.dvd_mul_right _ _
    exact Nat.mod_eq_zero_of_dvd hd
   rcases qbL _ _ h2 with h4 | h4
   · rw [Nat.mod_eq_of_lt (by omega)] at h4; left; omega
   · exact .inr h4
 · obtain ⟨d, rfl⟩ : ∃ d, x = y + d := ⟨x - y, by omega⟩
   have e : (y + d) * (y + d) = y * y + d * (y + (y + d)) := by grind
   rw [e] at h
   have h2 : d * (y + (y + d)) % PP = 0 := by
    have h1 := Nat.div_add_mod (y * y) PP
    have h3 := Nat.div_add_mod (y * y + d * (y + (y + d))) PP
    rw [h] at h3
    have : PP * ((y * y + d * (y + (y + d))) / PP) = PP * (y * y / PP) + d * (y + (y + d)) := by omega
    have hd : PP ∣ d * (y + (y + d)) := by
     refine (Nat.dvd_add_right (Nat.dvd_mul_right PP (y * y / PP))).1 ?_
     rw [← this]; exact Nat.dvd_mul_right _ _
    exact Nat.mod_eq_zero_of_dvd hd
   rcases qbL _ _ h2 with h4 | h4
   · rw [Nat.mod_eq_of_lt (by omega)] at h4; left; omega
   · right; rw [Nat.add_comm]; exact h4
theorem mo_add_l (x x' y : Nat) (h : x % PP = x' % PP) : (x + y) % PP = (x' + y) % PP := by rw [Nat.add_mod, h, ← Nat.add_mod]
theorem mo_mul_l (x x' y : Nat) (h : x % PP = x' % PP) : (x * y) % PP = (x' * y) % PP := by rw [Nat.mul_mod, h, ← Nat.mul_mod]
end
end Go.Proofs.YtbgefoamhdgnaaaGreatDoor
section
namespace Go
variable {P : Program} {md : Region.Mode} {ops : Array Oper} {Q : Exit → Act → World → Prop} {f : Nat} {S : World → Prop}
abbrev tt : Bool := true
abbrev ff : Bool := false
variable {n : Nat} {listed : Array Bool} {a : Act} {w : World}
end Go
namespace Go.Proofs.YtbgefoamhdgnaaaGreatDoor
def z36 : Array Value := (#[.int .u64 0, .int .u64 0, .int .u64 0, .int .u64 0] : Array Value)
def z24 : Array Value := (#[.int .u8 0, .int .u8 0, .int .u8 0, .int .u8 0, .int .u8 0, .int .u8 0, .int .u8 0, .int .u8 0, .int .u8 0, .int .u8 0, .int .u8 0, .int .u8 0, .int .u8 0, .int .u8 0, .int .u8 0, .int .u8 0, .int .u8 0, .int .u8 0, .int .u8 0, .int .u8 0, .int .u8 0, .int .u8 0, .int .u8 0, .int .u8 0, .int .u8 0, .int .u8 0, .int .u8 0, .int .u8 0, .int .u8 0, .int .u8 0, .int .u8 0, .int .u8 0] : Array Value)
end Go.Proofs.YtbgefoamhdgnaaaGreatDoor
end
namespace Go.Proofs.YtbgefoamhdgnaaaGreatDoor
section
open Go.RowKit Go.Lib
theorem Z0 (a x k e m f : Nat) (hx : x % PP = pwm a k) (hm : m % PP = pwm x e) (hf : k * e = f) : m % PP = pwm a f := by
 rw [hm, ← qao, hx, pwm_pwm, hf]
theorem qbe (a x y k e m f : Nat) (hx : x % PP = pwm a k) (hy : y % PP = pwm a e) (hm : m % PP = x * y % PP) (hf : k + e = f) : m % PP = pwm a f := by
 rw [hm, Nat.mul_mod, hx, hy, ← qbG, hf]
theorem qbH (a : Nat) : a % PP = pwm a 1 := (pwm_one a).symm
theorem p_five (a m1 m2 m3 m4 : Nat) (h1 : m1 % PP = pwm a 3) (h2 : m2 % PP = pwm m1 5) (h3 : m3 % PP = pwm m2 2) (h4 : m4 % PP = m3 * a % PP) : m4 % PP = pwm a 31 :=
 qbe a m3 a 30 1 m4 31 (Z0 a m2 15 2 m3 30 (Z0 a m1 3 5 m2 15 h1 h2 rfl) h3 rfl) (qbH a) h4 rfl
theorem p_fifty (a m6 m7 m8 m5 m9 : Nat) (h6 : m6 % PP = pwm a 1048575) (h5 : m5 % PP = pwm a 1023) (h7 : m7 % PP = pwm m6 1048577) (h8 : m8 % PP = pwm m7 1024) (h9 : m9 % PP = m8 * m5 % PP) : m9 % PP = pwm a 1125899906842623 :=
 qbe a m8 m5 1125899906841600 1023 m9 _ (Z0 a m7 1099511627775 1024 m8 _ (Z0 a m6 1048575 1048577 m7 _ h6 h7 (by decide +kernel)) h8 (by decide +kernel)) h5 h9 (by decide +kernel)
theorem p_all (a m10 m11 m12 m9 m13 : Nat) (h10 : m10 % PP = pwm a 1267650600228229401496703205375) (h9 : m9 % PP = pwm a 1125899906842623) (h11 : m11 % PP = pwm m10 1267650600228229401496703205377) (h12 : m12 % PP = pwm m11 1125899906842624) (h13 : m13 % PP = m12 * m9 % PP) : m13 % PP = pwm a 1809251394333065553493296640760748560207343510400633813116524750123642650623 :=
 qbe a m12 m9 1809251394333065553493296640760748560207343510400633813116523624223735808000 1125899906842623 m13 _ (Z0 a m11 1606938044258990275541962092341162602522202993782792835301375 1125899906842624 m12 _ (Z0 a m10 1267650600228229401496703205375 1267650600228229401496703205377 m11 _ h10 h11 (by decide +kernel)) h12 (by decide +kernel)) h9 h13 (by decide +kernel)
theorem grow_1 (x : Nat) (hx : x < 115792089237316195423570985008687907853269984665640564039457584007913129639936) : Ex 255 [.agg (e4 x), .int .i64 1] (pwm x 3) := (qbs x 1 hx (by decide)).to (by rw [show 2 ^ 1 + 1 = 3 by decide +kernel])
theorem grow_2 (x : Nat) (hx : x < 115792089237316195423570985008687907853269984665640564039457584007913129639936) : Ex 255 [.agg (e4 x), .int .i64 2] (pwm x 5) := (qbs x 2 hx (by decide)).to (by rw [show 2 ^ 2 + 1 = 5 by decide +kernel])
theorem grow_5 (x : Nat) (hx : x < 115792089237316195423570985008687907853269984665640564039457584007913129639936) : Ex 255 [.agg (e4 x), .int .i64 5] (pwm x 33) := (qbs x 5 hx (by decide)).to (by rw [show 2 ^ 5 + 1 = 33 by decide +kernel])
theorem grow_10 (x : Nat) (hx : x < 115792089237316195423570985008687907853269984665640564039457584007913129639936) : Ex 255 [.agg (e4 x), .int .i64 10] (pwm x 1025) := (qbs x 10 hx (by decide)).to (by rw [show 2 ^ 10 + 1 = 1025 by decide +kernel])
theorem grow_20 (x : Nat) (hx : x < 115792089237316195423570985008687907853269984665640564039457584007913129639936) : Ex 255 [.agg (e4 x), .int .i64 20] (pwm x 1048577) := (qbs x 20 hx (by decide)).to (by rw [show 2 ^ 20 + 1 = 1048577 by decide +kernel])
theorem grow_50 (x : Nat) (hx : x < 115792089237316195423570985008687907853269984665640564039457584007913129639936) : Ex 255 [.agg (e4 x), .int .i64 50] (pwm x 1125899906842625) := (qbs x 50 hx (by decide)).to (by rw [show 2 ^ 50 + 1 = 1125899906842625 by decide +kernel])
theorem grow_100 (x : Nat) (hx : x < 115792089237316195423570985008687907853269984665640564039457584007913129639936) : Ex 255 [.agg (e4 x), .int .i64 100] (pwm x 1267650600228229401496703205377) := (qbs x 100 hx (by decide)).to (by rw [show 2 ^ 100 + 1 = 1267650600228229401496703205377 by decide +kernel])
theorem qcg (x : Nat) (hx : x < 115792089237316195423570985008687907853269984665640564039457584007913129639936) : Ex 221 [.agg (e4 x), .int .i64 1] (pwm x 2) := (zM x 1 hx (by decide)).to (by rw [show 2 ^ 1 = 2 by decide +kernel])
theorem qez (x : Nat) (hx : x < 115792089237316195423570985008687907853269984665640564039457584007913129639936) : Ex 221 [.agg (e4 x), .int .i64 2] (pwm x 4) := (zM x 2 hx (by decide)).to (by rw [show 2 ^ 2 = 4 by decide +kernel])
theorem squares_3 (x : Nat) (hx : x < 115792089237316195423570985008687907853269984665640564039457584007913129639936) : Ex 221 [.agg (e4 x), .int .i64 3] (pwm x 8) := (zM x 3 hx (by decide)).to (by rw [show 2 ^ 3 = 8 by decide +kernel])
theorem squares_5 (x : Nat) (hx : x < 115792089237316195423570985008687907853269984665640564039457584007913129639936) : Ex 221 [.agg (e4 x), .int .i64 5] (pwm x 32) := (zM x 5 hx (by decide)).to (by rw [show 2 ^ 5 = 32 by decide +kernel])
theorem squares_10 (x : Nat) (hx : x < 115792089237316195423570985008687907853269984665640564039457584007913129639936) : Ex 221 [.agg (e4 x), .int .i64 10] (pwm x 1024) := (zM x 10 hx (by decide)).to (by rw [show 2 ^ 10 = 1024 by decide +kernel])
theorem squares_50 (x : Nat) (hx : x < 115792089237316195423570985008687907853269984665640564039457584007913129639936) : Ex 221 [.agg (e4 x), .int .i64 50] (pwm x 1125899906842624) := (zM x 50 hx (by decide)).to (by rw [show 2 ^ 50 = 1125899906842624 by decide +kernel])
end
section
open Go.RowKit Go.Sx
theorem power_e (a : Nat) (ha : a < 115792089237316195423570985008687907853269984665640564039457584007913129639936) : Ex 222 [.agg (e4 a)] (pwm a 1809251394333065553493296640760748560207343510400633813116524750123642650623) := by
 obtain ⟨m1, h1, k1⟩ := grow_1 a ha
 obtain ⟨m2, h2, k2⟩ := grow_2 m1 h1.1
 obtain ⟨m3, h3, k3⟩ := qcg m2 h2.1
 obtain ⟨m4, h4, k4⟩ := Qs m3 a h3.1 ha
 obtain ⟨m5, h5, k5⟩ := grow_5 m4 h4.1
 obtain ⟨m6, h6, k6⟩ := grow_10 m5 h5.1
 obtain ⟨m7, h7, k7⟩ := grow_20 m6 h6.1
 obtain ⟨m8, h8, k8⟩ := squares_10 m7 h7.1
 obtain ⟨m9, h9, k9⟩ := Qs m8 m5 h8.1 h5.1
 obtain ⟨m10, h10, k10⟩ := grow_50 m9 h9.1
 obtain ⟨m11, h11, k11⟩ := grow_100 m10 h10.1
 obtain ⟨m12, h12, k12⟩ := squares_50 m11 h11.1
 obtain ⟨m13, h13, k13⟩ := Qs m12 m9 h12.1 h9.1
 have e4' := p_five a m1 m2 m3 m4 h1.2 h2.2 h3.2 h4.2
 have e5 := Z0 a m4 31 33 m5 1023 e4' h5.2 rfl
 have e6 := Z0 a m5 1023 1025 m6 1048575 e5 h6.2 (by decide +kernel)
 have e9 := p_fifty a m6 m7 m8 m5 m9 e6 e5 h7.2 h8.2 h9.2
 have e10 := Z0 a m9 1125899906842623 1125899906842625 m10 1267650600228229401496703205375 e9 h10.2 (by decide +kernel)
 refine ⟨m13, ⟨h13.1, p_all a m10 m11 m12 m9 m13 e10 e9 h11.2 h12.2 h13.2⟩, fun w => ?_⟩
 clear e4' e5 e6 e9 e10
 refine qj qc Tryz.func222 rfl Tryz.ntmps222 rfl (St.start w) ?_
 intro b1 b2
 refine dr _ 9 (.t 0 (.t 1 (.t 2 (.t 3 (.t 4 (.t 5 (.t 6 (.t 7 (.n 8 (.n 9 .nil)))))))))) qc qe (by kernel_rfl) (.refl _) ?_
 refine ldN 0 rfl (qd _) ?_
 refine cz k1 ?_
 refine cz k2 ?_
 refine cz k3 ?_
 refine ldN 0 rfl (qd _) ?_
 refine cz k4 ?_
 intro b4
 refine ⟨qk _, ?_⟩
 refine sN 2 rfl (by rw [qd]; rfl) (ql _) ?_ (by kernel_rfl)
 refine ldN 2 rfl (qd _) ?_
 refine cv k5 ?_
 intro b5
 refine sN 3 rfl (by rw [qd]; rfl) (ql _) ?_ (by kernel_rfl)
 refine ldN 3 rfl (qd _) ?_
 refine cv k6 ?_
 intro b6
 refine sN 4 rfl (by rw [qd]; rfl) (ql _) ?_ (by kernel_rfl)
 refine dr _ 7 (.t 0 (.t 1 (.t 2 (.t 3 (.t 4 (.t 5 (.n 6 (.n 7 .nil)))))))) qc qe (by kernel_rfl) (.refl _) ?_
 refine ldN 4 rfl (qd _) ?_
 refine cz k7 ?_
 refine cz k8 ?_
 refine ldN 3 rfl (qd _) ?_
 refine cz k9 ?_
 intro b7
 refine ⟨qk _, ?_⟩
 refine sN 5 rfl (by rw [qd]; rfl) (ql _) ?_ (by kernel_rfl)
 refine ldN 5 rfl (qd _) ?_
 refine cv k10 ?_
 intro b8
 refine sN 6 rfl (by rw [qd]; rfl) (ql _) ?_ (by kernel_rfl)
 refine dr _ 6 (.t 0 (.t 1 (.t 2 (.t 3 (.t 4 (.t 5 (.n 6 .nil))))))) qc qe (by kernel_rfl) (.refl _) ?_
 refine ldN 6 rfl (qd _) ?_
 refine cz k11 ?_
 refine cz k12 ?_
 refine ldN 5 rfl (qd _) ?_
 refine cz k13 ?_
 refine sN 1 rfl (by rw [qd]; rfl) (ql _) ?_ (by kernel_rfl)
 refine ldN 1 rfl (qd _) ?_
 exact rt rfl
end
section
open Go.RowKit Go.Lib Go.Sx
theorem p_over (a b n1 n2 n3 n4 n5 n6 n7 n8 : Nat) (h1 : n1 % PP = pwm b 2) (h2 : n2 % PP = pwm n1 4) (h3 : n3 % PP = n2 * b % PP) (h4 : n4 % PP = n3 * n1 % PP)
 (h5 : n5 % PP = pwm b 1809251394333065553493296640760748560207343510400633813116524750123642650623) (h6 : n6 % PP = pwm n5 32) (h7 : n7 % PP = n6 * n4 % PP) (h8 : n8 % PP = a * n7 % PP) : n8 % PP = a * pwm b (PP - 2) % PP := by
 have k2 := Z0 b n1 2 4 n2 8 h1 h2 rfl
 have k3 := qbe b n2 b 8 1 n3 9 k2 (qbH b) h3 rfl
 have k4 := qbe b n3 n1 9 2 n4 11 k3 h1 h4 rfl
 have k6 := Z0 b n5 1809251394333065553493296640760748560207343510400633813116524750123642650623 32 n6 57896044618658097711785492504343953926634992332820282019728792003956564819936 h5 h6 (by decide +kernel)
 have k7 := qbe b n6 n4 57896044618658097711785492504343953926634992332820282019728792003956564819936 11 n7 (PP - 2) k6 k4 h7 (by decide +kernel)
 rw [h8, Nat.mul_mod, k7, Nat.mod_mul_mod]
theorem over_e (a b : Nat) (ha : a < 115792089237316195423570985008687907853269984665640564039457584007913129639936) (hb : b < 115792089237316195423570985008687907853269984665640564039457584007913129639936) : Ex 167 [.agg (e4 a), .agg (e4 b)] (a * pwm b (PP - 2) % PP) := by
 obtain ⟨m1, h1, k1⟩ := qcg b hb
 obtain ⟨m2, h2, k2⟩ := qez m1 h1.1
 obtain ⟨m3, h3, k3⟩ := Qs m2 b h2.1 hb
 obtain ⟨m4, h4, k4⟩ := Qs m3 m1 h3.1 h1.1
 obtain ⟨m5, h5, k5⟩ := power_e b hb
 obtain ⟨m6, h6, k6⟩ := squares_5 m5 h5.1
 obtain ⟨m7, h7, k7⟩ := Qs m6 m4 h6.1 h4.1
 obtain ⟨m8, h8, k8⟩ := Qs a m7 ha h7.1
 refine ⟨m8, ⟨h8.1, p_over a b m1 m2 m3 m4 m5 m6 m7 m8 h1.2 h2.2 h3.2 h4.2 h5.2 h6.2 h7.2 h8.2⟩, fun w => ?_⟩
 refine qj qc Tryz.func167 rfl Tryz.ntmps167 rfl (St.start w) ?_
 intro b2 b3 b4
 refine ldN 1 rfl (qd _) ?_
 refine cv k1 ?_
 intro b5
 refine sN 3 rfl (by rw [qd]; rfl) (ql _) ?_ (by kernel_rfl)
 refine dr _ 7 (.t 0 (.t 1 (.t 2 (.t 3 (.t 4 (.t 5 (.n 6 (.n 7 .nil)))))))) qc qe (by kernel_rfl) (.refl _) ?_
 refine ldN 3 rfl (qd _) ?_
 refine cz k2 ?_
 refine ldN 1 rfl (qd _) ?_
 refine cz k3 ?_
 refine ldN 3 rfl (qd _) ?_
 refine cz k4 ?_
 intro b6
 refine ⟨qk _, ?_⟩
 refine sN 4 rfl (by rw [qd]; rfl) (ql _) ?_ (by kernel_rfl)
 refine dr _ 7 (.t 0 (.t 1 (.t 2 (.t 3 (.t 4 (.t 5 (.t 6 (.n 7 .nil)))))))) qc qe (by kernel_rfl) (.refl _) ?_
 refine ldN 0 rfl (qd _) ?_
 refine ldN 1 rfl (qd _) ?_
 refine cz k5 ?_
 refine cz k6 ?_
 refine ldN 4 rfl (qd _) ?_
 refine cz k7 ?_
 refine cz k8 ?_
 refine sN 2 rfl (by rw [qd]; rfl) (ql _) ?_ (by kernel_rfl)
 refine ldN 2 rfl (qd _) ?_
 exact rt rfl
theorem over_any (a b : Nat) (ha : a < 115792089237316195423570985008687907853269984665640564039457584007913129639936) (hb : b < 115792089237316195423570985008687907853269984665640564039457584007913129639936) (w : World) : Calls Tryz.prog 167 #[.agg (e4 a), .agg (e4 b)] w (ElP (a * pwm b (PP - 2) % PP) w) := (over_e a b ha hb).el w
end
section
open Go.RowKit Go.Lib
theorem two_lt : 2 % PP < PP := Nat.mod_lt _ qw
theorem pm2_lt : PP - 2 % PP < 2 ^ 255 := by decide +kernel
theorem pm2 : PP - 2 % PP = PP - 2 := by decide +kernel
theorem qeH (a b : Nat) (ha : a < PP) (hb : b < PP) (w : World) :
 Calls Tryz.prog 77 #[.agg (r22 a), .agg (r22 b)] w fun en w' => en = .returned (.agg (r22 (a * pwm b (PP - 2) % PP))) ∧ Below w.heap.size w w' := by
 have h1 := fun w => qc6 2 (by omega) w
 have h2 := fun w => qbR PP (2 % PP) (Nat.le_of_lt two_lt) qek w
 have h3 := fun w => rpow_any b (PP - 2 % PP) hb pm2_lt w
 rw [pm2] at h2 h3
 obtain ⟨t, ht⟩ : ∃ t, t = 2 % PP := ⟨_, rfl⟩
 obtain ⟨e, he⟩ : ∃ e, e = PP - 2 := ⟨_, rfl⟩
 rw [← ht] at h1 h2
 rw [← he] at h2 h3 ⊢
 have hy := pwm_lt b e
 obtain ⟨y, hyy⟩ : ∃ y, y = pwm b e := ⟨_, rfl⟩
 rw [← hyy] at h3 hy ⊢
 have h4 := fun w => q9 a y ha hy w
 obtain ⟨r, hr⟩ : ∃ r, r = a * y % PP := ⟨_, rfl⟩
 rw [← hr] at h4 ⊢
 have H1 := Lib.hid h1; clear h1
 have H2 := Lib.hid h2; clear h2
 have H3 := Lib.hid h3; clear h3
 have H4 := Lib.hid h4; clear h4
 clear hr hyy hy he ht ha hb
 go_enter Tryz.func77, Tryz.ntmps77
 go_wp2_with fail
 refine wp_region_noPanic ?_
 refine qaz 7 (by kernel_rfl) ?_
 intro W0 hW0
 have M0 := Lib.hid (show Has W0 w.heap.size (r22 a) 101 by rw [hW0]; exact ((Has.new _ _ _).alloc _).alloc _)
 have M1 := Lib.hid (show Has W0 (w.heap.size + 1) (r22 b) 101 by rw [hW0]; exact (Has.new1 _ _ _ _).alloc _)
 have M2 := Lib.hid (show HasN W0 (w.heap.size + 1 + 1) 22 101 by rw [hW0]; exact HasN.new2 _ _ _ _ _ 22 rfl)
 have HB := Lib.hid (show Below w.heap.size w W0 by rw [hW0]; exact qax _ _ _ _)
 clear hW0
 refine Zo (i := 0) rfl (by kernel_rfl) (by kernel_rfl) (by kernel_rfl) (by kernel_rfl) (by kernel_rfl) (fun _ _ _ h => h) (Qr (by rfl) 101 _ rfl (w.heap.size) rfl 101 (r22 a) (fun _ h => M0.out.below h M0.out.lt) Tryz.underlying101 rfl (by rw [qg]; kernel_rfl)) ((Below.refl _ _).drew) ?_
 (try simp only [Act.put]); (try simp only [List.setIfInBounds_toArray])
 refine Zo (i := 1) rfl (by kernel_rfl) (by kernel_rfl) (by kernel_rfl) (by kernel_rfl) (by kernel_rfl) (fun _ _ _ h => h) (Qr (by rfl) 101 _ rfl (w.heap.size + 1) rfl 101 (r22 b) (fun _ h => M1.out.below h M1.out.lt) Tryz.underlying101 rfl (by rw [qg]; kernel_rfl)) ((Below.refl _ _).drew) ?_
 (try simp only [Act.put]); (try simp only [List.setIfInBounds_toArray])
 refine Ql (i := 2) (by kernel_rfl) rfl (fun K hK => ?_)
 go_simp
 go_at_call 110
 refine (Z4 _).mono ?_
 rintro e wW01 ⟨rfl, hb⟩
 have hkW01 := qX (Below.refl _ _).drew hb
 refine hK.out _ _ (fun _ => hkW01) ?_
 clear hK K hb
 refine Ql (i := 3) (by kernel_rfl) rfl (fun K hK => ?_)
 go_simp
 go_at_call 81
 refine (H1.out _).mono ?_
 rintro e wW02 ⟨rfl, hb⟩
 have hkW02 := qX hkW01 hb
 refine hK.out _ _ (fun _ => hkW02) ?_
 clear hK K hb
 refine Ql (i := 4) (by kernel_rfl) rfl (fun K hK => ?_)
 go_simp
 go_at_call 109
 refine (H2.out _).mono ?_
 rintro e wW03 ⟨rfl, hb⟩
 have hkW03 := qX hkW02 hb
 refine hK.out _ _ (fun _ => hkW03) ?_
 clear hK K hb
 refine Ql (i := 5) (by kernel_rfl) rfl (fun K hK => ?_)
 go_simp
 go_at_call 108
 refine (H3.out _).mono ?_
 rintro e wW04 ⟨rfl, hb⟩
 have hkW04 := qX hkW03 hb
 refine hK.out _ _ (fun _ => hkW04) ?_
 clear hK K hb
 refine Ql (i := 6) (by kernel_rfl) rfl (fun K hK => ?_)
 go_simp
 go_at_call 82
 refine (H4.out _).mono ?_
 rintro e wW05 ⟨rfl, hb⟩
 have hkW05 := qX hkW04 hb
 refine hK.out _ _ (fun _ => hkW05) ?_
 clear hK K hb
 obtain ⟨Z, hZ, mZ⟩ := M2.out.below hkW05 M2.out.lt
 have MZ := Lib.hid mZ; clear mZ
 have HZ := Lib.hid hZ; clear hZ
 refine Ql (i := 7) (by kernel_rfl) rfl (fun K hK => ?_)
 rw [if_pos (by rfl)]
 refine wp_store_row 101 _ _ rfl (w.heap.size + 1 + 1) _ rfl rfl 101 Z MZ.out (by rw [qg]; kernel_rfl) (HZ.out.trans (qg _).symm) (QA _ _ _) ?_
 refine hK.out _ _ (fun h => (h rfl).elim) ?_
 clear hK K
 (try simp only [Act.put]); (try simp only [List.setIfInBounds_toArray])
 refine qbh (by kernel_rfl) (NoPanic.normal ?_)
 go_wp2_with fail
 exact bodyPost_ret (v := .agg (r22 r)) (results_cell_row (t := 101) (by rfl) _ _ (w.heap.size + 1 + 1) _ _ _ rfl (MZ.out.setRow _) Tryz.underlying101 rfl (by rw [qg]; kernel_rfl)) rfl ⟨rfl, qB (HB.out.trans (hkW05.mono HB.out.size)) _ _ (by omega)⟩
end
section
open Go.RowKit Go.Sx
def rt1 (a : Nat) : Nat := pwm a ((PP + 3) / 2 / 2 / 2)
def rti : Nat := pwm (2 % PP) ((PP - 1 % PP) / 2 / 2)
def rt2 (a : Nat) : Nat := if rt1 a * rt1 a % PP = a then rt1 a else rt1 a * rti % PP
def zw (a : Nat) : Bool := decide (rt2 a * rt2 a % PP = a)
def rt3 (a : Nat) : Nat := if zw a then (if rt2 a % 2 = 1 then PP - rt2 a else rt2 a) else 0
theorem qcM (x : Nat) (h : x < PP) : x < 4096 ^ 22 := Nat.lt_trans h qek
end
section
def chi (a : Nat) : Nat := pwm a ((PP - 1) / 2)
theorem chi_sq (a : Nat) (ha : a % PP ≠ 0) : chi a * chi a % PP = 1 := by
 unfold chi
 rw [← qbG, show (PP - 1) / 2 + (PP - 1) / 2 = PP - 1 by decide +kernel]
 exact little a ha
theorem one_sq (t : Nat) (ht : t < PP) (h : t * t % PP = 1) : t = 1 ∨ t = PP - 1 := by
 have h1 : (1 : Nat) < PP := by have := QR; omega
 have hb : (1 : Nat) * 1 % PP = 1 := Nat.mod_eq_of_lt h1
 rcases sq_eq t 1 ht h1 (h.trans hb.symm) with h2 | h2
 · exact .inl h2
 · right
   by_cases hh : t + 1 < PP
   · rw [Nat.mod_eq_of_lt hh] at h2; omega
   · omega
theorem qdG (b e : Nat) (h : e < 2 ^ 256) : pwm b e = Nm.pm PP 256 b e := (Nm.pm_eq PP 256 b e h).symm
theorem rti_e : (PP - 1 % PP) / 2 / 2 + (PP - 1 % PP) / 2 / 2 < 2 ^ 256 := by decide +kernel
theorem rti_pm : Nm.pm PP 256 (2 % PP) ((PP - 1 % PP) / 2 / 2 + (PP - 1 % PP) / 2 / 2) = PP - 1 := by decide +kernel
theorem pw_dbl (x b E r : Nat) (hx : x = pwm b E) (h1 : E + E < 2 ^ 256) (h2 : Nm.pm PP 256 b (E + E) = r) : x * x % PP = r := by
 rw [hx, ← qbG, qdG _ _ h1, h2]
theorem rti_def : rti = pwm (2 % PP) ((PP - 1 % PP) / 2 / 2) := by delta rti; exact rfl
theorem rti_sq : rti * rti % PP = PP - 1 := pw_dbl rti (2 % PP) ((PP - 1 % PP) / 2 / 2) (PP - 1) rti_def rti_e rti_pm
theorem mul_four (x y m : Nat) : x * y % m * (x * y % m) % m = (x * x % m) * (y * y % m) % m := by
 rw [← Nat.mul_mod, ← Nat.mul_mod]; congr 1; ac_rfl
theorem neg_mul (a b : Nat) (hb : b < PP) : a * (PP - b) % PP = (PP - a * b % PP) % PP := by
 have h1 := Nat.div_add_mod (a * b) PP
 have h2 : a * b % PP < PP := Nat.mod_lt _ qw
 have e : a * (PP - b) + a * b = a * PP := by rw [← Nat.mul_add]; congr 1; omega
 generalize a * b % PP = m at *
 generalize a * b / PP = q at *
 have hle : q ≤ a := by
  by_cases hq : q ≤ a
  · exact hq
  · have h3 : PP * (a + 1) ≤ PP * q := Nat.mul_le_mul_left _ (by omega)
    have h4 : a * b ≤ a * PP := Nat.mul_le_mul_left _ (by omega)
    rw [Nat.mul_add, Nat.mul_comm PP a] at h3
    have := qw
    omega
 obtain ⟨d, rfl⟩ : ∃ d, a = q + d := ⟨a - q, by omega⟩
 have e2 : (q + d) * PP = PP * q + PP * d := by rw [Nat.mul_comm, Nat.mul_add]
 by_cases hm : m = 0
 · subst hm
   have : (q + d) * (PP - b) = PP * d := by omega
   rw [this, Nat.mul_mod_right, Nat.sub_zero, Nat.mod_self]
 · have hd : 0 < d := by
    rcases Nat.eq_zero_or_pos d with h0 | h0
    · subst h0
      have h5 : (q + 0) * b ≤ (q + 0) * PP := Nat.mul_le_mul_left _ (Nat.le_of_lt hb)
      rw [e2, Nat.mul_zero] at h5
      omega
    · exact h0
   obtain ⟨f, rfl⟩ : ∃ f, d = f + 1 := ⟨d - 1, by omega⟩
   have : (q + (f + 1)) * (PP - b) = PP - m + PP * f := by
    rw [Nat.mul_add PP f 1] at e2; omega
   rw [this, Nat.add_mul_mod_self_left]
theorem rt1_sq (a : Nat) : rt1 a * rt1 a % PP = a * pwm a ((PP - 1) / 4) % PP := by
 unfold rt1
 rw [← qbG, show (PP + 3) / 2 / 2 / 2 + (PP + 3) / 2 / 2 / 2 = (PP - 1) / 4 + 1 by decide +kernel, pwm_succ, Nat.mul_comm]
theorem rtok_of_chi (a : Nat) (ha : a < PP) (h : chi a = 1) : zw a = true := by
 have h4 : pwm a ((PP - 1) / 4) * pwm a ((PP - 1) / 4) % PP = 1 := by
  rw [← qbG, show (PP - 1) / 4 + (PP - 1) / 4 = (PP - 1) / 2 by decide +kernel]; exact h
 have hs := rt1_sq a
 unfold zw rt2
 rcases one_sq _ (pwm_lt _ _) h4 with h5 | h5
 · rw [h5, Nat.mul_one, Nat.mod_eq_of_lt ha] at hs
   rw [if_pos hs, hs]; exact decide_eq_true rfl
 · rw [h5] at hs
   by_cases hc : rt1 a * rt1 a % PP = a
   · rw [if_pos hc, hc]; exact decide_eq_true rfl
   · rw [if_neg hc]
     have e := mul_four (rt1 a) rti PP
     have h1 : (1 : Nat) < PP := by have := QR; omega
     have h6 : rt1 a * rt1 a % PP = (PP - a) % PP := by
      rw [hs, neg_mul a 1 h1, Nat.mul_one, Nat.mod_eq_of_lt ha]
     have h7 : (PP - a) % PP * (PP - 1) % PP = a := by
      rw [neg_mul _ 1 h1, Nat.mul_one, Nat.mod_mod]
      by_cases h0 : a = 0
      · subst h0; rw [Nat.sub_zero, Nat.mod_self, Nat.sub_zero, Nat.mod_self]
      · rw [Nat.mod_eq_of_lt (show PP - a < PP by omega), show PP - (PP - a) = a by omega, Nat.mod_eq_of_lt ha]
     rw [e, h6, rti_sq, h7]; exact decide_eq_true rfl
theorem rtok_zero (a : Nat) (ha : a = 0) : zw a = true := by
 have h : rt1 a * rt1 a % PP = a := by rw [rt1_sq, ha, Nat.zero_mul, Nat.zero_mod]
 unfold zw rt2
 rw [if_pos h]; exact decide_eq_true h
theorem rt1_lt (a : Nat) : rt1 a < PP := by unfold rt1; exact pwm_lt _ _
theorem rt2_lt (a : Nat) : rt2 a < PP := by
 unfold rt2
 by_cases h : rt1 a * rt1 a % PP = a
 · rw [if_pos h]; exact rt1_lt a
 · rw [if_neg h]; exact Nat.mod_lt _ qw
theorem neg_neg_mod (x : Nat) (h : x < PP) : (PP - (PP - x) % PP) % PP = x := by
 by_cases h0 : x = 0
 · rw [h0, Nat.sub_zero, Nat.mod_self, Nat.sub_zero, Nat.mod_self]
 · rw [Nat.mod_eq_of_lt (show PP - x < PP by omega), show PP - (PP - x) = x by omega, Nat.mod_eq_of_lt h]
theorem neg_sq (r : Nat) (h : r < PP) : (PP - r) * (PP - r) % PP = r * r % PP := by
 rw [neg_mul _ r h, Nat.mul_comm, neg_mul _ r h]
 exact neg_neg_mod _ (Nat.mod_lt _ qw)
theorem rt3_sq (a : Nat) (h : zw a = true) : rt3 a * rt3 a % PP = a := by
 have h2 : rt2 a * rt2 a % PP = a := of_decide_eq_true (show decide (rt2 a * rt2 a % PP = a) = true from h)
 unfold rt3
 rw [if_pos h]
 by_cases ho : rt2 a % 2 = 1
 · rw [if_pos ho, neg_sq _ (rt2_lt a), h2]
 · rw [if_neg ho, h2]
theorem PP_odd : PP % 2 = 1 := by decide +kernel
theorem rt3_even (a : Nat) : rt3 a % 2 = 0 := by
 unfold rt3
 have h1 := rt2_lt a
 have h2 := PP_odd
 by_cases h : zw a = true
 · rw [if_pos h]
   by_cases ho : rt2 a % 2 = 1
   · rw [if_pos ho]; omega
   · rw [if_neg ho]; omega
 · rw [if_neg h]
theorem rt3_lt (a : Nat) : rt3 a < PP := by
 unfold rt3
 have h1 := rt2_lt a
 have h2 := qw
 by_cases h : zw a = true
 · rw [if_pos h]
   by_cases ho : rt2 a % 2 = 1
   · rw [if_pos ho]; omega
   · rw [if_neg ho]; exact h1
 · rw [if_neg h]; exact h2
theorem chi_mod (a : Nat) : chi (a % PP) = chi a := by unfold chi; exact qao _ _
theorem chi_mul (a b : Nat) : chi (a * b) = chi a * chi b % PP := by unfold chi; exact pwm_mulbase _ _ _
theorem rtok_sq (u : Nat) : zw (u * u % PP) = true := by
 by_cases h0 : u % PP = 0
 · exact rtok_zero _ (by rw [Nat.mul_mod, h0, Nat.zero_mul, Nat.zero_mod])
 · exact rtok_of_chi _ (Nat.mod_lt _ qw) (by rw [chi_mod, chi_mul]; exact chi_sq u h0)
theorem rt3_root (u : Nat) : rt3 (u * u % PP) = u % PP ∨ (rt3 (u * u % PP) + u) % PP = 0 := by
 have h := rt3_sq _ (rtok_sq u)
 rcases sq_eq (rt3 (u * u % PP)) (u % PP) (rt3_lt _) (Nat.mod_lt _ qw) (h.trans (Nat.mul_mod u u PP)) with h1 | h1
 · exact .inl h1
 · right; rw [Nat.add_mod_mod] at h1; exact h1
end
section
open Go.RowKit Go.Sx
theorem even_yes (a : Nat) (ha : a < 115792089237316195423570985008687907853269984665640564039457584007913129639936) (h : a % PP % 2 = 0) (w : World) :
 Calls Tryz.prog 175 #[.agg (e4 a)] w fun e w' => e = .returned (.bool true) ∧ Below w.heap.size w w' := by
 have := qbZ a ha w
 rwa [show (a % PP % 2 == 0) = true by rw [h]; rfl] at this
theorem even_no (a : Nat) (ha : a < 115792089237316195423570985008687907853269984665640564039457584007913129639936) (h : a % PP % 2 = 1) (w : World) :
 Calls Tryz.prog 175 #[.agg (e4 a)] w fun e w' => e = .returned (.bool false) ∧ Below w.heap.size w w' := by
 have := qbZ a ha w
 rwa [show (a % PP % 2 == 0) = false by rw [h]; rfl] at this
def RtP (A : Nat) (w : World) (e : Ending) (w' : World) : Prop := ∃ m : Nat, m < 115792089237316195423570985008687907853269984665640564039457584007913129639936 ∧ m % PP = rt3 A ∧ e = .returned (.tuple #[.agg (e4 m), .bool (zw A)]) ∧ Below w.heap.size w w'
theorem rt1_exp : (PP + 3) / 2 / 2 / 2 = 7237005577332262213973186563042994240829374041602535252466099000494570602494 := by decide +kernel
theorem rti_exp : (PP - 1 % PP) / 2 / 2 = 14474011154664524427946373126085988481658748083205070504932198000989141204987 := by decide +kernel
theorem rt1_def (a : Nat) : rt1 a = pwm a ((PP + 3) / 2 / 2 / 2) := by delta rt1; exact rfl
theorem p_root (a n1 n2 n3 n4 : Nat) (h1 : n1 % PP = pwm a 1809251394333065553493296640760748560207343510400633813116524750123642650623) (h2 : n2 % PP = pwm n1 4) (h3 : n3 % PP = n2 * a % PP) (h4 : n4 % PP = n3 * a % PP) : n4 % PP = rt1 (a % PP) := by
 have k2 := Z0 a n1 1809251394333065553493296640760748560207343510400633813116524750123642650623 4 n2 7237005577332262213973186563042994240829374041602535252466099000494570602492 h1 h2 (by decide +kernel)
 have k3 := qbe a n2 a 7237005577332262213973186563042994240829374041602535252466099000494570602492 1 n3 7237005577332262213973186563042994240829374041602535252466099000494570602493 k2 (qbH a) h3 (by decide +kernel)
 have k4 := qbe a n3 a 7237005577332262213973186563042994240829374041602535252466099000494570602493 1 n4 7237005577332262213973186563042994240829374041602535252466099000494570602494 k3 (qbH a) h4 (by decide +kernel)
 rw [rt1_def, qao, rt1_exp, k4]
theorem p_two (r n4 n5 n6 n7 n8 n9 n10 : Nat) (hr : n4 % PP = r) (h5 : n5 % PP = pwm 2 1809251394333065553493296640760748560207343510400633813116524750123642650623) (h6 : n6 % PP = pwm n5 8) (h7 : n7 % PP = pwm 2 2) (h8 : n8 % PP = n6 * n7 % PP) (h9 : n9 % PP = n8 * 2 % PP) (h10 : n10 % PP = n4 * n9 % PP) : n10 % PP = r * rti % PP := by
 have k6 := Z0 2 n5 1809251394333065553493296640760748560207343510400633813116524750123642650623 8 n6 14474011154664524427946373126085988481658748083205070504932198000989141204984 h5 h6 (by decide +kernel)
 have k8 := qbe 2 n6 n7 14474011154664524427946373126085988481658748083205070504932198000989141204984 2 n8 14474011154664524427946373126085988481658748083205070504932198000989141204986 k6 h7 h8 (by decide +kernel)
 have k9 := qbe 2 n8 2 14474011154664524427946373126085988481658748083205070504932198000989141204986 1 n9 14474011154664524427946373126085988481658748083205070504932198000989141204987 k8 (qbH 2) h9 (by decide +kernel)
 rw [rti_def, qao, rti_exp, h10, Nat.mul_mod, hr, k9]
theorem rt2_yes (a : Nat) (h : rt1 a * rt1 a % PP = a) : rt2 a = rt1 a := by unfold rt2; rw [if_pos h]
theorem rt2_no (a : Nat) (h : ¬ rt1 a * rt1 a % PP = a) : rt2 a = rt1 a * rti % PP := by unfold rt2; rw [if_neg h]
theorem rt3_odd (a : Nat) (h : rt2 a * rt2 a % PP = a) (ho : rt2 a % 2 = 1) : rt3 a = (0 % PP + (PP - rt2 a)) % PP ∧ zw a = true := by
 have h1 : zw a = true := by unfold zw; exact decide_eq_true h
 refine ⟨?_, h1⟩
 unfold rt3
 have := rt2_lt a
 rw [h1, if_pos rfl, if_pos ho, Nat.zero_mod, Nat.zero_add, Nat.mod_eq_of_lt (by omega)]
theorem rt3_evn (a : Nat) (h : rt2 a * rt2 a % PP = a) (ho : ¬ rt2 a % 2 = 1) : rt3 a = rt2 a ∧ zw a = true := by
 have h1 : zw a = true := by unfold zw; exact decide_eq_true h
 refine ⟨?_, h1⟩
 unfold rt3
 rw [h1, if_pos rfl, if_neg ho]
theorem rt3_non (a : Nat) (h : ¬ rt2 a * rt2 a % PP = a) : 0 % PP = rt3 a ∧ zw a = false := by
 have h1 : zw a = false := by unfold zw; exact decide_eq_false h
 refine ⟨?_, h1⟩
 unfold rt3
 rw [h1, if_neg (by decide), Nat.zero_mod]
theorem two_256 : 2 < 115792089237316195423570985008687907853269984665640564039457584007913129639936 := by decide
theorem froot_any (a : Nat) (ha : a < 115792089237316195423570985008687907853269984665640564039457584007913129639936) (w : World) :
 Calls Tryz.prog 212 #[.agg (e4 a)] w (RtP (a % PP) w) := by
 obtain ⟨m1, h1, k1⟩ := power_e a ha
 obtain ⟨m2, h2, k2⟩ := qez m1 h1.1
 obtain ⟨m3, h3, k3⟩ := Qs m2 a h2.1 ha
 obtain ⟨m4, h4, k4⟩ := Qs m3 a h3.1 ha
 have hm4 := h4.1
 have hr1 := p_root a m1 m2 m3 m4 h1.2 h2.2 h3.2 h4.2
 refine (enter (R := fun v w' => ∃ m : Nat, m < 115792089237316195423570985008687907853269984665640564039457584007913129639936 ∧ m % PP = rt3 (a % PP) ∧ v = .tuple #[.agg (e4 m), .bool (zw (a % PP))] ∧ Below w.heap.size w w') qc Tryz.func212 rfl Tryz.ntmps212 rfl (St.start w) (vs := [.agg (e4 a)]) ?_).mono (fun e w' ⟨v, he, m, h1, h2, h3, h4⟩ => ⟨m, h1, h2, by rw [he, h3], h4⟩)
 intro b1 b2
 refine dr _ 8 (.t 0 (.t 1 (.t 2 (.t 3 (.t 4 (.t 5 (.t 6 (.n 7 (.n 8 .nil))))))))) qc qe (by kernel_rfl) (.refl _) ?_
 refine ldN 0 rfl (qd _) ?_
 refine cz k1 ?_
 refine cz k2 ?_
 refine ldN 0 rfl (qd _) ?_
 refine cz k3 ?_
 refine ldN 0 rfl (qd _) ?_
 refine cz k4 ?_
 intro b4
 refine ⟨qk _, ?_⟩
 refine sN 2 rfl (by rw [qd]; rfl) (ql _) ?_ (by kernel_rfl)
 obtain ⟨q1, hq1, kq1⟩ := Qs m4 m4 hm4 hm4
 refine dr _ 5 (.t 0 (.t 1 (.t 2 (.t 3 (.t 4 (.n 5 .nil)))))) qc qe (by kernel_rfl) (.refl _) ?_
 refine ldN 2 rfl (qd _) ?_
 refine ldN 2 rfl (qd _) ?_
 refine cz kq1 ?_
 refine ldN 0 rfl (qd _) ?_
 refine cz (fun w => is_any q1 a hq1.1 ha w) ?_
 have e1 : (q1 % PP = a % PP) = (rt1 (a % PP) * rt1 (a % PP) % PP = a % PP) := by rw [hq1.2, Nat.mul_mod, hr1]
 by_cases c1 : rt1 (a % PP) * rt1 (a % PP) % PP = a % PP
 · have hr2 : m4 % PP = rt2 (a % PP) := hr1.trans (rt2_yes _ c1).symm
   refine cf (by simp [e1, c1]) ?_
   obtain ⟨q2, hq2, kq2⟩ := Qs m4 m4 hm4 hm4
   refine dr _ 5 (.t 0 (.t 1 (.t 2 (.t 3 (.t 4 (.n 5 .nil)))))) qc qe (by kernel_rfl) (.refl _) ?_
   refine ldN 2 rfl (qd _) ?_
   refine ldN 2 rfl (qd _) ?_
   refine cz kq2 ?_
   refine ldN 0 rfl (qd _) ?_
   refine cz (fun w => is_any q2 a hq2.1 ha w) ?_
   have e2 : (q2 % PP = a % PP) = (rt2 (a % PP) * rt2 (a % PP) % PP = a % PP) := by rw [hq2.2, Nat.mul_mod, hr2]
   by_cases c2 : rt2 (a % PP) * rt2 (a % PP) % PP = a % PP
   · refine cf (by simp [e2, c2]) ?_
     refine ldN 2 rfl (qd _) ?_
     refine cv (fun w => qbZ m4 hm4 w) ?_
     by_cases c3 : rt2 (a % PP) % 2 = 1
     · obtain ⟨f1, f2⟩ := rt3_odd _ c2 c3
       obtain ⟨m, hm, km⟩ := qbP 0 m4 (by decide) hm4
       refine ct (by rw [hr2, c3]; rfl) ?_
       refine bu bdE0 ?_
       refine ldN 2 rfl (qd _) ?_
       refine cv km ?_
       refine sN 2 rfl (by rw [qd, qd]) (ql _) ?_ (by kernel_rfl)
       refine ldN 2 rfl (qd _) ?_
       refine sN 1 rfl (by rw [qd]; rfl) (ql _) ?_ (by kernel_rfl)
       refine ldN 1 rfl (qd _) ?_
       exact ⟨fun w1 hs => ⟨m, hm.1, by rw [hm.2, f1, hr2], by rw [f2]; rfl, hs.below⟩⟩
     · obtain ⟨f1, f2⟩ := rt3_evn _ c2 c3
       refine cf (by rw [hr2, show rt2 (a % PP) % 2 = 0 by omega]; rfl) ?_
       refine ldN 2 rfl (qd _) ?_
       refine sN 1 rfl (by rw [qd]; rfl) (ql _) ?_ (by kernel_rfl)
       refine ldN 1 rfl (qd _) ?_
       exact ⟨fun w1 hs => ⟨m4, hm4, by rw [f1, hr2], by rw [f2]; rfl, hs.below⟩⟩
   · obtain ⟨f1, f2⟩ := rt3_non _ c2
     refine ct (by simp [e2, c2]) ?_
     refine bu bdE0 ?_
     refine sN 1 rfl (by rw [qd]; rfl) (ql _) ?_ (by kernel_rfl)
     refine ldN 1 rfl (qd _) ?_
     exact ⟨fun w1 hs => ⟨0, by decide, f1, by rw [f2]; rfl, hs.below⟩⟩
 · refine ct (by simp [e1, c1]) ?_
   obtain ⟨m5, h5, k5⟩ := power_e 2 two_256
   obtain ⟨m6, h6, k6⟩ := squares_3 m5 h5.1
   obtain ⟨m7, h7, k7⟩ := qcg 2 two_256
   obtain ⟨m8, h8, k8⟩ := Qs m6 m7 h6.1 h7.1
   obtain ⟨m9, h9, k9⟩ := Qs m8 2 h8.1 two_256
   obtain ⟨m10, h10, k10⟩ := Qs m4 m9 hm4 h9.1
   refine cv (fun w => qaw 2 (by decide) w) ?_
   intro b5
   refine sN 3 rfl (by rw [qd]; rfl) (ql _) ?_ (by kernel_rfl)
   refine dr _ 10 (.t 0 (.t 1 (.t 2 (.t 3 (.t 4 (.t 5 (.t 6 (.t 7 (.t 8 (.t 9 (.n 10 .nil))))))))))) qc qe (by kernel_rfl) (.refl _) ?_
   refine ldN 2 rfl (qd _) ?_
   refine ldN 3 rfl (qd _) ?_
   refine cz k5 ?_
   refine cz k6 ?_
   refine ldN 3 rfl (qd _) ?_
   refine cz k7 ?_
   refine cz k8 ?_
   refine ldN 3 rfl (qd _) ?_
   refine cz k9 ?_
   refine cz k10 ?_
   have hr2 : m10 % PP = rt2 (a % PP) := (p_two (rt1 (a % PP)) m4 m5 m6 m7 m8 m9 m10 hr1 h5.2 h6.2 h7.2 h8.2 h9.2 h10.2).trans (rt2_no _ c1).symm
   have hm10 := h10.1
   refine sN 2 rfl (by rw [qd, qd]) (ql _) ?_ (by kernel_rfl)
   obtain ⟨q2, hq2, kq2⟩ := Qs m10 m10 hm10 hm10
   refine dr _ 5 (.t 0 (.t 1 (.t 2 (.t 3 (.t 4 (.n 5 .nil)))))) qc qe (by kernel_rfl) (.refl _) ?_
   refine ldN 2 rfl (qd _) ?_
   refine ldN 2 rfl (qd _) ?_
   refine cz kq2 ?_
   refine ldN 0 rfl (qd _) ?_
   refine cz (fun w => is_any q2 a hq2.1 ha w) ?_
   have e2 : (q2 % PP = a % PP) = (rt2 (a % PP) * rt2 (a % PP) % PP = a % PP) := by rw [hq2.2, Nat.mul_mod, hr2]
   by_cases c2 : rt2 (a % PP) * rt2 (a % PP) % PP = a % PP
   · refine cf (by simp [e2, c2]) ?_
     refine ldN 2 rfl (qd _) ?_
     refine cv (fun w => qbZ m10 hm10 w) ?_
     by_cases c3 : rt2 (a % PP) % 2 = 1
     · obtain ⟨f1, f2⟩ := rt3_odd _ c2 c3
       obtain ⟨m, hm, km⟩ := qbP 0 m10 (by decide) hm10
       refine ct (by rw [hr2, c3]; rfl) ?_
       refine bu bdE0 ?_
       refine ldN 2 rfl (qd _) ?_
       refine cv km ?_
       refine sN 2 rfl (by rw [qd, qd]) (ql _) ?_ (by kernel_rfl)
       refine ldN 2 rfl (qd _) ?_
       refine sN 1 rfl (by rw [qd]; rfl) (ql _) ?_ (by kernel_rfl)
       refine ldN 1 rfl (qd _) ?_
       exact ⟨fun w1 hs => ⟨m, hm.1, by rw [hm.2, f1, hr2], by rw [f2]; rfl, hs.below⟩⟩
     · obtain ⟨f1, f2⟩ := rt3_evn _ c2 c3
       refine cf (by rw [hr2, show rt2 (a % PP) % 2 = 0 by omega]; rfl) ?_
       refine ldN 2 rfl (qd _) ?_
       refine sN 1 rfl (by rw [qd]; rfl) (ql _) ?_ (by kernel_rfl)
       refine ldN 1 rfl (qd _) ?_
       exact ⟨fun w1 hs => ⟨m10, hm10, by rw [f1, hr2], by rw [f2]; rfl, hs.below⟩⟩
   · obtain ⟨f1, f2⟩ := rt3_non _ c2
     refine ct (by simp [e2, c2]) ?_
     refine bu bdE0 ?_
     refine sN 1 rfl (by rw [qd]; rfl) (ql _) ?_ (by kernel_rfl)
     refine ldN 1 rfl (qd _) ?_
     exact ⟨fun w1 hs => ⟨0, by decide, f1, by rw [f2]; rfl, hs.below⟩⟩
end
section
open Go.RowKit Go.Lib
theorem n256_32 : 256 ^ 32 = 115792089237316195423570985008687907853269984665640564039457584007913129639936 := by decide +kernel
theorem k32_eq (x y : Nat) (hx : x < 115792089237316195423570985008687907853269984665640564039457584007913129639936) (hy : y < 115792089237316195423570985008687907853269984665640564039457584007913129639936) (w : World) : (Op.equalIn 10000 36 (.agg (k32 x)) (.agg (k32 y))).run Tryz.prog w = .ok (decide (x = y)) w := by
 rw [← eqr_dg 256 32 x y (by rw [n256_32]; exact hx) (by rw [n256_32]; exact hy)]
 exact qaA w 9998 36 5 32 .u8 Tryz.underlying36 Tryz.underlying5 sz_u8 _ _
theorem PP_256 (b : Nat) (h : b < PP) : b < 115792089237316195423570985008687907853269984665640564039457584007913129639936 := by
 have : PP < 115792089237316195423570985008687907853269984665640564039457584007913129639936 := by decide +kernel
 omega
theorem fof_a (n a : Nat) (hn : n < 115792089237316195423570985008687907853269984665640564039457584007913129639936) (ha : a = n % 57896044618658097711785492504343953926634992332820282019728792003956564819968) (w : World) : Calls Tryz.prog 159 #[.agg (k32 n)] w fun e w' => e = .returned (.agg (e4 a)) ∧ Below w.heap.size w w' := by
 rw [ha]; exact of_any n hn w
end
end Go.Proofs.YtbgefoamhdgnaaaGreatDoor
section
namespace Go
variable {P : Program} {ops : Array Oper} {Q : Exit → Act → World → Prop} {S : World → Prop} {a : Act} {w : World}
end Go
namespace Go.Proofs.YtbgefoamhdgnaaaGreatDoor
open Go.RowKit Go.Lib
def e4l (n : Nat) : List Value := Qc .u64 4 (dg 18446744073709551616 n)
theorem e4_l (n : Nat) : e4 n = (e4l n).toArray := rfl
theorem Zi (n : Nat) : (e4l n).length = 4 := zy _ _ _
def pt (x y z : Nat) (b : Bool) : Array Value := (e4l x ++ e4l y ++ e4l z ++ [Value.bool b]).toArray
theorem qo (x y z : Nat) (b : Bool) : (pt x y z b).size = 13 := by simp [pt, Zi]
theorem QW (x y z : Nat) (b : Bool) : (pt x y z b).all (·.oneCell') = true := by
 simp [pt, e4l, Qc, List.all_eq_true, Value.oneCell']
def r22l (n : Nat) : List Value := Qc .i64 22 (dg 4096 n)
theorem r22_l (n : Nat) : r22 n = (r22l n).toArray := rfl
theorem zB (n : Nat) : (r22l n).length = 22 := zy _ _ _
def rp (x y z t : Nat) : Array Value := (r22l x ++ r22l y ++ r22l z ++ r22l t).toArray
theorem Qv (x y z t : Nat) : (rp x y z t).size = 88 := by simp [rp, zB]
theorem qbl (x y z t : Nat) : (rp x y z t).all (·.oneCell') = true := by
 simp [rp, r22l, Qc, List.all_eq_true, Value.oneCell']
theorem qdE {w : World} {b : Nat} {t : TypeId} {l1 l2 l3 : List Value} (h : Has w b (l1 ++ l2 ++ l3).toArray t) : w.rangeAt b l1.length l2 := fun j v hv => by
 have hj : j < l2.length := (List.getElem?_eq_some_iff.1 hv).1
 rw [h.cellAt]
 simp only [List.getElem?_toArray]
 rw [List.append_assoc, List.getElem?_append_right (by omega), List.getElem?_append_left (by omega), show l1.length + j - l1.length = j by omega, hv]
theorem bd53z : Tryz.prog.built 182 [] = some (pt 0 0 0 false) := by kernel_rfl
theorem bd53 (x y z : Nat) (b : Bool) : Tryz.prog.built 182 [(0, .agg (e4 x)), (1, .agg (e4 y)), (2, .agg (e4 z)), (3, .bool b)] = some (pt x y z b) := by kernel_rfl
theorem bd57 (x y z t : Nat) : Tryz.prog.built 103 [(0, .agg (r22 x)), (1, .agg (r22 y)), (2, .agg (r22 z)), (3, .agg (r22 t))] = some (rp x y z t) := by kernel_rfl
theorem bd57o (y z : Nat) : Tryz.prog.built 103 [(1, .agg (r22 y)), (2, .agg (r22 z))] = some (rp 0 y z 0) := by kernel_rfl
def z53 : Array Value := (#[.int .u64 0, .int .u64 0, .int .u64 0, .int .u64 0, .int .u64 0, .int .u64 0, .int .u64 0, .int .u64 0, .int .u64 0, .int .u64 0, .int .u64 0, .int .u64 0, .bool false] : Array Value)
end Go.Proofs.YtbgefoamhdgnaaaGreatDoor
end
namespace Go.Proofs.YtbgefoamhdgnaaaGreatDoor
section
open Go.RowKit Go.Lib
def zI (x y z1 : Nat) (b : Bool) (X Y Z : Nat) : Prop :=
 (x < 115792089237316195423570985008687907853269984665640564039457584007913129639936 ∧ y < 115792089237316195423570985008687907853269984665640564039457584007913129639936 ∧ z1 < 115792089237316195423570985008687907853269984665640564039457584007913129639936) ∧ (b = true ∧ x % PP = X ∧ y % PP = Y ∧ (z1 + 1) % PP = Z ∨ b = false ∧ 0 % PP = X ∧ 1 % PP = Y ∧ 1 % PP = Z)
def PlP (X Y Z : Nat) (w : World) (e : Ending) (w' : World) : Prop :=
 ∃ x y z : Nat, (x < 115792089237316195423570985008687907853269984665640564039457584007913129639936 ∧ y < 115792089237316195423570985008687907853269984665640564039457584007913129639936 ∧ z < 115792089237316195423570985008687907853269984665640564039457584007913129639936) ∧ (x % PP = X ∧ y % PP = Y ∧ z % PP = Z) ∧ e = .returned (.tuple #[.agg (e4 x), .agg (e4 y), .agg (e4 z)]) ∧ Below w.heap.size w w'
def PtP (X Y Z : Nat) (w : World) (e : Ending) (w' : World) : Prop :=
 ∃ (x y z1 : Nat) (b : Bool), zI x y z1 b X Y Z ∧ e = .returned (.agg (pt x y z1 b)) ∧ Below w.heap.size w w'
open Go.Sx
theorem ptx (x y z : Nat) (b : Bool) : (pt x y z b).extract 0 (0 + 4) = e4 x := by
 rw [pt, e4_l, List.extract_toArray, List.extract_eq_take_drop, List.append_assoc, List.append_assoc]
 exact congrArg _ (List.take_left' (Zi x))
theorem pty (x y z : Nat) (b : Bool) : (pt x y z b).extract 4 (4 + 4) = e4 y := by
 rw [pt, e4_l, List.extract_toArray, List.extract_eq_take_drop, List.append_assoc, List.append_assoc, List.drop_left' (Zi x)]
 exact congrArg _ (List.take_left' (Zi y))
theorem ptz (x y z : Nat) (b : Bool) : (pt x y z b).extract 8 (8 + 4) = e4 z := by
 rw [pt, e4_l, List.extract_toArray, List.extract_eq_take_drop, List.append_assoc, List.drop_left' (by rw [List.length_append, Zi, Zi])]
 exact congrArg _ (List.take_left' (Zi z))
theorem ptw (x y z : Nat) (b : Bool) : (pt x y z b)[12]? = some (.bool b) := by
 rw [pt, List.getElem?_toArray, List.getElem?_append_right (by simp [Zi])]
 simp [Zi]
theorem rp_xx (x y z t : Nat) : (rp x y z t).extract 0 (0 + 22) = r22 x := by
 rw [r22_l]; unfold rp
 rw [List.extract_toArray, List.extract_eq_take_drop, List.drop_zero, List.append_assoc, List.append_assoc, List.take_left' (by rw [zB])]
theorem rp_yx (x y z t : Nat) : (rp x y z t).extract 22 (22 + 22) = r22 y := by
 rw [r22_l]; unfold rp
 rw [List.extract_toArray, List.extract_eq_take_drop, List.append_assoc, List.append_assoc, List.drop_left' (zB _), List.take_left' (by rw [zB])]
theorem rp_zx (x y z t : Nat) : (rp x y z t).extract 44 (44 + 22) = r22 z := by
 rw [r22_l]; unfold rp
 rw [List.extract_toArray, List.extract_eq_take_drop, List.append_assoc, List.drop_left' (by rw [List.length_append, zB, zB]), List.take_left' (by rw [zB])]
theorem rp_tx (x y z t : Nat) : (rp x y z t).extract 66 (66 + 22) = r22 t := by
 rw [r22_l]; unfold rp
 rw [List.extract_toArray, List.extract_eq_take_drop, List.drop_left' (by simp only [List.length_append, zB]), List.take_of_length_le (by rw [zB]; omega)]
theorem qeN (x y z1 : Nat) (b : Bool) (X Y Z : Nat) (h : zI x y z1 b X Y Z) (w : World) :
 Calls Tryz.prog 171 #[.agg (pt x y z1 b)] w (PlP X Y Z w) := by
 obtain ⟨⟨hx, hy, hz⟩, hc⟩ := h
 refine (enter (vs := [.agg (pt x y z1 b)]) (R := fun v w' => ∃ x y z : Nat, (x < 115792089237316195423570985008687907853269984665640564039457584007913129639936 ∧ y < 115792089237316195423570985008687907853269984665640564039457584007913129639936 ∧ z < 115792089237316195423570985008687907853269984665640564039457584007913129639936) ∧ (x % PP = X ∧ y % PP = Y ∧ z % PP = Z) ∧ v = .tuple #[.agg (e4 x), .agg (e4 y), .agg (e4 z)] ∧ Below w.heap.size w w') qc Tryz.func171 rfl Tryz.ntmps171 rfl (St.start w) ?_).mono (fun e w' ⟨v, he, x, y, z, h1, h2, h3, h4⟩ => ⟨x, y, z, h1, h2, by rw [he, h3], h4⟩)
 intro b1 b2 b3 b4
 refine cv (qaw 1 (by decide)) ?_
 intro b5
 refine sN 4 (d := e4 1) rfl (by rw [qd]; rfl) (ql _) ?_ (by kernel_rfl)
 refine ld1 0 rfl (by exact ptw x y z1 b) ?_
 cases b
 · refine ct rfl ?_
   refine drs [dead, dead, dead, dead, cl b5 (e4 1) 180] [] (.t 0 (.t 1 (.t 2 (.n 3 (.n 4 (.n 5 .nil)))))) qc qe (by kernel_rfl) (.dead (.dead (.dead (.dead (.cons .nil))))) ?_
   refine bu (c := e4 0) (by kernel_rfl) ?_
   refine ldN 4 rfl (qd _) ?_
   refine ldN 4 rfl (qd _) ?_
   refine sN 1 (d := e4 0) rfl (by rw [qd]; rfl) (ql _) ?_ (by kernel_rfl)
   refine ⟨(.dead (.dead (.dead (.dead (.cons .nil))))), ?_⟩
   refine sN 2 (d := e4 1) rfl (by rw [qd]; rfl) (ql _) ?_ (by kernel_rfl)
   refine ⟨(.dead (.dead (.dead (.dead (.cons .nil))))), ?_⟩
   refine sN 3 (d := e4 1) rfl (by rw [qd]; rfl) (ql _) ?_ (by kernel_rfl)
   refine ⟨(.dead (.dead (.dead (.dead (.cons .nil))))), ?_⟩
   refine ldN 1 rfl (qd _) ?_
   refine ldN 2 rfl (qd _) ?_
   refine ldN 3 rfl (qd _) ?_
   have hr := hc.resolve_left (by simp)
   exact ⟨fun w1 hs => ⟨0, 1, 1, ⟨by decide, by decide, by decide⟩, hr.2, rfl, hs.below⟩⟩
 · refine cf rfl ?_
   refine drs [cl b1 (pt x y z1 true) 182, dead, dead, dead, cl b5 (e4 1) 180] [] (.t 0 (.t 1 (.t 2 (.t 3 (.t 4 (.t 5 (.t 6 (.n 7 (.n 8 (.n 9 (.n 10 .nil))))))))))) qc qe (by kernel_rfl) (.cons (.dead (.dead (.dead (.cons .nil))))) ?_
   refine ldP 0 (d := e4 x) rfl (qd _) (by exact ptx _ _ _ _) ?_
   refine ldP 0 (d := e4 y) rfl (qd _) (by exact pty _ _ _ _) ?_
   refine ldP 0 (d := e4 z1) rfl (qd _) (by exact ptz _ _ _ _) ?_
   refine ldN 4 rfl (qd _) ?_
   refine ce (v := fun m => .agg (e4 m)) (Φ := fun m => m < 115792089237316195423570985008687907853269984665640564039457584007913129639936 ∧ m % PP = (z1 + 1) % PP) (fun w _ => (plus_any z1 1 hz (by decide) w).mono fun e w' ⟨m, h1, h2, h3, h4⟩ => ⟨m, ⟨h1, h2⟩, h3, h4⟩) (fun m hm => ?_)
   refine ⟨(.cons (.dead (.dead (.dead (.cons .nil))))), ?_⟩
   refine sN 1 (d := e4 x) rfl (by rw [qd]; rfl) (ql _) ?_ (by kernel_rfl)
   refine ⟨(.cons (.dead (.dead (.dead (.cons .nil))))), ?_⟩
   refine sN 2 (d := e4 y) rfl (by rw [qd]; rfl) (ql _) ?_ (by kernel_rfl)
   refine ⟨(.cons (.dead (.dead (.dead (.cons .nil))))), ?_⟩
   refine sN 3 (d := e4 m) rfl (by rw [qd]; rfl) (ql _) ?_ (by kernel_rfl)
   refine ⟨(.cons (.dead (.dead (.dead (.cons .nil))))), ?_⟩
   refine ldN 1 rfl (qd _) ?_
   refine ldN 2 rfl (qd _) ?_
   refine ldN 3 rfl (qd _) ?_
   have hr := hc.resolve_right (by simp)
   exact ⟨fun w1 hs => ⟨x, y, m, ⟨hx, hy, hm.1⟩, ⟨hr.2.1, hr.2.2.1, hm.2.trans hr.2.2.2⟩, rfl, hs.below⟩⟩
end
section
open Go.RowKit Go.Lib
theorem made_res (z m : Nat) (h : m % PP = (z % PP + (PP - 1 % PP)) % PP) : (m + 1) % PP = z % PP := by
 have h1 : 1 % PP = 1 := Nat.mod_eq_of_lt (by have := QR; omega)
 have hp : 1 < PP := by have := QR; omega
 rw [h1] at h
 rw [mo_add_l m _ 1 h, Nat.add_assoc, show PP - 1 + 1 = PP by omega, Nat.add_mod_right, Nat.mod_mod]
open Go.Sx
theorem made_any (x y z : Nat) (hx : x < 115792089237316195423570985008687907853269984665640564039457584007913129639936) (hy : y < 115792089237316195423570985008687907853269984665640564039457584007913129639936) (hz : z < 115792089237316195423570985008687907853269984665640564039457584007913129639936) (w : World) :
 Calls Tryz.prog 173 #[.agg (e4 x), .agg (e4 y), .agg (e4 z)] w (PtP (x % PP) (y % PP) (z % PP) w) := by
 refine (enter (vs := [.agg (e4 x), .agg (e4 y), .agg (e4 z)]) (R := fun v w' => ∃ (x' y' z1 : Nat) (b : Bool), zI x' y' z1 b (x % PP) (y % PP) (z % PP) ∧ v = .agg (pt x' y' z1 b) ∧ Below w.heap.size w w') qc Tryz.func173 rfl Tryz.ntmps173 rfl (St.start w) ?_).mono (fun e w' ⟨v, he, x, y, z1, b, h1, h2, h3⟩ => ⟨x, y, z1, b, h1, by rw [he, h2], h3⟩)
 intro b3 b4 b5 b6
 refine dr _ 6 (.t 0 (.t 1 (.t 2 (.t 3 (.n 4 (.n 5 (.n 6 .nil))))))) qc qe (by kernel_rfl) (.refl _) ?_
 refine ldN 0 rfl (qd _) ?_
 refine ldN 1 rfl (qd _) ?_
 refine ldN 2 rfl (qd _) ?_
 refine cz (qaw 1 (by decide)) ?_
 refine ce (v := fun m => .agg (e4 m)) (Φ := fun m => m < 115792089237316195423570985008687907853269984665640564039457584007913129639936 ∧ m % PP = (z % PP + (PP - 1 % PP)) % PP) (fun w _ => (qeR z 1 hz (by decide) w).mono fun e w' ⟨m, h1, h2, h3, h4⟩ => ⟨m, ⟨h1, h2⟩, h3, h4⟩) (fun m hm => ?_)
 refine ⟨.refl _, ?_⟩
 refine bu (c := pt x y m true) (by exact bd53 x y m true) ?_
 refine ⟨.refl _, ?_⟩
 refine sN 3 rfl (by rw [qo]; rfl) (by rw [Array.all_toList]; exact QW _ _ _ _) ?_ (by kernel_rfl)
 refine ldN 3 rfl (qo _ _ _ _) ?_
 exact ⟨fun w1 hs => ⟨x, y, m, true, ⟨⟨hx, hy, hm.1⟩, .inl ⟨rfl, rfl, rfl, made_res z m hm.2⟩⟩, rfl, hs.below⟩⟩
def SL : Nat := 37095705934669439343138083508754565189542113879843219016388785533085940283555
theorem SL_lt : SL < PP := by decide +kernel
theorem slope_pm : (PP - 121665) * Nm.pm PP 256 121666 (PP - 2) % PP = SL := by decide +kernel
theorem pp2_lt : PP - 2 < 2 ^ 256 := by decide +kernel
theorem slope_res (m1 m : Nat) (h1 : m1 % PP = PP - 121665) (h : m % PP = m1 * pwm 121666 (PP - 2) % PP) : m % PP = SL := by
 rw [h, mo_mul_l m1 (PP - 121665) _ (by rw [h1, Nat.mod_eq_of_lt (by have := QR; omega)]), qdG _ _ pp2_lt, slope_pm]
theorem slope_e : Ex 168 [] SL := by
 obtain ⟨m1, h1, k1⟩ := fneg_e (-121665) (by omega) (by omega)
 obtain ⟨m, h, k⟩ := over_e m1 121666 h1.1 (by decide)
 refine ⟨m, ⟨h.1, slope_res m1 m (by rw [h1.2]; decide +kernel) h.2⟩, fun w => ?_⟩
 refine qj qc Tryz.func168 rfl Tryz.ntmps168 rfl (St.start w) ?_
 intro b0
 refine cv k1 ?_
 refine cv (qaw 121666 (by decide)) ?_
 refine cv k ?_
 refine sN 0 rfl (by rw [qd]; rfl) (ql _) ?_ (by kernel_rfl)
 refine ldN 0 rfl (qd _) ?_
 exact rt rfl
theorem slope_any (w : World) : Calls Tryz.prog 168 #[] w (ElP SL w) := slope_e.el w
end
section
open Go.RowKit Go.Lib
theorem qeb (n : Nat) (h : n < 57896044618658097711785492504343953926634992332820282019728792003956564819968) : ∃ c : Nat, dg 256 n 31 = (c : Int) ∧ c < 128 := by
 refine ⟨n / 256 ^ 31 % 256, rfl, ?_⟩
 rw [show (256 : Nat) ^ 31 = 452312848583266388373324160190187140051835877600158453279131187530910662656 by decide +kernel]
 omega
theorem key_top (n : Nat) (h : n < 57896044618658097711785492504343953926634992332820282019728792003956564819968) (x : Int) (hx : x = dg 256 n 31 + 128) : row .u8 32 (upd (dg 256 n) 31 x) = k32 (n + 57896044618658097711785492504343953926634992332820282019728792003956564819968) := by
 refine Qb _ _ _ _ fun i hi => ?_
 by_cases e : i = 31
 · subst e
   rw [qu, hx]
   unfold dg
   rw [show (256 : Nat) ^ 31 = 452312848583266388373324160190187140051835877600158453279131187530910662656 by decide +kernel]
   omega
 · rw [qs _ _ _ _ e]
   unfold dg
   have e1 : 57896044618658097711785492504343953926634992332820282019728792003956564819968 = 256 ^ i * (256 * (128 * 256 ^ (30 - i))) := by
    rw [show 256 ^ i * (256 * (128 * 256 ^ (30 - i))) = 128 * (256 ^ i * 256 ^ (30 - i) * 256) by ac_rfl, ← Nat.pow_add, show i + (30 - i) = 30 by omega]
   rw [e1, Nat.add_mul_div_left _ _ (Nat.pow_pos (by omega)), Nat.add_mul_mod_self_left]
def keyn (X Y Z : Nat) : Nat := Y * pwm Z (PP - 2) % PP + X * pwm Z (PP - 2) % PP % 2 * 57896044618658097711785492504343953926634992332820282019728792003956564819968
theorem keyn_odd (X Y Z : Nat) (h : X * pwm Z (PP - 2) % PP % 2 = 1) : Y * pwm Z (PP - 2) % PP + 57896044618658097711785492504343953926634992332820282019728792003956564819968 = keyn X Y Z := by unfold keyn; rw [h, Nat.one_mul]
theorem qeT (X Y Z : Nat) (h : X * pwm Z (PP - 2) % PP % 2 = 0) : Y * pwm Z (PP - 2) % PP = keyn X Y Z := by unfold keyn; rw [h, Nat.zero_mul, Nat.add_zero]
theorem PP_255 : PP < 57896044618658097711785492504343953926634992332820282019728792003956564819968 := by decide +kernel
theorem over_cong (x z q X Z : Nat) (hx : x % PP = X) (hz : z % PP = Z) (hq : q % PP = x * pwm z (PP - 2) % PP) : q % PP = X * pwm Z (PP - 2) % PP := by
 rw [hq, ← hx, ← hz, qao, Nat.mod_mul_mod]
open Go.Sx
theorem qaa (n : Nat) : (k32 n).toList.all (·.oneCell') = true := by unfold k32 row; exact List.all_eq_true.2 fun v hv => Zv _ _ _ v hv
theorem orI_128 (a : Nat) (h : a < 128) : Qz .or .u8 (a : Int) 128 = (a : Int) + 128 := by
 have : (List.range 128).all (fun a => Qz .or .u8 (a : Int) 128 == (a : Int) + 128) = true := by decide +kernel
 simpa using List.all_eq_true.1 this a (by simpa using h)
theorem pkey_any (x y z1 : Nat) (b : Bool) (X Y Z : Nat) (h : zI x y z1 b X Y Z) (w : World) :
 Calls Tryz.prog 126 #[.agg (pt x y z1 b)] w fun e w' => e = .returned (.agg (k32 (keyn X Y Z))) ∧ Below w.heap.size w w' := by
 obtain ⟨QY, hQY⟩ : ∃ q, q = Y * pwm Z (PP - 2) % PP := ⟨_, rfl⟩
 obtain ⟨QX, hQX⟩ : ∃ q, q = X * pwm Z (PP - 2) % PP := ⟨_, rfl⟩
 have hQl : QY < 57896044618658097711785492504343953926634992332820282019728792003956564819968 := by rw [hQY]; exact Nat.lt_trans (Nat.mod_lt _ qw) PP_255
 have ov : ∀ x z Q, x < 115792089237316195423570985008687907853269984665640564039457584007913129639936 → z < 115792089237316195423570985008687907853269984665640564039457584007913129639936 → Q = x % PP * pwm (z % PP) (PP - 2) % PP → ∀ w, Calls Tryz.prog 167 ([.agg (e4 x), .agg (e4 z)] : List Value).toArray w fun e w' => ∃ q : Nat, (q < 115792089237316195423570985008687907853269984665640564039457584007913129639936 ∧ q % PP = Q) ∧ e = .returned (.agg (e4 q)) ∧ Below w.heap.size w w' := fun x z Q hx hz hQ w =>
  (over_any x z hx hz w).mono fun e w' ⟨q, h1, h2, h3, h4⟩ => ⟨q, ⟨h1, (over_cong x z q _ _ rfl rfl h2).trans hQ.symm⟩, h3, h4⟩
 refine qj (vs := [.agg (pt x y z1 b)]) qc Tryz.func126 rfl Tryz.ntmps126 rfl (St.start w) ?_
 intro b1 b2
 refine ldN 0 rfl (qo _ _ _ _) ?_
 refine ce (α := Nat × Nat × Nat) (v := fun u => .tuple #[.agg (e4 u.1), .agg (e4 u.2.1), .agg (e4 u.2.2)]) (Φ := fun u => (u.1 < 115792089237316195423570985008687907853269984665640564039457584007913129639936 ∧ u.2.1 < 115792089237316195423570985008687907853269984665640564039457584007913129639936 ∧ u.2.2 < 115792089237316195423570985008687907853269984665640564039457584007913129639936) ∧ u.1 % PP = X ∧ u.2.1 % PP = Y ∧ u.2.2 % PP = Z) (fun w _ => (qeN x y z1 b X Y Z h w).mono fun e w' ⟨x, y, z, h1, h2, h3, h4⟩ => ⟨(x, y, z), ⟨h1, h2⟩, h3, h4⟩) (fun u hu => ?_)
 obtain ⟨mx, my, mz⟩ := u
 obtain ⟨⟨g1, g2, g3⟩, r1, r2, r3⟩ := hu
 simp only at g1 g2 g3 r1 r2 r3
 intro b3 b4 b5
 refine sN 2 (d := e4 mx) rfl (by rw [qd]; rfl) (ql _) ?_ (by kernel_rfl)
 refine sN 3 (d := e4 my) rfl (by rw [qd]; rfl) (ql _) ?_ (by kernel_rfl)
 refine sN 4 (d := e4 mz) rfl (by rw [qd]; rfl) (ql _) ?_ (by kernel_rfl)
 refine ldN 3 rfl (qd _) ?_
 refine ldN 4 rfl (qd _) ?_
 refine ce (v := fun m => .agg (e4 m)) (fun w _ => ov my mz QY g2 g3 (by rw [r2, r3]; exact hQY) w) (fun q1 hq1 => ?_)
 refine cv (v := .agg (k32 QY)) (fun w => by have := key_any q1 hq1.1 w; rwa [hq1.2] at this) ?_
 intro b6
 refine sN 5 (d := k32 QY) rfl (by rw [qf]; rfl) (qaa _) ?_ (by kernel_rfl)
 refine ldN 2 rfl (qd _) ?_
 refine ldN 4 rfl (qd _) ?_
 refine ce (v := fun m => .agg (e4 m)) (fun w _ => ov mx mz QX g1 g3 (by rw [r1, r3]; exact hQX) w) (fun q2 hq2 => ?_)
 rcases Nat.mod_two_eq_zero_or_one QX with hp | hp
 · refine cv (even_yes q2 hq2.1 (by rw [hq2.2]; exact hp)) ?_
   refine cf rfl ?_
   refine ldN 5 rfl (qf _) ?_
   refine sN 1 (d := k32 QY) rfl (by rw [qf]; rfl) (qaa _) ?_ (by kernel_rfl)
   refine ldN 1 rfl (qf _) ?_
   refine rt ?_
   rw [hQX] at hp
   rw [hQY, qeT X Y Z hp]; rfl
 · refine cv (even_no q2 hq2.1 (by rw [hq2.2]; exact hp)) ?_
   refine ct rfl ?_
   obtain ⟨c, hc, hcl⟩ := qeb QY hQl
   refine ⟨by decide, by decide, ?_⟩
   refine ld1 5 rfl (v := .int .u8 c) (by rw [← hc]; exact qP .u8 32 _ 31 (by decide)) ?_
   refine ⟨by decide, by decide, ?_⟩
   refine s1e 5 (k32 (QY + 57896044618658097711785492504343953926634992332820282019728792003956564819968)) rfl (by rw [qf]; decide) (by rw [orI_128 c hcl, ← key_top QY hQl ((c : Int) + 128) (by rw [hc])]; exact zS _ _ _ _ _) ?_
   refine ldN 5 rfl (qf _) ?_
   refine sN 1 (d := k32 (QY + 57896044618658097711785492504343953926634992332820282019728792003956564819968)) rfl (by rw [qf]; rfl) (qaa _) ?_ (by kernel_rfl)
   refine ldN 1 rfl (qf _) ?_
   refine rt ?_
   rw [hQX] at hp
   rw [hQY, keyn_odd X Y Z hp]; rfl
end
section
open Go.RowKit Go.Sx
def cx (Y : Nat) : Nat := (Y * Y % PP + (PP - 1)) % PP * pwm ((SL * (Y * Y % PP) % PP + 1) % PP) (PP - 2) % PP
def bes (C : Nat) (even : Bool) (Y : Nat) : Bool × Nat × Nat :=
 if zw C = true ∧ ¬ (rt3 C = 0 ∧ even = false) then (true, (if even = true then rt3 C else (0 % PP + (PP - rt3 C)) % PP), Y) else (false, 0, 1)
theorem bes_no1 (C : Nat) (even : Bool) (Y : Nat) (h : zw C = false) : bes C even Y = (false, 0, 1) := by
 unfold bes; rw [if_neg (by rw [h]; simp)]
theorem bes_no2 (C : Nat) (Y : Nat) (h : rt3 C = 0) : bes C false Y = (false, 0, 1) := by
 unfold bes; rw [if_neg (by simp [h])]
theorem qb4 (C : Nat) (Y : Nat) (h : zw C = true) : bes C true Y = (true, rt3 C, Y) := by
 unfold bes; rw [if_pos ⟨h, by simp⟩, if_pos rfl]
theorem bes_odd (C : Nat) (Y : Nat) (h : zw C = true) (h0 : ¬ rt3 C = 0) : bes C false Y = (true, (0 % PP + (PP - rt3 C)) % PP, Y) := by
 unfold bes; rw [if_pos ⟨h, fun hh => h0 hh.1⟩, if_neg (by simp)]
def BeP (r : Bool × Nat × Nat) (w : World) (e : Ending) (w' : World) : Prop :=
 ∃ (x y z1 : Nat) (b : Bool), zI x y z1 b r.2.1 r.2.2 (1 % PP) ∧ e = .returned (.tuple #[.agg (pt x y z1 b), .bool r.1]) ∧ Below w.heap.size w w'
theorem qaJ : 1 % PP = 1 := Nat.mod_eq_of_lt (by have := QR; omega)
theorem root_un2 (q C : Nat) (ok : Bool) (R : Nat) (hq : q < 115792089237316195423570985008687907853269984665640564039457584007913129639936) (h : q % PP = C) (hok : ok = zw C) (hR : R = rt3 C) (w : World) :
 Calls Tryz.prog 212 #[.agg (e4 q)] w fun e w' => ∃ m : Nat, m < 115792089237316195423570985008687907853269984665640564039457584007913129639936 ∧ m % PP = R ∧ e = .returned (.tuple #[.agg (e4 m), .bool ok]) ∧ Below w.heap.size w w' := by
 have := froot_any q hq w
 rw [h] at this
 rw [hok, hR]
 exact this
theorem is_zero4 (q R : Nat) (z : Bool) (hq : q < 115792089237316195423570985008687907853269984665640564039457584007913129639936) (h : q % PP = R) (hz : z = decide (R = 0 % PP)) (w : World) :
 Calls Tryz.prog 213 #[.agg (e4 q), .agg (e4 0)] w fun e w' => e = .returned (.bool z) ∧ Below w.heap.size w w' := by
 rw [hz, ← h]; exact is_any q 0 hq (by decide) w
def El (r m : Nat) : Prop := m < 115792089237316195423570985008687907853269984665640564039457584007913129639936 ∧ m % PP = r
theorem el_minus {a b A B R : Nat} (ha : El A a) (hb : El B b) (hR : R = (A + (PP - B)) % PP) (w : World) : Calls Tryz.prog 174 ([.agg (e4 a), .agg (e4 b)] : List Value).toArray w fun e w' => ∃ m, El R m ∧ e = .returned (.agg (e4 m)) ∧ Below w.heap.size w w' :=
 (qeR a b ha.1 hb.1 w).mono fun _ _ ⟨m, h1, h2, h3, h4⟩ => ⟨m, ⟨h1, by rw [hR, h2, ← ha.2, ← hb.2]⟩, h3, h4⟩
theorem qea {x y z1 : Nat} {b : Bool} {X Y Z : Nat} (h : zI x y z1 b X Y Z) (w : World) : Calls Tryz.prog 171 ([.agg (pt x y z1 b)] : List Value).toArray w fun e w' => ∃ x : Nat × Nat × Nat, (El X x.1 ∧ El Y x.2.1 ∧ El Z x.2.2) ∧ e = .returned (.tuple #[.agg (e4 x.1), .agg (e4 x.2.1), .agg (e4 x.2.2)]) ∧ Below w.heap.size w w' :=
 (qeN x y z1 b X Y Z h w).mono fun _ _ ⟨x, y, z, ⟨h1, h2, h3⟩, ⟨k1, k2, k3⟩, h4, h5⟩ => ⟨(x, y, z), ⟨⟨h1, k1⟩, ⟨h2, k2⟩, ⟨h3, k3⟩⟩, h4, h5⟩
theorem qdc {x y z X Y Z : Nat} (hx : El X x) (hy : El Y y) (hz : El Z z) (w : World) : Calls Tryz.prog 173 ([.agg (e4 x), .agg (e4 y), .agg (e4 z)] : List Value).toArray w fun e w' => ∃ x : Nat × Nat × Nat × Bool, zI x.1 x.2.1 x.2.2.1 x.2.2.2 X Y Z ∧ e = .returned (.agg (pt x.1 x.2.1 x.2.2.1 x.2.2.2)) ∧ Below w.heap.size w w' :=
 (made_any x y z hx.1 hy.1 hz.1 w).mono fun _ _ ⟨x, y, z, b, h1, h2, h3⟩ => ⟨(x, y, z, b), by rw [hx.2, hy.2, hz.2] at h1; exact h1, h2, h3⟩
theorem Qy {a b A B R : Nat} (ha : El A a) (hb : El B b) (hR : R = A * B % PP) : ∃ m, El R m ∧ ∀ w, Calls Tryz.prog 210 ([.agg (e4 a), .agg (e4 b)] : List Value).toArray w fun e w' => e = .returned (.agg (e4 m)) ∧ Below w.heap.size w w' :=
 let ⟨m, h, k⟩ := Qs a b ha.1 hb.1; ⟨m, ⟨h.1, by rw [hR, h.2, ← ha.2, ← hb.2, ← Nat.mul_mod]⟩, k⟩
theorem qbX {a b A B R : Nat} (ha : El A a) (hb : El B b) (hR : R = (A + B) % PP) : ∃ m, El R m ∧ ∀ w, Calls Tryz.prog 211 ([.agg (e4 a), .agg (e4 b)] : List Value).toArray w fun e w' => e = .returned (.agg (e4 m)) ∧ Below w.heap.size w w' :=
 let ⟨m, h, k⟩ := plus_e a b ha.1 hb.1; ⟨m, ⟨h.1, by rw [hR, h.2, ← ha.2, ← hb.2, ← Nat.add_mod]⟩, k⟩
theorem qbY {a b A B R : Nat} (ha : El A a) (hb : El B b) (hR : R = (A + (PP - B)) % PP) : ∃ m, El R m ∧ ∀ w, Calls Tryz.prog 174 ([.agg (e4 a), .agg (e4 b)] : List Value).toArray w fun e w' => e = .returned (.agg (e4 m)) ∧ Below w.heap.size w w' :=
 let ⟨m, h, k⟩ := qbP a b ha.1 hb.1; ⟨m, ⟨h.1, by rw [hR, h.2, ← ha.2, ← hb.2]⟩, k⟩
theorem ex_over {a b A B R : Nat} (ha : El A a) (hb : El B b) (hR : R = A * pwm B (PP - 2) % PP) : ∃ m, El R m ∧ ∀ w, Calls Tryz.prog 167 ([.agg (e4 a), .agg (e4 b)] : List Value).toArray w fun e w' => e = .returned (.agg (e4 m)) ∧ Below w.heap.size w w' :=
 let ⟨m, h, k⟩ := over_e a b ha.1 hb.1; ⟨m, ⟨h.1, by rw [hR, h.2, ← ha.2, ← hb.2, qao, mo_mul_l a (a % PP) _ (by rw [Nat.mod_mod])]⟩, k⟩
theorem ex_slope : ∃ m, El SL m ∧ ∀ w, Calls Tryz.prog 168 ([] : List Value).toArray w fun e w' => e = .returned (.agg (e4 m)) ∧ Below w.heap.size w w' := slope_e
abbrev pq (b : Nat) : Value := .pointer (some ⟨b, 0, none⟩)
abbrev pt0 : Array Value := #[.int .u64 0, .int .u64 0, .int .u64 0, .int .u64 0, .int .u64 0, .int .u64 0, .int .u64 0, .int .u64 0, .int .u64 0, .int .u64 0, .int .u64 0, .int .u64 0, .bool false]
theorem el_slope (w : World) : Calls Tryz.prog 168 ([] : List Value).toArray w fun e w' => ∃ m, El SL m ∧ e = .returned (.agg (e4 m)) ∧ Below w.heap.size w w' := (slope_any w).mono fun _ _ ⟨m, h1, h2, h3, h4⟩ => ⟨m, ⟨h1, h2⟩, h3, h4⟩
theorem el_root {a A : Nat} (ha : El A a) (w : World) : Calls Tryz.prog 212 ([.agg (e4 a)] : List Value).toArray w fun e w' => ∃ m, El (rt3 A) m ∧ e = .returned (.tuple #[.agg (e4 m), .bool (zw A)]) ∧ Below w.heap.size w w' :=
 (root_un2 a A _ _ ha.1 ha.2 rfl rfl w).mono fun _ _ ⟨m, h1, h2, h3, h4⟩ => ⟨m, ⟨h1, h2⟩, h3, h4⟩
theorem bes_C (Y : Nat) : (Y * Y % PP + (PP - 1 % PP)) % PP * pwm ((SL * (Y * Y % PP) % PP + 1 % PP) % PP) (PP - 2) % PP = cx Y := by
 unfold cx; rw [qaJ]
theorem qei (y : Nat) (even : Bool) (hy : y < 115792089237316195423570985008687907853269984665640564039457584007913129639936) (w : World) :
 Calls Tryz.prog 161 #[.agg (e4 y), .bool even] w (BeP (bes (cx (y % PP)) even (y % PP)) w) := by
 obtain ⟨Y, hY⟩ : ∃ Y, Y = y % PP := ⟨_, rfl⟩
 have hy1 : El Y y := ⟨hy, hY.symm⟩
 have hC := bes_C Y
 rw [← hY]
 refine (enter (R := fun v w' => ∃ (x y z1 : Nat) (b : Bool), zI x y z1 b (bes (cx Y) even Y).2.1 (bes (cx Y) even Y).2.2 (1 % PP) ∧ v = .tuple #[.agg (pt x y z1 b), .bool (bes (cx Y) even Y).1] ∧ Below w.heap.size w w') qc Tryz.func161 rfl Tryz.ntmps161 rfl (St.start w) ?_).mono (fun e w' ⟨v, he, x, y, z1, b, h1, h2, h3⟩ => ⟨x, y, z1, b, h1, by rw [he, h2], h3⟩)
 have ho1 : El (1 % PP) 1 := ⟨by decide, rfl⟩
 obtain ⟨sq, hsq, ksq⟩ := Qy hy1 hy1 rfl
 obtain ⟨n1, hn1, kn1⟩ := qbY hsq ho1 rfl
 obtain ⟨n2, hn2, kn2⟩ := ex_slope
 obtain ⟨n3, hn3, kn3⟩ := Qy hn2 hsq rfl
 obtain ⟨n4, hn4, kn4⟩ := qbX hn3 ho1 rfl
 obtain ⟨n5, hn5, kn5⟩ := ex_over hn1 hn4 rfl
 intro b2 b4
 refine cut (α := Nat × Nat) (fun x => True) (fun x => ⟨[(6, pq x.1), (7, pq x.2), (2, pq b2), (4, pq b4), (1, .bool even), (11, .agg (e4 1)), (14, .agg (e4 sq))], [cl b2 (e4 y) 180, cl b4 pt0 182, cl x.1 (e4 1) 180, cl x.2 (e4 sq) 180], []⟩) ?_ ?_
 · let Sl : Fr := [(2, pq b2), (4, pq b4), (1, .bool even), (11, .agg (e4 1)), (14, .agg (e4 sq))]
   let En : List Ent := [cl b2 (e4 y) 180, cl b4 pt0 182]
   let Zr : Array Value := #[.int .u64 0, .int .u64 0, .int .u64 0, .int .u64 0]
   refine drg En [0, 1, 2, 3] 4 qc qe (by kernel_rfl) (by kernel_rfl) (.refl _) (fun T g => ?_)
   have H0 : ∀ (b6 b7 : Nat), T 0 #[tt,tt,tt,tt,tt,tt,tt,tt] ⟨(6, pq b6) :: (7, pq b7) :: Sl, En ++ [cl b6 (e4 1) 180, cl b7 (e4 sq) 180], []⟩ := by
    intro b6 b7
    refine g.fin _ _ _ (by kernel_rfl) ?_
    exact ⟨(b6, b7), trivial, ⟨rfl, rfl, rfl, rfl, rfl, rfl, rfl, trivial⟩, .refl _, rfl⟩
   have H1 : ∀ (b6 b7 : Nat), T 1 #[tt,tt,tt,tt,tt,tt,tt,ff] ⟨(6, pq b6) :: (7, pq b7) :: Sl, En ++ [cl b6 (e4 1) 180, cl b7 Zr 180], []⟩ := by
    intro b6 b7
    refine g.one _ _ _ 7 (by kernel_rfl) (qk _) ?_
    refine sN 3 rfl (by rw [qd]; rfl) (ql _) ?_ (by kernel_rfl)
    refine ⟨qk _, ?_⟩
    exact g.go (H0 b6 b7) (qk _) ⟨rfl, rfl, rfl, rfl, rfl, rfl, rfl, trivial⟩ ⟨_, .refl _, .refl _⟩ rfl
   have H2 : ∀ (b6 b7 : Nat), T 2 #[tt,tt,tt,tt,tt,tt,ff,ff] ⟨(6, pq b6) :: (7, pq b7) :: Sl, En ++ [cl b6 Zr 180, cl b7 Zr 180], []⟩ := by
    intro b6 b7
    refine g.one _ _ _ 6 (by kernel_rfl) (qk _) ?_
    refine sN 2 rfl (by rw [qd]; rfl) (ql _) ?_ (by kernel_rfl)
    refine ⟨qk _, ?_⟩
    exact g.go (H1 b6 b7) (qk _) ⟨rfl, rfl, rfl, rfl, rfl, rfl, rfl, trivial⟩ ⟨_, .refl _, .refl _⟩ rfl
   have H3 : ∀ (b6 : Nat), T 3 #[tt,tt,tt,tt,tt,ff,ff,ff] ⟨(6, pq b6) :: Sl, En ++ [cl b6 Zr 180], []⟩ := by
    intro b6
    refine g.one _ _ _ 5 (by kernel_rfl) (qk _) ?_
    intro b7
    refine ⟨qk _, ?_⟩
    exact g.go (H2 b6 b7) (qk _) ⟨rfl, rfl, rfl, rfl, rfl, rfl, rfl, trivial⟩ ⟨_, .refl _, .refl _⟩ rfl
   have H4 : ∀ (b7 : Nat), T 3 #[tt,tt,tt,tt,ff,tt,ff,ff] ⟨(7, pq b7) :: Sl, En ++ [cl b7 Zr 180], []⟩ := by
    intro b7
    refine g.one _ _ _ 4 (by kernel_rfl) (qk _) ?_
    intro b6
    refine ⟨qk _, ?_⟩
    exact g.go (H2 b6 b7) (qk _) ⟨rfl, rfl, rfl, rfl, rfl, rfl, rfl, trivial⟩ ⟨_, Zz [_, _] _ [_], .refl _⟩ rfl
   have H : T 4 #[tt,tt,tt,tt,ff,ff,ff,ff] ⟨Sl, En, []⟩ := by
    refine g.two _ _ _ 4 5 (by kernel_rfl) (qk _) ?_ ?_
    · intro b6
      refine ⟨qk _, ?_⟩
      exact g.go (H3 b6) (qk _) ⟨rfl, rfl, rfl, rfl, rfl, rfl, trivial⟩ ⟨_, .refl _, .refl _⟩ rfl
    · intro b7
      refine ⟨qk _, ?_⟩
      exact g.go (H4 b7) (qk _) ⟨rfl, rfl, rfl, rfl, rfl, rfl, trivial⟩ ⟨_, .refl _, .refl _⟩ rfl
   refine cz (qaw 1 (by decide)) ?_
   refine ldN 0 rfl (qd _) ?_
   refine ldN 0 rfl (qd _) ?_
   refine cz ksq ?_
   exact g.go H (qk _) ⟨rfl, rfl, rfl, rfl, rfl, trivial⟩ ⟨_, .refl _, .refl _⟩ rfl
 · rintro ⟨b6, b7⟩ -
   refine cut (α := Nat × Nat) (fun x => El (rt3 (cx Y)) x.1) (fun x => ⟨[(1, .bool even), (2, pq b2), (4, pq b4), (6, pq b6), (8, pq x.2), (9, .bool (zw (cx Y)))], [cl b2 (e4 y) 180, cl b4 pt0 182, cl b6 (e4 1) 180, cl b7 (e4 sq) 180, cl x.2 (e4 x.1) 180], []⟩) ?_ ?_
   · refine drs [cl b2 (e4 y) 180, cl b4 pt0 182, cl b6 (e4 1) 180, cl b7 (e4 sq) 180] [] (.t 0 (.t 1 (.t 2 (.t 3 (.t 4 (.t 5 (.t 6 (.t 7 (.t 8 (.b 9 13 (.t 10 (.t 11 (.t 12 (.n 13 (.n 14 (.n 15 .nil)))))) (.n 9 (.t 10 (.t 11 (.t 12 (.n 14 (.n 15 .nil)))))))))))))))) qc qe (by kernel_rfl) (.refl _) ?_
     refine ldN 3 rfl (qd _) ?_
     refine ldN 2 rfl (qd _) ?_
     refine cz kn1 ?_
     refine cz kn2 ?_
     refine ldN 3 rfl (qd _) ?_
     refine cz kn3 ?_
     refine ldN 2 rfl (qd _) ?_
     refine cz kn4 ?_
     refine cz kn5 ?_
     refine ⟨?_, ?_⟩
     · refine ce (fun w _ => el_root hn5 w) (fun q hq => ?_)
       refine ⟨qk _, ?_⟩
       intro b8
       refine ⟨qk _, ?_⟩
       refine sN 4 rfl (by rw [qd]; rfl) (ql _) ?_ (by kernel_rfl)
       refine ⟨qk _, ?_⟩
       refine ⟨qk _, ?_⟩
       exact ⟨(q, b8), hC ▸ hq, ⟨rfl, rfl, rfl, rfl, rfl, rfl, trivial⟩, .refl _, rfl⟩
     · intro b8
       refine ⟨qk _, ?_⟩
       refine ce (fun w _ => el_root hn5 w) (fun q hq => ?_)
       refine ⟨qk _, ?_⟩
       refine sN 4 rfl (by rw [qd]; rfl) (ql _) ?_ (by kernel_rfl)
       refine ⟨qk _, ?_⟩
       refine ⟨qk _, ?_⟩
       exact ⟨(q, b8), hC ▸ hq, ⟨rfl, rfl, rfl, rfl, rfl, rfl, trivial⟩, .refl _, rfl⟩
   · rintro ⟨q, b8⟩ hq
     dsimp only at hq
     refine ldN 4 rfl (qd _) ?_
     refine bu (c := e4 0) (by kernel_rfl) ?_
     refine cv (fun w => is_zero4 q (rt3 (cx Y)) _ hq.1 hq.2 rfl w) ?_
     have hno : ∀ v : Bool × Nat × Nat, bes (cx Y) even Y = (false, 0, 1) → zI 0 0 0 false (bes (cx Y) even Y).2.1 (bes (cx Y) even Y).2.2 (1 % PP) := fun _ h => by
      rw [h]; exact ⟨⟨by decide, by decide, by decide⟩, .inr ⟨rfl, rfl, qaJ, rfl⟩⟩
     have no : bes (cx Y) even Y = (false, 0, 1) → ∀ w1, St [] w w1 [cl b2 (e4 y) 180, cl b4 (pt 0 0 0 false) 182, cl b6 (e4 1) 180, cl b7 (e4 sq) 180, cl b8 (e4 q) 180] → ∃ (x y z1 : Nat) (b : Bool), zI x y z1 b (bes (cx Y) even Y).2.1 (bes (cx Y) even Y).2.2 (1 % PP) ∧ Value.tuple #[.agg (pt 0 0 0 false), .bool false] = .tuple #[.agg (pt x y z1 b), .bool (bes (cx Y) even Y).1] ∧ Below w.heap.size w w1 := fun h w1 hs => ⟨0, 0, 0, false, hno (false, 0, 1) h, by rw [h], hs.below⟩
     have hq0 : El (0 % PP) 0 := ⟨by decide, rfl⟩
     cases hok : zw (cx Y) with
     | false =>
      repeat (first | refine cf rfl ?_ | refine ct rfl ?_)
      refine bu (c := pt 0 0 0 false) (by kernel_rfl) ?_
      refine sN 1 rfl (by rw [qo]; rfl) (by rw [Array.all_toList]; exact QW _ _ _ _) ?_ (by kernel_rfl)
      refine ldN 1 rfl (qo _ _ _ _) ?_
      exact ⟨fun w1 hs => no (bes_no1 (cx Y) even Y hok) w1 hs⟩
     | true =>
      cases even with
      | true =>
       have hb := qb4 (cx Y) Y hok
       cases decide (rt3 (cx Y) = 0 % PP) <;>
       · repeat (first | refine cf rfl ?_ | refine ct rfl ?_)
         refine ldN 4 rfl (qd _) ?_
         refine ldN 0 rfl (qd _) ?_
         refine ldN 2 rfl (qd _) ?_
         refine ce (fun w _ => qdc hq hy1 ho1 w) (fun r hr => ?_)
         refine sN 1 rfl (by rw [qo]; rfl) (by rw [Array.all_toList]; exact QW _ _ _ _) ?_ (by kernel_rfl)
         refine ldN 1 rfl (qo _ _ _ _) ?_
         exact ⟨fun w1 hs => ⟨_, _, _, _, by rw [hb]; exact hr, by rw [hb]; rfl, hs.below⟩⟩
      | false =>
       cases hz : decide (rt3 (cx Y) = 0 % PP) with
       | true =>
        repeat (first | refine cf rfl ?_ | refine ct rfl ?_)
        refine bu (c := pt 0 0 0 false) (by kernel_rfl) ?_
        refine sN 1 rfl (by rw [qo]; rfl) (by rw [Array.all_toList]; exact QW _ _ _ _) ?_ (by kernel_rfl)
        refine ldN 1 rfl (qo _ _ _ _) ?_
        exact ⟨fun w1 hs => no (bes_no2 (cx Y) Y (of_decide_eq_true hz)) w1 hs⟩
       | false =>
        have hb := bes_odd (cx Y) Y hok (fun h => of_decide_eq_false hz h)
        repeat (first | refine cf rfl ?_ | refine ct rfl ?_)
        refine bu (c := e4 0) (by kernel_rfl) ?_
        refine ldN 4 rfl (qd _) ?_
        refine ce (fun w _ => el_minus hq0 hq rfl w) (fun q2 hq2 => ?_)
        refine sN 4 rfl (by rw [qd]; rfl) (ql _) ?_ (by kernel_rfl)
        refine ldN 4 rfl (qd _) ?_
        refine ldN 0 rfl (qd _) ?_
        refine ldN 2 rfl (qd _) ?_
        refine ce (fun w _ => qdc hq2 hy1 ho1 w) (fun r hr => ?_)
        refine sN 1 rfl (by rw [qo]; rfl) (by rw [Array.all_toList]; exact QW _ _ _ _) ?_ (by kernel_rfl)
        refine ldN 1 rfl (qo _ _ _ _) ?_
        exact ⟨fun w1 hs => ⟨_, _, _, _, by rw [hb]; exact hr, by rw [hb]; rfl, hs.below⟩⟩
end
section
open Go.RowKit Go.Sx
def qaq (D X1 Y1 Z1 X2 Y2 Z2 : Nat) : Nat × Nat × Nat :=
 let A := Z1 * Z2 % PP
 let XX := X1 * X2 % PP
 let YY := Y1 * Y2 % PP
 let B := A * A % PP
 let E1 := D * XX % PP
 let E := E1 * YY % PP
 let F := (B + (PP - E)) % PP
 let G := (B + E) % PP
 let S1 := (X1 + Y1) % PP
 let S2 := (X2 + Y2) % PP
 let S3 := S1 * S2 % PP
 let S4 := (S3 + (PP - XX)) % PP
 let CR := (S4 + (PP - YY)) % PP
 let T1 := A * F % PP
 let T2 := A * G % PP
 let T3 := (YY + XX) % PP
 (T1 * CR % PP, T2 * T3 % PP, F * G % PP)
theorem padd_def (D X1 Y1 Z1 X2 Y2 Z2 A XX YY Bq E1 E F G S1 S2 S3 S4 CR T1 T2 T3 X3 Y3 Z3 : Nat) (hA : A = Z1 * Z2 % PP) (hXX : XX = X1 * X2 % PP) (hYY : YY = Y1 * Y2 % PP) (hBq : Bq = A * A % PP) (hE1 : E1 = D * XX % PP) (hE : E = E1 * YY % PP) (hF : F = (Bq + (PP - E)) % PP) (hG : G = (Bq + E) % PP) (hS1 : S1 = (X1 + Y1) % PP) (hS2 : S2 = (X2 + Y2) % PP) (hS3 : S3 = S1 * S2 % PP) (hS4 : S4 = (S3 + (PP - XX)) % PP) (hCR : CR = (S4 + (PP - YY)) % PP) (hT1 : T1 = A * F % PP) (hT2 : T2 = A * G % PP) (hT3 : T3 = (YY + XX) % PP) (hX3 : X3 = T1 * CR % PP) (hY3 : Y3 = T2 * T3 % PP) (hZ3 : Z3 = F * G % PP) : qaq D X1 Y1 Z1 X2 Y2 Z2 = (X3, Y3, Z3) := by
 unfold qaq
 rw [hX3, hY3, hZ3, hT1, hT2, hT3, hCR, hS4, hS3, hS1, hS2, hF, hG, hE, hE1, hBq, hA, hXX, hYY]
theorem add_of (d D : Nat) (hd : d < 115792089237316195423570985008687907853269984665640564039457584007913129639936) (hdD : d % PP = D) (x1 y1 c1 : Nat) (b1 : Bool) (X1 Y1 Z1 : Nat) (p1 : zI x1 y1 c1 b1 X1 Y1 Z1) (x2 y2 c2 : Nat) (b2 : Bool) (X2 Y2 Z2 : Nat) (p2 : zI x2 y2 c2 b2 X2 Y2 Z2) (w : World) :
 Calls Tryz.prog 169 #[.agg (e4 d), .agg (pt x1 y1 c1 b1), .agg (pt x2 y2 c2 b2)] w (PtP (qaq D X1 Y1 Z1 X2 Y2 Z2).1 (qaq D X1 Y1 Z1 X2 Y2 Z2).2.1 (qaq D X1 Y1 Z1 X2 Y2 Z2).2.2 w) := by
 have hd : El D d := ⟨hd, hdD⟩
 obtain ⟨A, hA⟩ : ∃ v, v = Z1 * Z2 % PP := ⟨_, rfl⟩
 obtain ⟨XX, hXX⟩ : ∃ v, v = X1 * X2 % PP := ⟨_, rfl⟩
 obtain ⟨YY, hYY⟩ : ∃ v, v = Y1 * Y2 % PP := ⟨_, rfl⟩
 obtain ⟨Bq, hBq⟩ : ∃ v, v = A * A % PP := ⟨_, rfl⟩
 obtain ⟨E1, hE1⟩ : ∃ v, v = D * XX % PP := ⟨_, rfl⟩
 obtain ⟨E, hE⟩ : ∃ v, v = E1 * YY % PP := ⟨_, rfl⟩
 obtain ⟨F, hF⟩ : ∃ v, v = (Bq + (PP - E)) % PP := ⟨_, rfl⟩
 obtain ⟨G, hG⟩ : ∃ v, v = (Bq + E) % PP := ⟨_, rfl⟩
 obtain ⟨S1, hS1⟩ : ∃ v, v = (X1 + Y1) % PP := ⟨_, rfl⟩
 obtain ⟨S2, hS2⟩ : ∃ v, v = (X2 + Y2) % PP := ⟨_, rfl⟩
 obtain ⟨S3, hS3⟩ : ∃ v, v = S1 * S2 % PP := ⟨_, rfl⟩
 obtain ⟨S4, hS4⟩ : ∃ v, v = (S3 + (PP - XX)) % PP := ⟨_, rfl⟩
 obtain ⟨CR, hCR⟩ : ∃ v, v = (S4 + (PP - YY)) % PP := ⟨_, rfl⟩
 obtain ⟨T1, hT1⟩ : ∃ v, v = A * F % PP := ⟨_, rfl⟩
 obtain ⟨T2, hT2⟩ : ∃ v, v = A * G % PP := ⟨_, rfl⟩
 obtain ⟨T3, hT3⟩ : ∃ v, v = (YY + XX) % PP := ⟨_, rfl⟩
 obtain ⟨X3, hX3⟩ : ∃ v, v = T1 * CR % PP := ⟨_, rfl⟩
 obtain ⟨Y3, hY3⟩ : ∃ v, v = T2 * T3 % PP := ⟨_, rfl⟩
 obtain ⟨Z3, hZ3⟩ : ∃ v, v = F * G % PP := ⟨_, rfl⟩
 have hpd := padd_def D X1 Y1 Z1 X2 Y2 Z2 A XX YY Bq E1 E F G S1 S2 S3 S4 CR T1 T2 T3 X3 Y3 Z3 hA hXX hYY hBq hE1 hE hF hG hS1 hS2 hS3 hS4 hCR hT1 hT2 hT3 hX3 hY3 hZ3
 rw [hpd]
 clear hpd
 refine (enter (R := fun v w' => ∃ (x y z1 : Nat) (b : Bool), zI x y z1 b X3 Y3 Z3 ∧ v = .agg (pt x y z1 b) ∧ Below w.heap.size w w') qc Tryz.func169 rfl Tryz.ntmps169 rfl (St.start w) ?_).mono (fun e w' ⟨v, he, x, y, z1, b, h1, h2, h3⟩ => ⟨x, y, z1, b, h1, by rw [he, h2], h3⟩)
 intro b3 b4 b5 b6
 refine ldN 1 rfl (qo _ _ _ _) ?_
 refine ce (fun w _ => qea p1 w) (fun u hu => ?_)
 obtain ⟨u1, u2, u3⟩ := u
 obtain ⟨hu1, hu2, hu3⟩ := hu
 intro b7 b8 b9
 refine sN 4 rfl (by rw [qd]; rfl) (ql _) ?_ (by kernel_rfl)
 refine sN 5 rfl (by rw [qd]; rfl) (ql _) ?_ (by kernel_rfl)
 refine sN 6 rfl (by rw [qd]; rfl) (ql _) ?_ (by kernel_rfl)
 refine ldN 2 rfl (qo _ _ _ _) ?_
 refine ce (fun w _ => qea p2 w) (fun v hv => ?_)
 obtain ⟨v1, v2, v3⟩ := v
 obtain ⟨hv1, hv2, hv3⟩ := hv
 intro b10 b11 b12
 refine sN 7 rfl (by rw [qd]; rfl) (ql _) ?_ (by kernel_rfl)
 refine sN 8 rfl (by rw [qd]; rfl) (ql _) ?_ (by kernel_rfl)
 refine sN 9 rfl (by rw [qd]; rfl) (ql _) ?_ (by kernel_rfl)
 dsimp only at hu1 hu2 hu3 hv1 hv2 hv3
 obtain ⟨a, ha, ka⟩ := Qy hu3 hv3 hA
 obtain ⟨xx, hxx, kxx⟩ := Qy hu1 hv1 hXX
 obtain ⟨yy, hyy, kyy⟩ := Qy hu2 hv2 hYY
 obtain ⟨bq, hbq, kbq⟩ := Qy ha ha hBq
 obtain ⟨e1, he1, ke1⟩ := Qy hd hxx hE1
 obtain ⟨ee, hee, kee⟩ := Qy he1 hyy hE
 obtain ⟨f, hf, kf⟩ := qbY hbq hee hF
 obtain ⟨gg, hgg, kgg⟩ := qbX hbq hee hG
 obtain ⟨s1, hs1, ks1⟩ := qbX hu1 hu2 hS1
 obtain ⟨s2, hs2, ks2⟩ := qbX hv1 hv2 hS2
 obtain ⟨s3, hs3, ks3⟩ := Qy hs1 hs2 hS3
 obtain ⟨s4, hs4, ks4⟩ := qbY hs3 hxx hS4
 obtain ⟨cr, hcr, kcr⟩ := qbY hs4 hyy hCR
 obtain ⟨t1, ht1, kt1⟩ := Qy ha hf hT1
 obtain ⟨x3, hx3, kx3⟩ := Qy ht1 hcr hX3
 obtain ⟨t2, ht2, kt2⟩ := Qy ha hgg hT2
 obtain ⟨t3, ht3, kt3⟩ := qbX hyy hxx hT3
 obtain ⟨y3, hy3, ky3⟩ := Qy ht2 ht3 hY3
 obtain ⟨z3, hz3, kz3⟩ := Qy hf hgg hZ3
 refine cut (α := Nat × Nat × Nat) (fun x => True) (fun x => ⟨[(13, pq x.1), (14, pq x.2.1), (15, pq x.2.2), (3, pq b3), (4, pq b4), (5, pq b5), (6, pq b6), (7, pq b7), (8, pq b8), (9, pq b9), (10, pq b10), (11, pq b11), (12, pq b12), (35, .agg (e4 a)), (38, .agg (e4 xx)), (41, .agg (e4 yy))], [cl b3 (e4 d) 244, cl b4 (pt x1 y1 c1 b1) 182, cl b5 (pt x2 y2 c2 b2) 182, cl b6 pt0 182, cl b7 (e4 u1) 180, cl b8 (e4 u2) 180, cl b9 (e4 u3) 180, cl b10 (e4 v1) 180, cl b11 (e4 v2) 180, cl b12 (e4 v3) 180, cl x.1 (e4 a) 180, cl x.2.1 (e4 xx) 180, cl x.2.2 (e4 yy) 180], []⟩) ?_ ?_
 · let Sl : Fr := [(3, pq b3), (4, pq b4), (5, pq b5), (6, pq b6), (7, pq b7), (8, pq b8), (9, pq b9), (10, pq b10), (11, pq b11), (12, pq b12), (35, .agg (e4 a)), (38, .agg (e4 xx)), (41, .agg (e4 yy))]
   let En : List Ent := [cl b3 (e4 d) 244, cl b4 (pt x1 y1 c1 b1) 182, cl b5 (pt x2 y2 c2 b2) 182, cl b6 pt0 182, cl b7 (e4 u1) 180, cl b8 (e4 u2) 180, cl b9 (e4 u3) 180, cl b10 (e4 v1) 180, cl b11 (e4 v2) 180, cl b12 (e4 v3) 180]
   let Zr : Array Value := #[.int .u64 0, .int .u64 0, .int .u64 0, .int .u64 0]
   refine drg En [0, 1, 2, 3, 4, 5, 6, 7, 8] 6 qc qe (by kernel_rfl) (by kernel_rfl) (.refl _) (fun T g => ?_)
   have H0 : ∀ (b13 b14 b15 : Nat), T 0 #[tt,tt,tt,tt,tt,tt,tt,tt,tt,tt,tt,tt,tt,tt,tt] ⟨(13, pq b13) :: (14, pq b14) :: (15, pq b15) :: Sl, En ++ [cl b13 (e4 a) 180, cl b14 (e4 xx) 180, cl b15 (e4 yy) 180], []⟩ := by
    intro b13 b14 b15
    refine g.fin _ _ _ (by kernel_rfl) ?_
    exact ⟨(b13, b14, b15), trivial, ⟨rfl, rfl, rfl, rfl, rfl, rfl, rfl, rfl, rfl, rfl, rfl, rfl, rfl, rfl, rfl, rfl, trivial⟩, .refl _, rfl⟩
   have H1 : ∀ (b13 b14 b15 : Nat), T 1 #[tt,tt,tt,tt,tt,tt,tt,tt,tt,tt,tt,tt,tt,tt,ff] ⟨(13, pq b13) :: (14, pq b14) :: (15, pq b15) :: Sl, En ++ [cl b13 (e4 a) 180, cl b14 (e4 xx) 180, cl b15 Zr 180], []⟩ := by
    intro b13 b14 b15
    refine g.one _ _ _ 14 (by kernel_rfl) (qk _) ?_
    refine sN 12 rfl (by rw [qd]; rfl) (ql _) ?_ (by kernel_rfl)
    refine ⟨qk _, ?_⟩
    exact g.go (H0 b13 b14 b15) (qk _) ⟨rfl, rfl, rfl, rfl, rfl, rfl, rfl, rfl, rfl, rfl, rfl, rfl, rfl, rfl, rfl, rfl, trivial⟩ ⟨_, .refl _, .refl _⟩ rfl
   have H2 : ∀ (b13 b14 b15 : Nat), T 2 #[tt,tt,tt,tt,tt,tt,tt,tt,tt,tt,tt,tt,tt,ff,ff] ⟨(13, pq b13) :: (14, pq b14) :: (15, pq b15) :: Sl, En ++ [cl b13 (e4 a) 180, cl b14 Zr 180, cl b15 Zr 180], []⟩ := by
    intro b13 b14 b15
    refine g.one _ _ _ 13 (by kernel_rfl) (qk _) ?_
    refine sN 11 rfl (by rw [qd]; rfl) (ql _) ?_ (by kernel_rfl)
    refine ⟨qk _, ?_⟩
    exact g.go (H1 b13 b14 b15) (qk _) ⟨rfl, rfl, rfl, rfl, rfl, rfl, rfl, rfl, rfl, rfl, rfl, rfl, rfl, rfl, rfl, rfl, trivial⟩ ⟨_, .refl _, .refl _⟩ rfl
   have H3 : ∀ (b13 b14 b15 : Nat), T 3 #[tt,tt,tt,tt,tt,tt,tt,tt,tt,tt,tt,tt,ff,ff,ff] ⟨(13, pq b13) :: (14, pq b14) :: (15, pq b15) :: Sl, En ++ [cl b13 Zr 180, cl b14 Zr 180, cl b15 Zr 180], []⟩ := by
    intro b13 b14 b15
    refine g.one _ _ _ 12 (by kernel_rfl) (qk _) ?_
    refine sN 10 rfl (by rw [qd]; rfl) (ql _) ?_ (by kernel_rfl)
    refine ⟨qk _, ?_⟩
    exact g.go (H2 b13 b14 b15) (qk _) ⟨rfl, rfl, rfl, rfl, rfl, rfl, rfl, rfl, rfl, rfl, rfl, rfl, rfl, rfl, rfl, rfl, trivial⟩ ⟨_, .refl _, .refl _⟩ rfl
   have H4 : ∀ (b13 b14 : Nat), T 4 #[tt,tt,tt,tt,tt,tt,tt,tt,tt,tt,tt,ff,ff,ff,ff] ⟨(13, pq b13) :: (14, pq b14) :: Sl, En ++ [cl b13 Zr 180, cl b14 Zr 180], []⟩ := by
    intro b13 b14
    refine g.one _ _ _ 11 (by kernel_rfl) (qk _) ?_
    intro b15
    refine ⟨qk _, ?_⟩
    exact g.go (H3 b13 b14 b15) (qk _) ⟨rfl, rfl, rfl, rfl, rfl, rfl, rfl, rfl, rfl, rfl, rfl, rfl, rfl, rfl, rfl, rfl, trivial⟩ ⟨_, .refl _, .refl _⟩ rfl
   have H5 : ∀ (b13 b15 : Nat), T 4 #[tt,tt,tt,tt,tt,tt,tt,tt,tt,tt,ff,tt,ff,ff,ff] ⟨(13, pq b13) :: (15, pq b15) :: Sl, En ++ [cl b13 Zr 180, cl b15 Zr 180], []⟩ := by
    intro b13 b15
    refine g.one _ _ _ 10 (by kernel_rfl) (qk _) ?_
    intro b14
    refine ⟨qk _, ?_⟩
    exact g.go (H3 b13 b14 b15) (qk _) ⟨rfl, rfl, rfl, rfl, rfl, rfl, rfl, rfl, rfl, rfl, rfl, rfl, rfl, rfl, rfl, rfl, trivial⟩ ⟨_, Zz [_, _, _, _, _, _, _, _, _, _, _] _ [_], .refl _⟩ rfl
   have H6 : ∀ (b14 b15 : Nat), T 4 #[tt,tt,tt,tt,tt,tt,tt,tt,tt,ff,tt,tt,ff,ff,ff] ⟨(14, pq b14) :: (15, pq b15) :: Sl, En ++ [cl b14 Zr 180, cl b15 Zr 180], []⟩ := by
    intro b14 b15
    refine g.one _ _ _ 9 (by kernel_rfl) (qk _) ?_
    intro b13
    refine ⟨qk _, ?_⟩
    exact g.go (H3 b13 b14 b15) (qk _) ⟨rfl, rfl, rfl, rfl, rfl, rfl, rfl, rfl, rfl, rfl, rfl, rfl, rfl, rfl, rfl, rfl, trivial⟩ ⟨_, Zz [_, _, _, _, _, _, _, _, _, _] _ [_, _], .refl _⟩ rfl
   have H7 : ∀ (b13 : Nat), T 5 #[tt,tt,tt,tt,tt,tt,tt,tt,tt,tt,ff,ff,ff,ff,ff] ⟨(13, pq b13) :: Sl, En ++ [cl b13 Zr 180], []⟩ := by
    intro b13
    refine g.two _ _ _ 10 11 (by kernel_rfl) (qk _) ?_ ?_
    · intro b14
      refine ⟨qk _, ?_⟩
      exact g.go (H4 b13 b14) (qk _) ⟨rfl, rfl, rfl, rfl, rfl, rfl, rfl, rfl, rfl, rfl, rfl, rfl, rfl, rfl, rfl, trivial⟩ ⟨_, .refl _, .refl _⟩ rfl
    · intro b15
      refine ⟨qk _, ?_⟩
      exact g.go (H5 b13 b15) (qk _) ⟨rfl, rfl, rfl, rfl, rfl, rfl, rfl, rfl, rfl, rfl, rfl, rfl, rfl, rfl, rfl, trivial⟩ ⟨_, .refl _, .refl _⟩ rfl
   have H8 : ∀ (b14 : Nat), T 5 #[tt,tt,tt,tt,tt,tt,tt,tt,tt,ff,tt,ff,ff,ff,ff] ⟨(14, pq b14) :: Sl, En ++ [cl b14 Zr 180], []⟩ := by
    intro b14
    refine g.two _ _ _ 9 11 (by kernel_rfl) (qk _) ?_ ?_
    · intro b13
      refine ⟨qk _, ?_⟩
      exact g.go (H4 b13 b14) (qk _) ⟨rfl, rfl, rfl, rfl, rfl, rfl, rfl, rfl, rfl, rfl, rfl, rfl, rfl, rfl, rfl, trivial⟩ ⟨_, Zz [_, _, _, _, _, _, _, _, _, _] _ [_], .refl _⟩ rfl
    · intro b15
      refine ⟨qk _, ?_⟩
      exact g.go (H6 b14 b15) (qk _) ⟨rfl, rfl, rfl, rfl, rfl, rfl, rfl, rfl, rfl, rfl, rfl, rfl, rfl, rfl, rfl, trivial⟩ ⟨_, .refl _, .refl _⟩ rfl
   have H9 : ∀ (b15 : Nat), T 5 #[tt,tt,tt,tt,tt,tt,tt,tt,tt,ff,ff,tt,ff,ff,ff] ⟨(15, pq b15) :: Sl, En ++ [cl b15 Zr 180], []⟩ := by
    intro b15
    refine g.two _ _ _ 9 10 (by kernel_rfl) (qk _) ?_ ?_
    · intro b13
      refine ⟨qk _, ?_⟩
      exact g.go (H5 b13 b15) (qk _) ⟨rfl, rfl, rfl, rfl, rfl, rfl, rfl, rfl, rfl, rfl, rfl, rfl, rfl, rfl, rfl, trivial⟩ ⟨_, Zz [_, _, _, _, _, _, _, _, _, _] _ [_], .refl _⟩ rfl
    · intro b14
      refine ⟨qk _, ?_⟩
      exact g.go (H6 b14 b15) (qk _) ⟨rfl, rfl, rfl, rfl, rfl, rfl, rfl, rfl, rfl, rfl, rfl, rfl, rfl, rfl, rfl, trivial⟩ ⟨_, Zz [_, _, _, _, _, _, _, _, _, _] _ [_], .refl _⟩ rfl
   have H : T 6 #[tt,tt,tt,tt,tt,tt,tt,tt,tt,ff,ff,ff,ff,ff,ff] ⟨Sl, En, []⟩ := by
    refine g.three _ _ _ 9 10 11 (by kernel_rfl) (qk _) ?_ ?_ ?_
    · intro b13
      refine ⟨qk _, ?_⟩
      exact g.go (H7 b13) (qk _) ⟨rfl, rfl, rfl, rfl, rfl, rfl, rfl, rfl, rfl, rfl, rfl, rfl, rfl, rfl, trivial⟩ ⟨_, .refl _, .refl _⟩ rfl
    · intro b14
      refine ⟨qk _, ?_⟩
      exact g.go (H8 b14) (qk _) ⟨rfl, rfl, rfl, rfl, rfl, rfl, rfl, rfl, rfl, rfl, rfl, rfl, rfl, rfl, trivial⟩ ⟨_, .refl _, .refl _⟩ rfl
    · intro b15
      refine ⟨qk _, ?_⟩
      exact g.go (H9 b15) (qk _) ⟨rfl, rfl, rfl, rfl, rfl, rfl, rfl, rfl, rfl, rfl, rfl, rfl, rfl, rfl, trivial⟩ ⟨_, .refl _, .refl _⟩ rfl
   refine ldN 6 rfl (qd _) ?_
   refine ldN 9 rfl (qd _) ?_
   refine cz ka ?_
   refine ldN 4 rfl (qd _) ?_
   refine ldN 7 rfl (qd _) ?_
   refine cz kxx ?_
   refine ldN 5 rfl (qd _) ?_
   refine ldN 8 rfl (qd _) ?_
   refine cz kyy ?_
   exact g.go H (qk _) ⟨rfl, rfl, rfl, rfl, rfl, rfl, rfl, rfl, rfl, rfl, rfl, rfl, rfl, trivial⟩ ⟨_, .refl _, .refl _⟩ rfl
 · rintro ⟨b13, b14, b15⟩ -
   refine ldN 10 rfl (qd _) ?_
   refine ldN 10 rfl (qd _) ?_
   refine cv kbq ?_
   intro b16
   refine sN 13 rfl (by rw [qd]; rfl) (ql _) ?_ (by kernel_rfl)
   refine dr _ 6 (.t 0 (.t 1 (.t 2 (.t 3 (.t 4 (.n 5 (.n 6 .nil))))))) qc qe (by kernel_rfl) (.refl _) ?_
   refine ldN 0 rfl (qd _) ?_
   refine ldN 11 rfl (qd _) ?_
   refine cz ke1 ?_
   refine ldN 12 rfl (qd _) ?_
   refine cz kee ?_
   intro b17
   refine ⟨qk _, ?_⟩
   refine sN 14 rfl (by rw [qd]; rfl) (ql _) ?_ (by kernel_rfl)
   refine cut (α := Nat × Nat) (fun x => True) (fun x => ⟨[(18, pq x.1), (19, pq x.2), (3, pq b3), (4, pq b4), (5, pq b5), (6, pq b6), (7, pq b7), (8, pq b8), (9, pq b9), (10, pq b10), (11, pq b11), (12, pq b12), (13, pq b13), (14, pq b14), (15, pq b15), (16, pq b16), (17, pq b17), (52, .agg (e4 f)), (55, .agg (e4 gg))], [cl b3 (e4 d) 244, cl b4 (pt x1 y1 c1 b1) 182, cl b5 (pt x2 y2 c2 b2) 182, cl b6 pt0 182, cl b7 (e4 u1) 180, cl b8 (e4 u2) 180, cl b9 (e4 u3) 180, cl b10 (e4 v1) 180, cl b11 (e4 v2) 180, cl b12 (e4 v3) 180, cl b13 (e4 a) 180, cl b14 (e4 xx) 180, cl b15 (e4 yy) 180, cl b16 (e4 bq) 180, cl b17 (e4 ee) 180, cl x.1 (e4 f) 180, cl x.2 (e4 gg) 180], []⟩) ?_ ?_
   · let Sl : Fr := [(3, pq b3), (4, pq b4), (5, pq b5), (6, pq b6), (7, pq b7), (8, pq b8), (9, pq b9), (10, pq b10), (11, pq b11), (12, pq b12), (13, pq b13), (14, pq b14), (15, pq b15), (16, pq b16), (17, pq b17), (52, .agg (e4 f)), (55, .agg (e4 gg))]
     let En : List Ent := [cl b3 (e4 d) 244, cl b4 (pt x1 y1 c1 b1) 182, cl b5 (pt x2 y2 c2 b2) 182, cl b6 pt0 182, cl b7 (e4 u1) 180, cl b8 (e4 u2) 180, cl b9 (e4 u3) 180, cl b10 (e4 v1) 180, cl b11 (e4 v2) 180, cl b12 (e4 v3) 180, cl b13 (e4 a) 180, cl b14 (e4 xx) 180, cl b15 (e4 yy) 180, cl b16 (e4 bq) 180, cl b17 (e4 ee) 180]
     let Zr : Array Value := #[.int .u64 0, .int .u64 0, .int .u64 0, .int .u64 0]
     refine drg En [0, 1, 2, 3, 4, 5] 4 qc qe (by kernel_rfl) (by kernel_rfl) (.refl _) (fun T g => ?_)
     have H0 : ∀ (b18 b19 : Nat), T 0 #[tt,tt,tt,tt,tt,tt,tt,tt,tt,tt] ⟨(18, pq b18) :: (19, pq b19) :: Sl, En ++ [cl b18 (e4 f) 180, cl b19 (e4 gg) 180], []⟩ := by
      intro b18 b19
      refine g.fin _ _ _ (by kernel_rfl) ?_
      exact ⟨(b18, b19), trivial, ⟨rfl, rfl, rfl, rfl, rfl, rfl, rfl, rfl, rfl, rfl, rfl, rfl, rfl, rfl, rfl, rfl, rfl, rfl, rfl, trivial⟩, .refl _, rfl⟩
     have H1 : ∀ (b18 b19 : Nat), T 1 #[tt,tt,tt,tt,tt,tt,tt,tt,tt,ff] ⟨(18, pq b18) :: (19, pq b19) :: Sl, En ++ [cl b18 (e4 f) 180, cl b19 Zr 180], []⟩ := by
      intro b18 b19
      refine g.one _ _ _ 9 (by kernel_rfl) (qk _) ?_
      refine sN 16 rfl (by rw [qd]; rfl) (ql _) ?_ (by kernel_rfl)
      refine ⟨qk _, ?_⟩
      exact g.go (H0 b18 b19) (qk _) ⟨rfl, rfl, rfl, rfl, rfl, rfl, rfl, rfl, rfl, rfl, rfl, rfl, rfl, rfl, rfl, rfl, rfl, rfl, rfl, trivial⟩ ⟨_, .refl _, .refl _⟩ rfl
     have H2 : ∀ (b18 b19 : Nat), T 2 #[tt,tt,tt,tt,tt,tt,tt,tt,ff,ff] ⟨(18, pq b18) :: (19, pq b19) :: Sl, En ++ [cl b18 Zr 180, cl b19 Zr 180], []⟩ := by
      intro b18 b19
      refine g.one _ _ _ 8 (by kernel_rfl) (qk _) ?_
      refine sN 15 rfl (by rw [qd]; rfl) (ql _) ?_ (by kernel_rfl)
      refine ⟨qk _, ?_⟩
      exact g.go (H1 b18 b19) (qk _) ⟨rfl, rfl, rfl, rfl, rfl, rfl, rfl, rfl, rfl, rfl, rfl, rfl, rfl, rfl, rfl, rfl, rfl, rfl, rfl, trivial⟩ ⟨_, .refl _, .refl _⟩ rfl
     have H3 : ∀ (b18 : Nat), T 3 #[tt,tt,tt,tt,tt,tt,tt,ff,ff,ff] ⟨(18, pq b18) :: Sl, En ++ [cl b18 Zr 180], []⟩ := by
      intro b18
      refine g.one _ _ _ 7 (by kernel_rfl) (qk _) ?_
      intro b19
      refine ⟨qk _, ?_⟩
      exact g.go (H2 b18 b19) (qk _) ⟨rfl, rfl, rfl, rfl, rfl, rfl, rfl, rfl, rfl, rfl, rfl, rfl, rfl, rfl, rfl, rfl, rfl, rfl, rfl, trivial⟩ ⟨_, .refl _, .refl _⟩ rfl
     have H4 : ∀ (b19 : Nat), T 3 #[tt,tt,tt,tt,tt,tt,ff,tt,ff,ff] ⟨(19, pq b19) :: Sl, En ++ [cl b19 Zr 180], []⟩ := by
      intro b19
      refine g.one _ _ _ 6 (by kernel_rfl) (qk _) ?_
      intro b18
      refine ⟨qk _, ?_⟩
      exact g.go (H2 b18 b19) (qk _) ⟨rfl, rfl, rfl, rfl, rfl, rfl, rfl, rfl, rfl, rfl, rfl, rfl, rfl, rfl, rfl, rfl, rfl, rfl, rfl, trivial⟩ ⟨_, Zz [_, _, _, _, _, _, _, _, _, _, _, _, _, _, _] _ [_], .refl _⟩ rfl
     have H : T 4 #[tt,tt,tt,tt,tt,tt,ff,ff,ff,ff] ⟨Sl, En, []⟩ := by
      refine g.two _ _ _ 6 7 (by kernel_rfl) (qk _) ?_ ?_
      · intro b18
        refine ⟨qk _, ?_⟩
        exact g.go (H3 b18) (qk _) ⟨rfl, rfl, rfl, rfl, rfl, rfl, rfl, rfl, rfl, rfl, rfl, rfl, rfl, rfl, rfl, rfl, rfl, rfl, trivial⟩ ⟨_, .refl _, .refl _⟩ rfl
      · intro b19
        refine ⟨qk _, ?_⟩
        exact g.go (H4 b19) (qk _) ⟨rfl, rfl, rfl, rfl, rfl, rfl, rfl, rfl, rfl, rfl, rfl, rfl, rfl, rfl, rfl, rfl, rfl, rfl, trivial⟩ ⟨_, .refl _, .refl _⟩ rfl
     refine ldN 13 rfl (qd _) ?_
     refine ldN 14 rfl (qd _) ?_
     refine cz kf ?_
     refine ldN 13 rfl (qd _) ?_
     refine ldN 14 rfl (qd _) ?_
     refine cz kgg ?_
     exact g.go H (qk _) ⟨rfl, rfl, rfl, rfl, rfl, rfl, rfl, rfl, rfl, rfl, rfl, rfl, rfl, rfl, rfl, rfl, rfl, trivial⟩ ⟨_, .refl _, .refl _⟩ rfl
   · rintro ⟨b18, b19⟩ -
     refine dr _ 12 (.t 0 (.t 1 (.t 2 (.t 3 (.t 4 (.t 5 (.t 6 (.t 7 (.t 8 (.t 9 (.t 10 (.n 11 (.n 12 .nil))))))))))))) qc qe (by kernel_rfl) (.refl _) ?_
     refine ldN 4 rfl (qd _) ?_
     refine ldN 5 rfl (qd _) ?_
     refine cz ks1 ?_
     refine ldN 7 rfl (qd _) ?_
     refine ldN 8 rfl (qd _) ?_
     refine cz ks2 ?_
     refine cz ks3 ?_
     refine ldN 11 rfl (qd _) ?_
     refine cz ks4 ?_
     refine ldN 12 rfl (qd _) ?_
     refine cz kcr ?_
     intro b20
     refine ⟨qk _, ?_⟩
     refine sN 17 rfl (by rw [qd]; rfl) (ql _) ?_ (by kernel_rfl)
     refine dr _ 16 (.t 0 (.t 1 (.t 2 (.t 3 (.t 4 (.t 5 (.t 6 (.t 7 (.t 8 (.t 9 (.t 10 (.t 11 (.t 12 (.t 13 (.t 14 (.n 15 (.n 16 .nil))))))))))))))))) qc qe (by kernel_rfl) (.refl _) ?_
     refine ldN 10 rfl (qd _) ?_
     refine ldN 15 rfl (qd _) ?_
     refine cz kt1 ?_
     refine ldN 17 rfl (qd _) ?_
     refine cz kx3 ?_
     refine ldN 10 rfl (qd _) ?_
     refine ldN 16 rfl (qd _) ?_
     refine cz kt2 ?_
     refine ldN 12 rfl (qd _) ?_
     refine ldN 11 rfl (qd _) ?_
     refine cz kt3 ?_
     refine cz ky3 ?_
     refine ldN 15 rfl (qd _) ?_
     refine ldN 16 rfl (qd _) ?_
     refine cz kz3 ?_
     refine ce (fun w _ => qdc hx3 hy3 hz3 w) (fun r hr => ?_)
     refine ⟨.refl _, ?_⟩
     refine sN 3 rfl (by rw [qo]; rfl) (by rw [Array.all_toList]; exact QW _ _ _ _) ?_ (by kernel_rfl)
     refine ldN 3 rfl (qo _ _ _ _) ?_
     exact ⟨fun w1 hs => ⟨_, _, _, _, hr, rfl, hs.below⟩⟩
end
section
instance : NeZero PP := ⟨by have := QR; omega⟩
def fi (a : Nat) : Fin PP := Fin.ofNat PP a
theorem ZN (a b : Nat) : fi a = fi b ↔ a % PP = b % PP := by
 unfold fi
 constructor
 · intro h; exact congrArg Fin.val h
 · intro h; exact Fin.ext h
theorem Qq (a : Nat) : fi (a % PP) = fi a := (ZN _ _).2 (Nat.mod_mod _ _)
theorem Qa (a b : Nat) : fi (a * b) = fi a * fi b := by
 apply Fin.ext
 show a * b % PP = (a % PP) * (b % PP) % PP
 exact Nat.mul_mod _ _ _
theorem Za (a b : Nat) : fi (a + b) = fi a + fi b := by
 apply Fin.ext
 show (a + b) % PP = ((a % PP) + (b % PP)) % PP
 exact Nat.add_mod _ _ _
theorem Zg : fi 0 = 0 := rfl
theorem zF : fi 1 = 1 := rfl
theorem fi_PP : fi PP = 0 := (ZN PP 0).2 (by rw [Nat.mod_self, Nat.zero_mod])
theorem qcF (b : Nat) : fi (PP - b % PP) = - fi b := by
 have hb : b % PP ≤ PP := Nat.le_of_lt (Nat.mod_lt _ qw)
 have h : fi (PP - b % PP) + fi b = 0 := by
  rw [← Qq b, ← Za, Nat.sub_add_cancel hb, fi_PP]
 grind
theorem Q5 (a : Fin PP) : fi a.val = a := Fin.ext (Nat.mod_eq_of_lt a.isLt)
theorem fi_ne (a : Nat) (h : a % PP ≠ 0) : fi a ≠ 0 := by
 rw [← Zg]
 intro h2
 exact h (((ZN _ _).1 h2).trans (Nat.zero_mod _))
theorem fi_ne0 (a : Nat) (h : fi a ≠ 0) : a % PP ≠ 0 := by
 intro h2
 apply h
 rw [← Zg]
 exact (ZN _ _).2 (h2.trans (Nat.zero_mod _).symm)
def qF (a : Fin PP) : Fin PP := fi (pwm a.val (PP - 2))
def fd : Fin PP := fi SL
def fI : Fin PP := fi rti
theorem sl_e : (PP - 1) / 2 < 2 ^ 256 := by decide +kernel
theorem sl_pm : Nm.pm PP 256 SL ((PP - 1) / 2) = PP - 1 := by decide +kernel
theorem chi_SL : chi SL = PP - 1 := by
 unfold chi; rw [qdG _ _ sl_e, sl_pm]
theorem chi_sqr (s : Nat) (h : s % PP ≠ 0) : chi (s * s) = 1 := by rw [chi_mul]; exact chi_sq s h
theorem SL_ne : SL % PP ≠ 0 := by decide +kernel
theorem non_sq (s t : Nat) (h : s * s % PP = SL * (t * t) % PP) : t % PP = 0 := by
 by_cases ht : t % PP = 0
 · exact ht
 · exfalso
   have h1 : (1 : Nat) < PP := by have := QR; omega
   by_cases hs : s % PP = 0
   · rw [Nat.mul_mod, hs, Nat.zero_mul, Nat.zero_mod] at h
     rcases qbL _ _ h.symm with h | h
     · exact SL_ne h
     · rcases qbL _ _ h with h | h <;> exact ht h
   · have e1 := chi_sqr s hs
     have e2 := chi_sqr t ht
     have e3 : chi (SL * (t * t)) = PP - 1 := by
      rw [chi_mul, e2, chi_SL, Nat.mul_one, Nat.mod_eq_of_lt (show PP - 1 < PP by omega)]
     have e4 : chi (s * s) = chi (SL * (t * t)) := by rw [← chi_mod (s * s), h, chi_mod]
     rw [e1, e3] at e4
     have := QR
     omega
theorem fld : Fld PP fd fI qF where
 dom := by
  intro a b h
  rw [← Q5 a, ← Q5 b, ← Qa, ← Zg] at h
  have h2 := ((ZN _ _).1 h).trans (Nat.zero_mod _)
  rcases qbL _ _ h2 with h3 | h3
  · left; rw [← Q5 a, ← Zg]; exact (ZN _ _).2 (h3.trans (Nat.zero_mod _).symm)
  · right; rw [← Q5 b, ← Zg]; exact (ZN _ _).2 (h3.trans (Nat.zero_mod _).symm)
 one := by
  rw [← zF]; exact fi_ne 1 (by rw [qaJ]; decide)
 two := by
  rw [← zF, ← Za]
  exact fi_ne 2 (by have := QR; rw [Nat.mod_eq_of_lt (by omega)]; decide)
 root := by
  have h : fi (rti * rti) = fi (PP - 1 % PP) := (ZN _ _).2 (by rw [rti_sq, qaJ, Nat.mod_eq_of_lt (by have := QR; omega)])
  rw [Qa, qcF, zF] at h
  exact h
 non := by
  intro s t h
  rw [← Q5 s, ← Q5 t] at h
  unfold fd at h
  rw [← Qa, ← Qa, ← Qa] at h
  have h2 := non_sq _ _ ((ZN _ _).1 h)
  rw [← Q5 t, ← Zg]; exact (ZN _ _).2 (h2.trans (Nat.zero_mod _).symm)
 inv := by
  intro a ha
  have h0 : a.val % PP ≠ 0 := fi_ne0 _ (by rw [Q5]; exact ha)
  have h1 := over_undoes 1 a.val h0
  rw [Nat.one_mul] at h1
  unfold qF
  rw [← zF, ← Q5 a, Q5 a, ← Q5 a, Q5 a]
  have h2 : fi (a.val * pwm a.val (PP - 2)) = fi 1 := (ZN _ _).2 (by rw [Nat.mul_comm]; rw [Nat.mod_mul_mod] at h1; exact h1)
  rw [Qa, Q5] at h2
  exact h2
def Rep (X Y Z : Nat) (p : Fin PP × Fin PP) : Prop := fi X = p.1 * fi Z ∧ fi Y = p.2 * fi Z ∧ fi Z ≠ 0 ∧ OnP fd p
theorem qbJ (X1 Y1 Z1 X2 Y2 Z2 : Nat) (p q : Fin PP × Fin PP) (hp : Rep X1 Y1 Z1 p) (hq : Rep X2 Y2 Z2 q) :
 Rep (qaq SL X1 Y1 Z1 X2 Y2 Z2).1 (qaq SL X1 Y1 Z1 X2 Y2 Z2).2.1 (qaq SL X1 Y1 Z1 X2 Y2 Z2).2.2 (QL qF fd p q) := by
 obtain ⟨x1, y1, z1, o1⟩ := hp
 obtain ⟨x2, y2, z2, o2⟩ := hq
 have ex := fld.sx_eq p.1 p.2 q.1 q.2 o1 o2
 have ey := fld.sy_eq p.1 p.2 q.1 q.2 o1 o2
 have np := fld.plus_ne p.1 p.2 q.1 q.2 o1 o2
 have nm := fld.minus_ne p.1 p.2 q.1 q.2 o1 o2
 have hA : fi Z1 * fi Z2 ≠ 0 := fld.mul_ne z1 z2
 have ho := fld.on_add p q o1 o2
 have eF : fi (((Z1 * Z2 % PP) * (Z1 * Z2 % PP) % PP + (PP - SL * (X1 * X2 % PP) % PP * (Y1 * Y2 % PP) % PP)) % PP) = fi Z1 * fi Z2 * (fi Z1 * fi Z2) * (1 - fd * p.1 * q.1 * p.2 * q.2) := by
  simp only [Qq, qcF, Qa, Za]
  rw [x1, x2, y1, y2]
  show _ + -(fd * _ * _) = _
  grind
 have eG : fi (((Z1 * Z2 % PP) * (Z1 * Z2 % PP) % PP + SL * (X1 * X2 % PP) % PP * (Y1 * Y2 % PP) % PP) % PP) = fi Z1 * fi Z2 * (fi Z1 * fi Z2) * (1 + fd * p.1 * q.1 * p.2 * q.2) := by
  simp only [Qq, Qa, Za]
  rw [x1, x2, y1, y2]
  show _ + fd * _ * _ = _
  grind
 have eC : fi ((((X1 + Y1) % PP * ((X2 + Y2) % PP) % PP + (PP - X1 * X2 % PP)) % PP + (PP - Y1 * Y2 % PP)) % PP) = fi Z1 * fi Z2 * (p.1 * q.2 + q.1 * p.2) := by
  simp only [Qq, qcF, Qa, Za]
  rw [x1, x2, y1, y2]
  grind
 have eD : fi ((Y1 * Y2 % PP + X1 * X2 % PP) % PP) = fi Z1 * fi Z2 * (p.2 * q.2 + p.1 * q.1) := by
  simp only [Qq, Qa, Za]
  rw [x1, x2, y1, y2]
  grind
 unfold Rep QL
 unfold qaq
 refine ⟨?_, ?_, ?_, ho⟩
 · show fi (_ * _ % PP) = sx qF fd p.1 p.2 q.1 q.2 * fi (_ * _ % PP)
   simp only [Qq, Qa] at eF eG eC eD ⊢
   rw [eF, eG, eC, ← ex]
   grind
 · show fi (_ * _ % PP) = sy qF fd p.1 p.2 q.1 q.2 * fi (_ * _ % PP)
   simp only [Qq, Qa] at eF eG eC eD ⊢
   rw [eF, eG, eD, ← ey]
   grind
 · show fi (_ * _ % PP) ≠ 0
   rw [Qq, Qa, eF, eG]
   exact fld.mul_ne (fld.mul_ne (fld.mul_ne hA hA) nm) (fld.mul_ne (fld.mul_ne hA hA) np)
end
section
open Go.RowKit Go.Lib
open Go.Sx
theorem pplus_any (x1 y1 c1 : Nat) (b1 : Bool) (X1 Y1 Z1 : Nat) (p1 : zI x1 y1 c1 b1 X1 Y1 Z1) (x2 y2 c2 : Nat) (b2 : Bool) (X2 Y2 Z2 : Nat) (p2 : zI x2 y2 c2 b2 X2 Y2 Z2) (w : World) :
 Calls Tryz.prog 172 #[.agg (pt x1 y1 c1 b1), .agg (pt x2 y2 c2 b2)] w (PtP (qaq SL X1 Y1 Z1 X2 Y2 Z2).1 (qaq SL X1 Y1 Z1 X2 Y2 Z2).2.1 (qaq SL X1 Y1 Z1 X2 Y2 Z2).2.2 w) := by
 obtain ⟨R, hR⟩ : ∃ R, R = qaq SL X1 Y1 Z1 X2 Y2 Z2 := ⟨_, rfl⟩
 have hadd : ∀ d, El SL d → ∀ w, Calls Tryz.prog 169 #[.agg (e4 d), .agg (pt x1 y1 c1 b1), .agg (pt x2 y2 c2 b2)] w fun e w' => ∃ x : Nat × Nat × Nat × Bool, zI x.1 x.2.1 x.2.2.1 x.2.2.2 R.1 R.2.1 R.2.2 ∧ e = .returned (.agg (pt x.1 x.2.1 x.2.2.1 x.2.2.2)) ∧ Below w.heap.size w w' := fun d hd w => by
  rw [hR]
  exact (add_of d SL hd.1 hd.2 x1 y1 c1 b1 X1 Y1 Z1 p1 x2 y2 c2 b2 X2 Y2 Z2 p2 w).mono fun e w' ⟨x, y, z, b, h1, h2, h3⟩ => ⟨(x, y, z, b), h1, h2, h3⟩
 rw [← hR]
 refine (enter (R := fun v w' => ∃ (x y z1 : Nat) (b : Bool), zI x y z1 b R.1 R.2.1 R.2.2 ∧ v = .agg (pt x y z1 b) ∧ Below w.heap.size w w') qc Tryz.func172 rfl Tryz.ntmps172 rfl (St.start w) ?_).mono (fun e w' ⟨v, he, x, y, z1, b, h1, h2, h3⟩ => ⟨x, y, z1, b, h1, by rw [he, h2], h3⟩)
 intro b2 b3 b4
 refine dr _ 4 (.t 1 (.t 2 (.n 0 (.n 3 (.n 4 .nil))))) qc qe (by kernel_rfl) (.refl _) ?_
 refine ldN 0 rfl (qo _ _ _ _) ?_
 refine ldN 1 rfl (qo _ _ _ _) ?_
 refine ce (fun w _ => el_slope w) (fun d hd => ?_)
 refine ⟨.refl _, ?_⟩
 refine ce (fun w _ => hadd d hd w) (fun r hr => ?_)
 refine ⟨.refl _, ?_⟩
 refine sN 2 rfl (by rw [qo]; rfl) (by rw [Array.all_toList]; exact QW _ _ _ _) ?_ (by kernel_rfl)
 refine ldN 2 rfl (qo _ _ _ _) ?_
 exact ⟨fun w1 hs => ⟨_, _, _, _, hr, rfl, hs.below⟩⟩
def negP (X : Nat) : Nat := (0 % PP + (PP - X)) % PP
theorem pminus_any (x1 y1 c1 : Nat) (b1 : Bool) (X1 Y1 Z1 : Nat) (p1 : zI x1 y1 c1 b1 X1 Y1 Z1) (x2 y2 c2 : Nat) (b2 : Bool) (X2 Y2 Z2 : Nat) (p2 : zI x2 y2 c2 b2 X2 Y2 Z2) (w : World) :
 Calls Tryz.prog 125 #[.agg (pt x1 y1 c1 b1), .agg (pt x2 y2 c2 b2)] w (PtP (qaq SL X1 Y1 Z1 (negP X2) Y2 Z2).1 (qaq SL X1 Y1 Z1 (negP X2) Y2 Z2).2.1 (qaq SL X1 Y1 Z1 (negP X2) Y2 Z2).2.2 w) := by
 obtain ⟨R, hR⟩ : ∃ R, R = qaq SL X1 Y1 Z1 (negP X2) Y2 Z2 := ⟨_, rfl⟩
 have hadd : ∀ x y z b, zI x y z b (negP X2) Y2 Z2 → ∀ w, Calls Tryz.prog 172 #[.agg (pt x1 y1 c1 b1), .agg (pt x y z b)] w fun e w' => ∃ x : Nat × Nat × Nat × Bool, zI x.1 x.2.1 x.2.2.1 x.2.2.2 R.1 R.2.1 R.2.2 ∧ e = .returned (.agg (pt x.1 x.2.1 x.2.2.1 x.2.2.2)) ∧ Below w.heap.size w w' := fun x y z b h w => by
  rw [hR]
  exact (pplus_any x1 y1 c1 b1 X1 Y1 Z1 p1 x y z b (negP X2) Y2 Z2 h w).mono fun e w' ⟨x, y, z, b, h1, h2, h3⟩ => ⟨(x, y, z, b), h1, h2, h3⟩
 rw [← hR]
 refine (enter (R := fun v w' => ∃ (x y z1 : Nat) (b : Bool), zI x y z1 b R.1 R.2.1 R.2.2 ∧ v = .agg (pt x y z1 b) ∧ Below w.heap.size w w') qc Tryz.func125 rfl Tryz.ntmps125 rfl (St.start w) ?_).mono (fun e w' ⟨v, he, x, y, z1, b, h1, h2, h3⟩ => ⟨x, y, z1, b, h1, by rw [he, h2], h3⟩)
 intro b2 b3 b4
 refine ldN 1 rfl (qo _ _ _ _) ?_
 refine ce (fun w _ => qea p2 w) (fun u hu => ?_)
 obtain ⟨u1, u2, u3⟩ := u
 obtain ⟨hu1, hu2, hu3⟩ := hu
 intro b5 b6 b7
 refine sN 3 rfl (by rw [qd]; rfl) (ql _) ?_ (by kernel_rfl)
 refine sN 4 rfl (by rw [qd]; rfl) (ql _) ?_ (by kernel_rfl)
 refine sN 5 rfl (by rw [qd]; rfl) (ql _) ?_ (by kernel_rfl)
 refine dr _ 8 (.t 0 (.t 1 (.t 2 (.t 4 (.t 5 (.n 3 (.n 6 (.n 7 (.n 8 .nil))))))))) qc qe (by kernel_rfl) (.refl _) ?_
 refine ldN 0 rfl (qo _ _ _ _) ?_
 refine bu (c := e4 0) (by kernel_rfl) ?_
 refine ldN 3 rfl (qd _) ?_
 refine ldN 4 rfl (qd _) ?_
 refine ldN 5 rfl (qd _) ?_
 refine ce (fun w _ => el_minus (R := negP X2) (A := 0 % PP) ⟨by decide, rfl⟩ hu1 rfl w) (fun n hn => ?_)
 refine ⟨.refl _, ?_⟩
 refine ce (fun w _ => qdc hn hu2 hu3 w) (fun q hq => ?_)
 refine ⟨.refl _, ?_⟩
 refine ce (fun w _ => hadd _ _ _ _ hq w) (fun r hr => ?_)
 refine ⟨.refl _, ?_⟩
 refine sN 2 rfl (by rw [qo]; rfl) (by rw [Array.all_toList]; exact QW _ _ _ _) ?_ (by kernel_rfl)
 refine ldN 2 rfl (qo _ _ _ _) ?_
 exact ⟨fun w1 hs => ⟨_, _, _, _, hr, rfl, hs.below⟩⟩
end
section
open Go.RowKit Go.Lib
theorem and_128 (a : Nat) (h : a < 256) : bits .and .u8 (a : Int) 128 = ((a / 128 * 128 : Nat) : Int) := by
 have : (List.range 256).all (fun a => bits .and .u8 (a : Int) 128 == ((a / 128 * 128 : Nat) : Int)) = true := by decide +kernel
 simpa using List.all_eq_true.1 this a (by simpa using h)
theorem andn_128 (a : Nat) (h : a < 256) : bits .andNot .u8 (a : Int) 128 = ((a % 128 : Nat) : Int) := by
 have : (List.range 256).all (fun a => bits .andNot .u8 (a : Int) 128 == ((a % 128 : Nat) : Int)) = true := by decide +kernel
 simpa using List.all_eq_true.1 this a (by simpa using h)
theorem dg31_any (n : Nat) (h : n < 115792089237316195423570985008687907853269984665640564039457584007913129639936) : ∃ c : Nat, dg 256 n 31 = (c : Int) ∧ c < 256 ∧ c / 128 = n / 57896044618658097711785492504343953926634992332820282019728792003956564819968 ∧ c = n / 256 ^ 31 % 256 := by
 refine ⟨n / 256 ^ 31 % 256, rfl, Nat.mod_lt _ (by decide), ?_, rfl⟩
 rw [show (256 : Nat) ^ 31 = 452312848583266388373324160190187140051835877600158453279131187530910662656 by decide +kernel]
 omega
theorem key_clear (n c : Nat) (hc : c = n / 256 ^ 31 % 256) (x : Int) (hx : x = ((c % 128 : Nat) : Int)) : row .u8 32 (upd (dg 256 n) 31 x) = k32 (n % 57896044618658097711785492504343953926634992332820282019728792003956564819968) := by
 refine Qb _ _ _ _ fun i hi => ?_
 have e31 : (256 : Nat) ^ 31 = 452312848583266388373324160190187140051835877600158453279131187530910662656 := by decide +kernel
 by_cases e : i = 31
 · subst e
   rw [qu, hx, hc]
   unfold dg
   rw [e31]
   omega
 · rw [qs _ _ _ _ e]
   unfold dg
   have e1 : 57896044618658097711785492504343953926634992332820282019728792003956564819968 = 256 ^ i * (256 * (128 * 256 ^ (30 - i))) := by
    rw [show 256 ^ i * (256 * (128 * 256 ^ (30 - i))) = 128 * (256 ^ i * 256 ^ (30 - i) * 256) by ac_rfl, ← Nat.pow_add, show i + (30 - i) = 30 by omega]
   rw [e1, Nat.mod_mul, Nat.add_mul_div_left _ _ (Nat.pow_pos (by omega)), Nat.mod_mul, Nat.div_eq_of_lt (Nat.mod_lt n (Nat.pow_pos (by omega) : 0 < 256 ^ i)), Nat.zero_add, Nat.add_mul_mod_self_left, Nat.mod_mod]
def cof (n : Nat) : Bool × Nat × Nat := if n % 57896044618658097711785492504343953926634992332820282019728792003956564819968 < PP then bes (cx (n % 57896044618658097711785492504343953926634992332820282019728792003956564819968)) (decide (n / 57896044618658097711785492504343953926634992332820282019728792003956564819968 = 0)) (n % 57896044618658097711785492504343953926634992332820282019728792003956564819968) else (false, 0, 1)
theorem cof_yes (n : Nat) (h : n % 57896044618658097711785492504343953926634992332820282019728792003956564819968 < PP) : cof n = bes (cx (n % 57896044618658097711785492504343953926634992332820282019728792003956564819968)) (decide (n / 57896044618658097711785492504343953926634992332820282019728792003956564819968 = 0)) (n % 57896044618658097711785492504343953926634992332820282019728792003956564819968) := by unfold cof; rw [if_pos h]
theorem cof_no (n : Nat) (h : ¬ n % 57896044618658097711785492504343953926634992332820282019728792003956564819968 < PP) : cof n = (false, 0, 1) := by unfold cof; rw [if_neg h]
theorem even_bit (c q : Nat) (h : c / 128 = q) : (((c / 128 * 128 : Nat) : Int) == 0) = decide (q = 0) := by
 rw [← h]
 by_cases h0 : c / 128 = 0
 · rw [h0]; rfl
 · rw [decide_eq_false h0]
   exact beq_eq_false_iff_ne.2 (by omega)
open Go.Sx
theorem pof_any (n : Nat) (hn : n < 115792089237316195423570985008687907853269984665640564039457584007913129639936) (w : World) : Calls Tryz.prog 119 #[.agg (k32 n)] w (BeP (cof n) w) := by
 obtain ⟨c, hc, hcl, hcq, hcd⟩ := dg31_any n hn
 obtain ⟨n0, hn0⟩ : ∃ m, m = n % 57896044618658097711785492504343953926634992332820282019728792003956564819968 := ⟨_, rfl⟩
 obtain ⟨ev, hev⟩ : ∃ b, b = decide (n / 57896044618658097711785492504343953926634992332820282019728792003956564819968 = 0) := ⟨_, rfl⟩
 have hl0 : n0 < 115792089237316195423570985008687907853269984665640564039457584007913129639936 := by omega
 have hbit : (Qz .and .u8 (c : Int) 128 == 0) = ev := by rw [z6, and_128 c hcl, hev]; exact even_bit c _ hcq
 have hclr : row .u8 32 (upd (dg 256 n) 31 (Qz .andNot .u8 (c : Int) 128)) = k32 n0 := by rw [hn0]; exact key_clear n c hcd _ (andn_128 c hcl)
 refine (enter (vs := [.agg (k32 n)]) (R := fun v w' => ∃ (x y z1 : Nat) (b : Bool), zI x y z1 b (cof n).2.1 (cof n).2.2 (1 % PP) ∧ v = .tuple #[.agg (pt x y z1 b), .bool (cof n).1] ∧ Below w.heap.size w w') qc Tryz.func119 rfl Tryz.ntmps119 rfl (St.start w) ?_).mono (fun e w' ⟨v, he, x, y, z1, b, h1, h2, h3⟩ => ⟨x, y, z1, b, h1, by rw [he, h2], h3⟩)
 intro b1 b2
 refine ⟨by decide, by decide, ?_⟩
 refine ld1 0 rfl (v := .int .u8 (c : Int)) (by rw [← hc]; exact qP .u8 32 _ 31 (by decide)) ?_
 refine ⟨by decide, by decide, ?_⟩
 refine ld1 0 rfl (v := .int .u8 (c : Int)) (by rw [← hc]; exact qP .u8 32 _ 31 (by decide)) ?_
 refine ⟨by decide, by decide, ?_⟩
 refine s1e 0 (k32 n0) rfl (by show _ < (k32 n).size; rw [qf]; decide) ((zS _ _ _ 31 _).trans hclr) ?_
 refine ldN 0 rfl (qf _) ?_
 refine cv (fun w => fof_a n0 n0 hl0 (by omega) w) ?_
 intro b5
 refine sN 2 (d := e4 n0) rfl (by rw [qd]; rfl) (ql _) ?_ (by kernel_rfl)
 refine dr _ 3 (.t 0 (.t 1 (.t 2 (.n 3 .nil)))) qc qe (by kernel_rfl) (.refl _) ?_
 refine ldN 2 rfl (qd _) ?_
 refine cz (fun w => key_any n0 hl0 w) ?_
 refine ldN 0 rfl (qf _) ?_
 refine neR (by rfl) (by kernel_rfl) (k32_eq (n0 % PP) n0 (qdV n0) hl0) ?_
 by_cases hlt : n0 < PP
 · have hm := Nat.mod_eq_of_lt hlt
   have hR := cof_yes n (hn0 ▸ hlt)
   rw [← hn0, ← hev] at hR
   refine cf (by rw [hm]; simp) ?_
   refine ldN 2 rfl (qd _) ?_
   refine ce (v := fun x : Nat × Nat × Nat × Bool => .tuple #[.agg (pt x.1 x.2.1 x.2.2.1 x.2.2.2), .bool (cof n).1]) (Φ := fun x => zI x.1 x.2.1 x.2.2.1 x.2.2.2 (cof n).2.1 (cof n).2.2 (1 % PP)) (fun w _ => by
    rw [hbit]
    have := qei n0 ev hl0 w
    rw [hm, ← hR] at this
    exact this.mono fun e w' ⟨x, y, z1, b, h1, h2, h3⟩ => ⟨(x, y, z1, b), h1, h2, h3⟩) (fun x hx => ?_)
   refine sN 1 rfl (by rw [qo]; rfl) (by rw [Array.all_toList]; exact QW _ _ _ _) ?_ (by kernel_rfl)
   refine ldN 1 rfl (qo _ _ _ _) ?_
   exact ⟨fun w1 hs => ⟨_, _, _, _, hx, rfl, hs.below⟩⟩
 · have hne : ¬ n0 % PP = n0 := by
    have := Nat.mod_lt n0 qw
    omega
   have hR := cof_no n (hn0 ▸ hlt)
   refine ct (by rw [decide_eq_false hne]; rfl) ?_
   refine bu bd53z ?_
   refine sN 1 rfl (by rw [qo]; rfl) (by rw [Array.all_toList]; exact QW _ _ _ _) ?_ (by kernel_rfl)
   refine ldN 1 rfl (qo _ _ _ _) ?_
   exact ⟨fun w1 hs => ⟨0, 0, 0, false, by rw [hR]; exact ⟨⟨by decide, by decide, by decide⟩, .inr ⟨rfl, by decide +kernel, by decide +kernel, by decide +kernel⟩⟩, by rw [hR]; rfl, hs.below⟩⟩
end
section
open Go.RowKit Go.Lib
def GX : Nat := 15112221349535400772501151409588531511454012693041857206046113283949847762202
def GY : Nat := 46316835694926478169428394003475163141307993866256225615783033603165251855960
theorem GX_lt : GX < PP := by decide +kernel
theorem gy_pm : 4 * Nm.pm PP 256 5 (PP - 2) % PP = GY := by decide +kernel
theorem gx_pm : (GY * GY % PP + (PP - 1)) % PP * Nm.pm PP 256 ((SL * (GY * GY % PP) % PP + 1) % PP) (PP - 2) % PP = GX * GX % PP := by decide +kernel
theorem gy_val : 4 * pwm 5 (PP - 2) % PP = GY := by rw [qdG _ _ pp2_lt, gy_pm]
theorem cx_pm (Y r : Nat) (h : (Y * Y % PP + (PP - 1)) % PP * Nm.pm PP 256 ((SL * (Y * Y % PP) % PP + 1) % PP) (PP - 2) % PP = r) : cx Y = r := by
 unfold cx; rw [qdG _ _ pp2_lt, h]
theorem root_even (r : Nat) (hr : r < PP) (he : r % 2 = 0) : rt3 (r * r % PP) = r := by
 rcases rt3_root r with h | h
 · rw [h, Nat.mod_eq_of_lt hr]
 · have h1 := rt3_even (r * r % PP)
   have h2 := rt3_lt (r * r % PP)
   have h3 := PP_odd
   by_cases hh : rt3 (r * r % PP) + r < PP
   · rw [Nat.mod_eq_of_lt hh] at h; omega
   · have h4 : (rt3 (r * r % PP) + r) = PP + (rt3 (r * r % PP) + r - PP) := by omega
     rw [h4, Nat.add_mod_left, Nat.mod_eq_of_lt (by omega)] at h
     omega
theorem gx_even : GX % 2 = 0 := by decide +kernel
theorem gen_bes : bes (cx GY) true GY = (true, GX, GY) := by
 rw [cx_pm GY _ gx_pm, qb4 _ _ (rtok_sq GX), root_even GX GX_lt gx_even]
open Go.Sx
theorem gen_any (w : World) : Calls Tryz.prog 123 #[] w (PtP GX GY 1 w) := by
 have hov : ∀ w, Calls Tryz.prog 167 ([.agg (e4 4), .agg (e4 5)] : List Value).toArray w fun e w' => ∃ m : Nat, (m < 115792089237316195423570985008687907853269984665640564039457584007913129639936 ∧ m % PP = GY) ∧ e = .returned (.agg (e4 m)) ∧ Below w.heap.size w w' := fun w => by
  have := over_any 4 5 (by decide) (by decide) w
  rw [gy_val] at this
  exact this.mono fun e w' ⟨m, h1, h2, h3, h4⟩ => ⟨m, ⟨h1, h2⟩, h3, h4⟩
 have hbe : ∀ m, m < 115792089237316195423570985008687907853269984665640564039457584007913129639936 → m % PP = GY → ∀ w, Calls Tryz.prog 161 ([.agg (e4 m), .bool true] : List Value).toArray w fun e w' => ∃ x : Nat × Nat × Nat × Bool, zI x.1 x.2.1 x.2.2.1 x.2.2.2 GX GY 1 ∧ e = .returned (.tuple #[.agg (pt x.1 x.2.1 x.2.2.1 x.2.2.2), .bool true]) ∧ Below w.heap.size w w' := by
  intro m hm hr w
  have := qei m true hm w
  rw [hr, gen_bes] at this
  refine this.mono ?_
  rintro e w' ⟨x, y, z1, b, h1, h2, h3⟩
  rw [qaJ] at h1
  exact ⟨(x, y, z1, b), h1, h2, h3⟩
 refine (enter (vs := []) (R := fun v w' => ∃ (x y z1 : Nat) (b : Bool), zI x y z1 b GX GY 1 ∧ v = .agg (pt x y z1 b) ∧ Below w.heap.size w w') qc Tryz.func123 rfl Tryz.ntmps123 rfl (St.start w) ?_).mono (fun e w' ⟨v, he, x, y, z1, b, h1, h2, h3⟩ => ⟨x, y, z1, b, h1, by rw [he, h2], h3⟩)
 intro b0
 refine cv (qaw 4 (by decide)) ?_
 refine cv (qaw 5 (by decide)) ?_
 refine ce (v := fun m => .agg (e4 m)) (fun w _ => hov w) (fun m hm => ?_)
 refine ce (v := fun x : Nat × Nat × Nat × Bool => .tuple #[.agg (pt x.1 x.2.1 x.2.2.1 x.2.2.2), .bool true]) (fun w _ => hbe m hm.1 hm.2 w) (fun x hx => ?_)
 intro b1
 refine sN 1 rfl (by rw [qo]; rfl) (by rw [Array.all_toList]; exact QW _ _ _ _) ?_ (by kernel_rfl)
 refine ldN 1 rfl (qo _ _ _ _) ?_
 refine sN 0 rfl (by rw [qo]; rfl) (by rw [Array.all_toList]; exact QW _ _ _ _) ?_ (by kernel_rfl)
 refine ldN 0 rfl (qo _ _ _ _) ?_
 exact ⟨fun w1 hs => ⟨_, _, _, _, hx, rfl, hs.below⟩⟩
theorem cx_1 : cx 1 = 0 := cx_pm 1 0 (by decide +kernel)
end
section
theorem fi_to (a : Nat) (p : Fin PP) (h : fi a = p) : a % PP = p.val := congrArg Fin.val h
theorem finv_fi (Z : Nat) : qF (fi Z) = fi (pwm Z (PP - 2)) := by
 unfold qF
 show fi (pwm (Z % PP) (PP - 2)) = _
 rw [qao]
theorem quot_rep (X Z : Nat) (x : Fin PP) (h : fi X = x * fi Z) (hz : fi Z ≠ 0) : X * pwm Z (PP - 2) % PP = x.val := by
 apply fi_to
 rw [Qa, ← finv_fi, h]
 have := fld.inv _ hz
 grind
def qaM (p : Fin PP × Fin PP) : Nat := p.2.val + p.1.val % 2 * 57896044618658097711785492504343953926634992332820282019728792003956564819968
theorem keyn_rep (X Y Z : Nat) (p : Fin PP × Fin PP) (h : Rep X Y Z p) : keyn X Y Z = qaM p := by
 obtain ⟨hx, hy, hz, _⟩ := h
 unfold keyn qaM
 rw [quot_rep X Z _ hx hz, quot_rep Y Z _ hy hz]
theorem Fld.y_ne {n : Nat} [NeZero n] {d i : Fin n} {inv : Fin n → Fin n} (F : Fld n d i inv) (y : Fin n) : d * (y * y) + 1 ≠ 0 := by
 intro h
 have hr := F.root
 have h1 : i * i = d * (y * y) := by grind
 have h2 := F.non _ _ h1
 have h3 : (0 : Fin n) = 1 := by grind
 exact F.one h3.symm
theorem cx_fi (Y : Nat) : fi (cx Y) * (fd * (fi Y * fi Y) + 1) = fi Y * fi Y - 1 := by
 have hn := fld.y_ne (fi Y)
 have hq : fi ((SL * (Y * Y % PP) % PP + 1) % PP) = fd * (fi Y * fi Y) + 1 := by
  simp only [Qq, Za, Qa, zF]; rfl
 have hm : fi ((Y * Y % PP + (PP - 1)) % PP) = fi Y * fi Y - 1 := by
  have e : PP - 1 = PP - 1 % PP := by rw [qaJ]
  rw [e]
  simp only [Qq, Za, qcF, Qa, zF]
  grind
 unfold cx
 rw [Qq, Qa, hm, ← finv_fi, hq]
 have := fld.inv _ hn
 grind
theorem cx_lt (Y : Nat) : cx Y < PP := Nat.mod_lt _ qw
theorem on_of (X Y : Nat) (h : X * X % PP = cx Y) : OnP fd (fi X, fi Y) := by
 have h1 := cx_fi Y
 rw [← h, Qq, Qa] at h1
 show fi Y * fi Y - fi X * fi X = 1 + fd * fi X * fi X * fi Y * fi Y
 grind
theorem sq_of (p : Fin PP × Fin PP) (h : OnP fd p) : p.1.val * p.1.val % PP = cx p.2.val := by
 have h1 := cx_fi p.2.val
 rw [Q5] at h1
 have ho : p.2 * p.2 - p.1 * p.1 = 1 + fd * p.1 * p.1 * p.2 * p.2 := h
 have h2 : fi (p.1.val * p.1.val) = fi (cx p.2.val) := by
  rw [Qa, Q5]
  refine fld.cancel _ _ _ (fld.y_ne p.2) ?_
  rw [h1]
  grind
 have h3 := (ZN _ _).1 h2
 rw [h3, Nat.mod_eq_of_lt (cx_lt _)]
theorem cof_keyP (p : Fin PP × Fin PP) (h : OnP fd p) : cof (qaM p) = (true, p.1.val, p.2.val) := by
 have hs := sq_of p h
 have hx := p.1.isLt
 have hy := p.2.isLt
 obtain ⟨x, ex⟩ : ∃ x, x = p.1.val := ⟨_, rfl⟩
 obtain ⟨y, ey⟩ : ∃ y, y = p.2.val := ⟨_, rfl⟩
 unfold qaM
 rw [← ex, ← ey] at hs ⊢
 rw [← ex] at hx
 rw [← ey] at hy
 have hp := PP_255
 have hb : x % 2 < 2 := Nat.mod_lt _ (by omega)
 have e1 : (y + x % 2 * 57896044618658097711785492504343953926634992332820282019728792003956564819968) % 57896044618658097711785492504343953926634992332820282019728792003956564819968 = y := by omega
 have e2 : (y + x % 2 * 57896044618658097711785492504343953926634992332820282019728792003956564819968) / 57896044618658097711785492504343953926634992332820282019728792003956564819968 = x % 2 := by omega
 rw [cof_yes _ (by rw [e1]; exact hy), e1, e2]
 have hok : zw (cx y) = true := by rw [← hs]; exact rtok_sq x
 have hr := rt3_root x
 rw [hs, Nat.mod_eq_of_lt hx] at hr
 have he := rt3_even (cx y)
 have hl := rt3_lt (cx y)
 have ho := PP_odd
 obtain ⟨r, er⟩ : ∃ r, r = rt3 (cx y) := ⟨_, rfl⟩
 rw [← er] at hr he hl
 have hr2 : r = x ∨ r + x = PP ∨ r + x = 0 := by
  rcases hr with hr | hr
  · exact .inl hr
  · by_cases hh : r + x < PP
    · rw [Nat.mod_eq_of_lt hh] at hr; exact .inr (.inr hr)
    · have e : r + x = PP + (r + x - PP) := by omega
      rw [e, Nat.add_mod_left, Nat.mod_eq_of_lt (by omega)] at hr
      exact .inr (.inl (by omega))
 rcases Nat.mod_two_eq_zero_or_one x with hx2 | hx2
 · rw [hx2, decide_eq_true rfl, qb4 _ _ hok, ← er]
   have : r = x := by omega
   rw [this]
 · rw [hx2, decide_eq_false (by decide), bes_odd _ _ hok (by rw [← er]; omega), ← er, Nat.zero_mod, Nat.zero_add]
   have : PP - r = x := by omega
   rw [this, Nat.mod_eq_of_lt hx]
theorem rep_of (X Y : Nat) (h : X * X % PP = cx Y) : Rep X Y 1 (fi X, fi Y) := by
 refine ⟨?_, ?_, ?_, on_of X Y h⟩
 · rw [zF]; show fi X = fi X * 1; grind
 · rw [zF]; show fi Y = fi Y * 1; grind
 · rw [zF]; exact fld.one
theorem cof_rep (n : Nat) : Rep (cof n).2.1 (cof n).2.2 1 (fi (cof n).2.1, fi (cof n).2.2) := by
 apply rep_of
 have h0 : 0 * 0 % PP = cx 1 := by rw [cx_1, Nat.zero_mul, Nat.zero_mod]
 by_cases hp : n % 57896044618658097711785492504343953926634992332820282019728792003956564819968 < PP
 · rw [cof_yes n hp]
   cases hok : zw (cx (n % 57896044618658097711785492504343953926634992332820282019728792003956564819968)) with
   | false => rw [bes_no1 _ _ _ hok]; exact h0
   | true =>
    have hsq := rt3_sq _ hok
    cases hev : decide (n / 57896044618658097711785492504343953926634992332820282019728792003956564819968 = 0) with
    | true => rw [qb4 _ _ hok]; exact hsq
    | false =>
     by_cases hz : rt3 (cx (n % 57896044618658097711785492504343953926634992332820282019728792003956564819968)) = 0
     · rw [bes_no2 _ _ hz]; exact h0
     · rw [bes_odd _ _ hok hz]
       show (0 % PP + (PP - rt3 _)) % PP * ((0 % PP + (PP - rt3 _)) % PP) % PP = cx _
       rw [Nat.zero_mod, Nat.zero_add, ← Nat.mul_mod, neg_sq _ (rt3_lt _)]
       exact hsq
 · rw [cof_no n hp]; exact h0
theorem neg_rep (X Y Z : Nat) (p : Fin PP × Fin PP) (hp : Rep X Y Z p) (hX : X < PP) : Rep (negP X) Y Z (-p.1, p.2) := by
 obtain ⟨x1, y1, z1, o1⟩ := hp
 refine ⟨?_, y1, z1, on_neg p o1⟩
 unfold negP
 rw [Nat.zero_mod, Nat.zero_add, Qq]
 have h := qcF X
 rw [Nat.mod_eq_of_lt hX] at h
 rw [h, x1]
 show -(p.1 * fi Z) = -p.1 * fi Z
 grind
theorem qde : Rep 0 1 1 (0, 1) := by
 refine ⟨?_, ?_, ?_, qbK⟩
 · rw [Zg, zF]; grind
 · rw [zF]; grind
 · rw [zF]; exact fld.one
def qdK (g : Nat × Nat × Nat) : Nat → Nat → Nat × Nat × Nat
 | 0, _ => (0, 1, 1)
 | f + 1, e =>
  let h := qdK g f (e / 2)
  let h2 := qaq SL h.1 h.2.1 h.2.2 h.1 h.2.1 h.2.2
  if e % 2 = 1 then qaq SL h2.1 h2.2.1 h2.2.2 g.1 g.2.1 g.2.2 else h2
theorem pmul_rep (g : Nat × Nat × Nat) (p : Fin PP × Fin PP) (hp : Rep g.1 g.2.1 g.2.2 p) : ∀ f e, e < 2 ^ f → Rep (qdK g f e).1 (qdK g f e).2.1 (qdK g f e).2.2 (qS qF fd p e) := by
 have ho : OnP fd p := hp.2.2.2
 intro f
 induction f with
 | zero =>
  intro e he
  obtain rfl : e = 0 := by rw [Nat.pow_zero] at he; omega
  exact qde
 | succ f ih =>
  intro e he
  have h1 := ih (e / 2) (by rw [Nat.pow_succ] at he; omega)
  have h2 := qbJ _ _ _ _ _ _ _ _ h1 h1
  rw [← fld.mul_add p ho] at h2
  unfold qdK
  rcases Nat.mod_two_eq_zero_or_one e with hb | hb
  · rw [if_neg (by rw [hb]; decide)]
    rw [show e / 2 + e / 2 = e by omega] at h2
    exact h2
  · rw [if_pos hb]
    have h3 := qbJ _ _ _ _ _ _ _ _ h2 hp
    have h4 : QL qF fd (qS qF fd p (e / 2 + e / 2)) p = qS qF fd p e := by
     have h5 : e = e / 2 + e / 2 + 1 := by omega
     calc QL qF fd (qS qF fd p (e / 2 + e / 2)) p = qS qF fd p (e / 2 + e / 2 + 1) := rfl
      _ = qS qF fd p e := by rw [← h5]
    rw [h4] at h3
    exact h3
def gG : Fin PP × Fin PP := (fi GX, fi GY)
theorem gen_sq : GX * GX % PP = cx GY := (cx_pm GY _ gx_pm).symm
theorem qc9 : Rep GX GY 1 gG := rep_of GX GY gen_sq
def LL : Nat := 7237005577332262213973186563042994240857116359379907606001950938285454250989
theorem order_val : (qdK (GX, GY, 1) 253 LL).1 % PP = 0 ∧ (qdK (GX, GY, 1) 253 LL).2.1 % PP = (qdK (GX, GY, 1) 253 LL).2.2 % PP := by decide +kernel
end
section
open Go.RowKit Go.Lib
theorem bd24s : Tryz.prog.built 36 [(0, .int .u8 163), (1, .int .u8 120), (2, .int .u8 89), (3, .int .u8 19), (4, .int .u8 202), (5, .int .u8 77), (6, .int .u8 235), (7, .int .u8 117), (8, .int .u8 171), (9, .int .u8 216), (10, .int .u8 65), (11, .int .u8 65), (12, .int .u8 77), (13, .int .u8 10), (14, .int .u8 112), (15, .int .u8 0), (16, .int .u8 152), (17, .int .u8 232), (18, .int .u8 121), (19, .int .u8 119), (20, .int .u8 121), (21, .int .u8 64), (22, .int .u8 199), (23, .int .u8 140), (24, .int .u8 115), (25, .int .u8 254), (26, .int .u8 111), (27, .int .u8 43), (28, .int .u8 238), (29, .int .u8 108), (30, .int .u8 3), (31, .int .u8 82)] = some (k32 SL) := by kernel_rfl
theorem SL_255 : SL % 2 ^ 255 % PP = SL := by decide +kernel
open Go.Sx
theorem QK (n : Nat) : (r22 n).toList.all (·.oneCell') = true := by unfold r22 row; exact List.all_eq_true.2 fun v hv => Zv _ _ _ v hv
theorem rslope_any (w : World) : Calls Tryz.prog 111 #[] w fun e w' => e = .returned (.agg (r22 SL)) ∧ Below w.heap.size w w' := by
 refine qj (vs := []) qc Tryz.func111 rfl Tryz.ntmps111 rfl (St.start w) ?_
 intro b0
 refine bu (c := k32 SL) bd24s ?_
 refine cv (v := .agg (r22 SL)) (fun w => by have := rof_any SL w; rwa [SL_255] at this) ?_
 refine sN 0 (d := r22 SL) rfl (by rw [qg]; rfl) (QK _) ?_ (by kernel_rfl)
 refine ldN 0 rfl (qg _) ?_
 exact rt rfl
theorem rorigin_any (w : World) : Calls Tryz.prog 78 #[] w fun e w' => e = .returned (.agg (rp 0 1 1 0)) ∧ Below w.heap.size w w' := by
 refine qj (vs := []) qc Tryz.func78 rfl Tryz.ntmps78 rfl (St.start w) ?_
 intro b0
 refine cv (v := .agg (r22 1)) (fun w => by have := qc6 1 (by decide) w; rwa [qaJ] at this) ?_
 intro b1
 refine sN 1 (d := r22 1) rfl (by rw [qg]; rfl) (QK _) ?_ (by kernel_rfl)
 refine ldN 1 rfl (qg _) ?_
 refine ldN 1 rfl (qg _) ?_
 refine bu (c := rp 0 1 1 0) (bd57o 1 1) ?_
 refine sN 0 (d := rp 0 1 1 0) rfl (by rw [Qv]; rfl) (by rw [Array.all_toList]; exact qbl _ _ _ _) ?_ (by kernel_rfl)
 refine ldN 0 rfl (Qv _ _ _ _) ?_
 exact rt rfl
end
section
open Go.RowKit Go.Lib Go.Sx
def qdF (X1 Y1 Z1 T1 X2 Y2 Z2 T2 : Nat) : Nat × Nat × Nat × Nat :=
 let A := X1 * X2 % PP
 let B := Y1 * Y2 % PP
 let C0 := T1 * T2 % PP
 let C := SL * C0 % PP
 let D := Z1 * Z2 % PP
 let E1 := X1 * Y2 % PP
 let E2 := Y1 * X2 % PP
 let E := (E1 + E2) % PP
 let F := (D + (PP - C)) % PP
 let G := (D + C) % PP
 let H := (B + A) % PP
 (E * F % PP, G * H % PP, F * G % PP, E * H % PP)
theorem radd_def (X1 Y1 Z1 T1 X2 Y2 Z2 T2 A Bq C0 Cq Dq E1 E2 E F G Hq X3 Y3 Z3 T3 : Nat) (hA : A = X1 * X2 % PP) (hBq : Bq = Y1 * Y2 % PP) (hC0 : C0 = T1 * T2 % PP) (hCq : Cq = SL * C0 % PP) (hDq : Dq = Z1 * Z2 % PP) (hE1 : E1 = X1 * Y2 % PP) (hE2 : E2 = Y1 * X2 % PP) (hE : E = (E1 + E2) % PP) (hF : F = (Dq + (PP - Cq)) % PP) (hG : G = (Dq + Cq) % PP) (hHq : Hq = (Bq + A) % PP) (hX3 : X3 = E * F % PP) (hY3 : Y3 = G * Hq % PP) (hZ3 : Z3 = F * G % PP) (hT3 : T3 = E * Hq % PP) : qdF X1 Y1 Z1 T1 X2 Y2 Z2 T2 = (X3, Y3, Z3, T3) := by
 unfold qdF
 rw [hX3, hY3, hZ3, hT3, hF, hG, hE, hE1, hE2, hHq, hCq, hC0, hDq, hA, hBq]
theorem sNx {C : Cx} {L : List Ent} (k : Nat) (L' : List Ent) {b : Nat} {c d : Array Value} {t t' : TypeId} {next : List Ent → Prop} (hk : L[k]? = some (cl b c t')) (hL : L.set k (cl b d t') = L') (hd : d.size = c.size) (h1 : d.toList.all (·.oneCell') = true) (go : next L')
 (hz : zn C.P t d.size = true) : StP C t L b 0 (.agg d) next := sN k hk hd h1 (by rw [hL]; exact go) hz
theorem rpplus_any (X1 Y1 Z1 T1 X2 Y2 Z2 T2 : Nat) (x1 : X1 < PP) (y1 : Y1 < PP) (z1 : Z1 < PP) (t1 : T1 < PP) (x2 : X2 < PP) (y2 : Y2 < PP) (z2 : Z2 < PP) (t2 : T2 < PP) (w : World) :
 Calls Tryz.prog 79 #[.agg (rp X1 Y1 Z1 T1), .agg (rp X2 Y2 Z2 T2)] w fun e w' => e = .returned (.agg (rp (qdF X1 Y1 Z1 T1 X2 Y2 Z2 T2).1 (qdF X1 Y1 Z1 T1 X2 Y2 Z2 T2).2.1 (qdF X1 Y1 Z1 T1 X2 Y2 Z2 T2).2.2.1 (qdF X1 Y1 Z1 T1 X2 Y2 Z2 T2).2.2.2)) ∧ Below w.heap.size w w' := by
 obtain ⟨A, hA⟩ : ∃ v, v = X1 * X2 % PP := ⟨_, rfl⟩
 have lA : A < PP := by rw [hA]; exact Nat.mod_lt _ qw
 obtain ⟨Bq, hBq⟩ : ∃ v, v = Y1 * Y2 % PP := ⟨_, rfl⟩
 have lBq : Bq < PP := by rw [hBq]; exact Nat.mod_lt _ qw
 obtain ⟨C0, hC0⟩ : ∃ v, v = T1 * T2 % PP := ⟨_, rfl⟩
 have lC0 : C0 < PP := by rw [hC0]; exact Nat.mod_lt _ qw
 obtain ⟨Cq, hCq⟩ : ∃ v, v = SL * C0 % PP := ⟨_, rfl⟩
 have lCq : Cq < PP := by rw [hCq]; exact Nat.mod_lt _ qw
 obtain ⟨Dq, hDq⟩ : ∃ v, v = Z1 * Z2 % PP := ⟨_, rfl⟩
 have lDq : Dq < PP := by rw [hDq]; exact Nat.mod_lt _ qw
 obtain ⟨E1, hE1⟩ : ∃ v, v = X1 * Y2 % PP := ⟨_, rfl⟩
 have lE1 : E1 < PP := by rw [hE1]; exact Nat.mod_lt _ qw
 obtain ⟨E2, hE2⟩ : ∃ v, v = Y1 * X2 % PP := ⟨_, rfl⟩
 have lE2 : E2 < PP := by rw [hE2]; exact Nat.mod_lt _ qw
 obtain ⟨E, hE⟩ : ∃ v, v = (E1 + E2) % PP := ⟨_, rfl⟩
 have lE : E < PP := by rw [hE]; exact Nat.mod_lt _ qw
 obtain ⟨F, hF⟩ : ∃ v, v = (Dq + (PP - Cq)) % PP := ⟨_, rfl⟩
 have lF : F < PP := by rw [hF]; exact Nat.mod_lt _ qw
 obtain ⟨G, hG⟩ : ∃ v, v = (Dq + Cq) % PP := ⟨_, rfl⟩
 have lG : G < PP := by rw [hG]; exact Nat.mod_lt _ qw
 obtain ⟨Hq, hHq⟩ : ∃ v, v = (Bq + A) % PP := ⟨_, rfl⟩
 have lHq : Hq < PP := by rw [hHq]; exact Nat.mod_lt _ qw
 obtain ⟨X3, hX3⟩ : ∃ v, v = E * F % PP := ⟨_, rfl⟩
 have lX3 : X3 < PP := by rw [hX3]; exact Nat.mod_lt _ qw
 obtain ⟨Y3, hY3⟩ : ∃ v, v = G * Hq % PP := ⟨_, rfl⟩
 have lY3 : Y3 < PP := by rw [hY3]; exact Nat.mod_lt _ qw
 obtain ⟨Z3, hZ3⟩ : ∃ v, v = F * G % PP := ⟨_, rfl⟩
 have lZ3 : Z3 < PP := by rw [hZ3]; exact Nat.mod_lt _ qw
 obtain ⟨T3, hT3⟩ : ∃ v, v = E * Hq % PP := ⟨_, rfl⟩
 have lT3 : T3 < PP := by rw [hT3]; exact Nat.mod_lt _ qw
 rw [radd_def X1 Y1 Z1 T1 X2 Y2 Z2 T2 A Bq C0 Cq Dq E1 E2 E F G Hq X3 Y3 Z3 T3 hA hBq hC0 hCq hDq hE1 hE2 hE hF hG hHq hX3 hY3 hZ3 hT3]
 have kA := q9 X1 X2 x1 x2
 rw [← hA] at kA
 have kB := q9 Y1 Y2 y1 y2
 rw [← hBq] at kB
 have kC0 := q9 T1 T2 t1 t2
 rw [← hC0] at kC0
 have kC := q9 SL C0 SL_lt lC0
 rw [← hCq] at kC
 have kD := q9 Z1 Z2 z1 z2
 rw [← hDq] at kD
 have kE1 := q9 X1 Y2 x1 y2
 rw [← hE1] at kE1
 have kE2 := q9 Y1 X2 y1 x2
 rw [← hE2] at kE2
 have kE := qa2 E1 E2 (qcM _ lE1) (qcM _ lE2)
 rw [← hE] at kE
 have kF := rminus_any Dq Cq lDq lCq
 rw [← hF] at kF
 have kG := qa2 Dq Cq (qcM _ lDq) (qcM _ lCq)
 rw [← hG] at kG
 have kH := qa2 Bq A (qcM _ lBq) (qcM _ lA)
 rw [← hHq] at kH
 have kX := q9 E F lE lF
 rw [← hX3] at kX
 have kY := q9 G Hq lG lHq
 rw [← hY3] at kY
 have kZ := q9 F G lF lG
 rw [← hZ3] at kZ
 have kT := q9 E Hq lE lHq
 rw [← hT3] at kT
 refine qj qc Tryz.func79 rfl Tryz.ntmps79 rfl (St.start w) ?_
 intro b2 b3 b4
 refine ldP 0 rfl (qg _) (rp_xx _ _ _ _) ?_
 refine ldP 1 rfl (qg _) (rp_xx _ _ _ _) ?_
 refine cv kA ?_
 intro b5
 refine sNx 3 [cl b2 (rp X1 Y1 Z1 T1) _, cl b3 (rp X2 Y2 Z2 T2) _, cl b4 _ _, cl b5 (r22 A) _] rfl rfl (by rw [qg]; rfl) (QK _) ?_ (by kernel_rfl)
 refine ldP 0 rfl (qg _) (rp_yx _ _ _ _) ?_
 refine ldP 1 rfl (qg _) (rp_yx _ _ _ _) ?_
 refine cv kB ?_
 intro b6
 refine sNx 4 [cl b2 (rp X1 Y1 Z1 T1) _, cl b3 (rp X2 Y2 Z2 T2) _, cl b4 _ _, cl b5 (r22 A) _, cl b6 (r22 Bq) _] rfl rfl (by rw [qg]; rfl) (QK _) ?_ (by kernel_rfl)
 refine dr _ 8 (.t 0 (.t 1 (.t 2 (.t 3 (.t 4 (.t 5 (.t 6 (.n 7 (.n 8 .nil))))))))) qc qe (by kernel_rfl) (.refl _) ?_
 refine cz rslope_any ?_
 refine ldP 0 rfl (qg _) (rp_tx _ _ _ _) ?_
 refine ldP 1 rfl (qg _) (rp_tx _ _ _ _) ?_
 refine cz kC0 ?_
 refine cz kC ?_
 intro b7
 refine ⟨qk _, ?_⟩
 refine sNx 5 [cl b2 (rp X1 Y1 Z1 T1) _, cl b3 (rp X2 Y2 Z2 T2) _, cl b4 _ _, cl b5 (r22 A) _, cl b6 (r22 Bq) _, cl b7 (r22 Cq) _] rfl rfl (by rw [qg]; rfl) (QK _) ?_ (by kernel_rfl)
 refine ldP 0 rfl (qg _) (rp_zx _ _ _ _) ?_
 refine ldP 1 rfl (qg _) (rp_zx _ _ _ _) ?_
 refine cv kD ?_
 intro b8
 refine sNx 6 [cl b2 (rp X1 Y1 Z1 T1) _, cl b3 (rp X2 Y2 Z2 T2) _, cl b4 _ _, cl b5 (r22 A) _, cl b6 (r22 Bq) _, cl b7 (r22 Cq) _, cl b8 (r22 Dq) _] rfl rfl (by rw [qg]; rfl) (QK _) ?_ (by kernel_rfl)
 refine dr _ 12 (.t 0 (.t 1 (.t 2 (.t 3 (.t 4 (.t 5 (.t 6 (.t 7 (.t 8 (.t 9 (.t 10 (.n 11 (.n 12 .nil))))))))))))) qc qe (by kernel_rfl) (.refl _) ?_
 refine ldP 0 rfl (qg _) (rp_xx _ _ _ _) ?_
 refine ldP 1 rfl (qg _) (rp_yx _ _ _ _) ?_
 refine cz kE1 ?_
 refine ldP 0 rfl (qg _) (rp_yx _ _ _ _) ?_
 refine ldP 1 rfl (qg _) (rp_xx _ _ _ _) ?_
 refine cz kE2 ?_
 refine cz kE ?_
 intro b9
 refine ⟨qk _, ?_⟩
 refine sNx 7 [cl b2 (rp X1 Y1 Z1 T1) _, cl b3 (rp X2 Y2 Z2 T2) _, cl b4 _ _, cl b5 (r22 A) _, cl b6 (r22 Bq) _, cl b7 (r22 Cq) _, cl b8 (r22 Dq) _, cl b9 (r22 E) _] rfl rfl (by rw [qg]; rfl) (QK _) ?_ (by kernel_rfl)
 refine ldN 6 rfl (qg _) ?_
 refine ldN 5 rfl (qg _) ?_
 refine cv kF ?_
 intro b10
 refine sNx 8 [cl b2 (rp X1 Y1 Z1 T1) _, cl b3 (rp X2 Y2 Z2 T2) _, cl b4 _ _, cl b5 (r22 A) _, cl b6 (r22 Bq) _, cl b7 (r22 Cq) _, cl b8 (r22 Dq) _, cl b9 (r22 E) _, cl b10 (r22 F) _] rfl rfl (by rw [qg]; rfl) (QK _) ?_ (by kernel_rfl)
 refine ldN 6 rfl (qg _) ?_
 refine ldN 5 rfl (qg _) ?_
 refine cv kG ?_
 intro b11
 refine sNx 9 [cl b2 (rp X1 Y1 Z1 T1) _, cl b3 (rp X2 Y2 Z2 T2) _, cl b4 _ _, cl b5 (r22 A) _, cl b6 (r22 Bq) _, cl b7 (r22 Cq) _, cl b8 (r22 Dq) _, cl b9 (r22 E) _, cl b10 (r22 F) _, cl b11 (r22 G) _] rfl rfl (by rw [qg]; rfl) (QK _) ?_ (by kernel_rfl)
 refine ldN 4 rfl (qg _) ?_
 refine ldN 3 rfl (qg _) ?_
 refine cv kH ?_
 intro b12
 refine sNx 10 [cl b2 (rp X1 Y1 Z1 T1) _, cl b3 (rp X2 Y2 Z2 T2) _, cl b4 _ _, cl b5 (r22 A) _, cl b6 (r22 Bq) _, cl b7 (r22 Cq) _, cl b8 (r22 Dq) _, cl b9 (r22 E) _, cl b10 (r22 F) _, cl b11 (r22 G) _, cl b12 (r22 Hq) _] rfl rfl (by rw [qg]; rfl) (QK _) ?_ (by kernel_rfl)
 refine dr _ 13 (.t 0 (.t 1 (.t 2 (.t 3 (.t 4 (.t 5 (.t 6 (.t 7 (.t 8 (.t 9 (.t 10 (.t 11 (.t 12 (.n 13 .nil)))))))))))))) qc qe (by kernel_rfl) (.refl _) ?_
 refine ldN 7 rfl (qg _) ?_
 refine ldN 8 rfl (qg _) ?_
 refine cz kX ?_
 refine ldN 9 rfl (qg _) ?_
 refine ldN 10 rfl (qg _) ?_
 refine cz kY ?_
 refine ldN 8 rfl (qg _) ?_
 refine ldN 9 rfl (qg _) ?_
 refine cz kZ ?_
 refine ldN 7 rfl (qg _) ?_
 refine ldN 10 rfl (qg _) ?_
 refine cz kT ?_
 refine bu (bd57 X3 Y3 Z3 T3) ?_
 refine sN 2 rfl (by rw [Qv]; rfl) (by rw [List.all_eq_true]; exact fun v hv => Array.all_eq_true_iff_forall_mem.1 (qbl X3 Y3 Z3 T3) v (by simpa using hv)) ?_ (by rw [Qv]; kernel_rfl)
 refine ldN 2 rfl (Qv _ _ _ _) ?_
 exact rt rfl
end
section
def Rep4 (X Y Z T : Nat) (p : Fin PP × Fin PP) : Prop := Rep X Y Z p ∧ fi T = p.1 * p.2 * fi Z
theorem radd_rep (X1 Y1 Z1 T1 X2 Y2 Z2 T2 : Nat) (p q : Fin PP × Fin PP) (hp : Rep4 X1 Y1 Z1 T1 p) (hq : Rep4 X2 Y2 Z2 T2 q) :
 Rep4 (qdF X1 Y1 Z1 T1 X2 Y2 Z2 T2).1 (qdF X1 Y1 Z1 T1 X2 Y2 Z2 T2).2.1 (qdF X1 Y1 Z1 T1 X2 Y2 Z2 T2).2.2.1 (qdF X1 Y1 Z1 T1 X2 Y2 Z2 T2).2.2.2 (QL qF fd p q) := by
 obtain ⟨⟨x1, y1, z1, o1⟩, t1⟩ := hp
 obtain ⟨⟨x2, y2, z2, o2⟩, t2⟩ := hq
 have ex := fld.sx_eq p.1 p.2 q.1 q.2 o1 o2
 have ey := fld.sy_eq p.1 p.2 q.1 q.2 o1 o2
 have np := fld.plus_ne p.1 p.2 q.1 q.2 o1 o2
 have nm := fld.minus_ne p.1 p.2 q.1 q.2 o1 o2
 have hA : fi Z1 * fi Z2 ≠ 0 := fld.mul_ne z1 z2
 have ho := fld.on_add p q o1 o2
 have eF : fi ((Z1 * Z2 % PP + (PP - SL * (T1 * T2 % PP) % PP)) % PP) = fi Z1 * fi Z2 * (1 - fd * p.1 * q.1 * p.2 * q.2) := by
  simp only [Qq, qcF, Qa, Za]
  rw [t1, t2]
  show _ + -(fd * _) = _
  grind
 have eG : fi ((Z1 * Z2 % PP + SL * (T1 * T2 % PP) % PP) % PP) = fi Z1 * fi Z2 * (1 + fd * p.1 * q.1 * p.2 * q.2) := by
  simp only [Qq, Qa, Za]
  rw [t1, t2]
  show _ + fd * _ = _
  grind
 have eE : fi ((X1 * Y2 % PP + Y1 * X2 % PP) % PP) = fi Z1 * fi Z2 * (p.1 * q.2 + q.1 * p.2) := by
  simp only [Qq, Qa, Za]
  rw [x1, x2, y1, y2]
  grind
 have eH : fi ((Y1 * Y2 % PP + X1 * X2 % PP) % PP) = fi Z1 * fi Z2 * (p.2 * q.2 + p.1 * q.1) := by
  simp only [Qq, Qa, Za]
  rw [x1, x2, y1, y2]
  grind
 unfold Rep4 Rep QL
 unfold qdF
 refine ⟨⟨?_, ?_, ?_, ho⟩, ?_⟩
 · show fi (_ * _ % PP) = sx qF fd p.1 p.2 q.1 q.2 * fi (_ * _ % PP)
   simp only [Qq, Qa] at eF eG eE eH ⊢
   rw [eF, eG, eE, ← ex]
   grind
 · show fi (_ * _ % PP) = sy qF fd p.1 p.2 q.1 q.2 * fi (_ * _ % PP)
   simp only [Qq, Qa] at eF eG eE eH ⊢
   rw [eF, eG, eH, ← ey]
   grind
 · show fi (_ * _ % PP) ≠ 0
   rw [Qq, Qa, eF, eG]
   exact fld.mul_ne (fld.mul_ne hA nm) (fld.mul_ne hA np)
 · show fi (_ * _ % PP) = sx qF fd p.1 p.2 q.1 q.2 * sy qF fd p.1 p.2 q.1 q.2 * fi (_ * _ % PP)
   simp only [Qq, Qa] at eF eG eE eH ⊢
   rw [eF, eG, eE, eH, ← ex, ← ey]
   grind
end
section
open Go.RowKit Go.Lib
def Rq (X Y Z T : Nat) (p : Fin PP × Fin PP) : Prop := Rep4 X Y Z T p ∧ X < PP ∧ Y < PP ∧ Z < PP ∧ T < PP
theorem radd_rq (X1 Y1 Z1 T1 X2 Y2 Z2 T2 : Nat) (p q : Fin PP × Fin PP) (hp : Rq X1 Y1 Z1 T1 p) (hq : Rq X2 Y2 Z2 T2 q) (w : World) :
 Calls Tryz.prog 79 #[.agg (rp X1 Y1 Z1 T1), .agg (rp X2 Y2 Z2 T2)] w fun e w' => ∃ X Y Z T : Nat, Rq X Y Z T (QL qF fd p q) ∧ e = .returned (.agg (rp X Y Z T)) ∧ Below w.heap.size w w' := by
 obtain ⟨r1, x1, y1, z1, t1⟩ := hp
 obtain ⟨r2, x2, y2, z2, t2⟩ := hq
 refine (rpplus_any X1 Y1 Z1 T1 X2 Y2 Z2 T2 x1 y1 z1 t1 x2 y2 z2 t2 w).mono ?_
 rintro e w' ⟨rfl, hb⟩
 exact ⟨_, _, _, _, ⟨radd_rep _ _ _ _ _ _ _ _ p q r1 r2, Nat.mod_lt _ qw, Nat.mod_lt _ qw, Nat.mod_lt _ qw, Nat.mod_lt _ qw⟩, rfl, hb⟩
theorem zero_rq : Rq 0 1 1 0 (0, 1) := by
 have h1 : 1 < PP := by have := QR; omega
 refine ⟨⟨qde, ?_⟩, qw, h1, h1, qw⟩
 rw [Zg, zF]
 show (0 : Fin PP) = 0 * 1 * 1
 grind
theorem bit_val (n j : Nat) : n / 256 ^ (j / 8) % 256 / 2 ^ (j % 8) % 2 = n / 2 ^ j % 2 := by
 have e : 2 ^ j = 256 ^ (j / 8) * 2 ^ (j % 8) := by
  rw [show (256 : Nat) = 2 ^ 8 by decide, ← Nat.pow_mul, ← Nat.pow_add, Nat.div_add_mod]
 rw [e, ← Nat.div_div_eq_div_mul]
 generalize n / 256 ^ (j / 8) = q
 have hr : j % 8 < 8 := Nat.mod_lt _ (by decide)
 generalize j % 8 = r at *
 rcases (show r = 0 ∨ r = 1 ∨ r = 2 ∨ r = 3 ∨ r = 4 ∨ r = 5 ∨ r = 6 ∨ r = 7 by omega) with rfl | rfl | rfl | rfl | rfl | rfl | rfl | rfl <;> simp <;> omega
theorem qeV (n j b : Nat) (h : n / 2 ^ j % 2 = b) : n / 2 ^ j = n / 2 ^ (j + 1) + n / 2 ^ (j + 1) + b := by
 rw [Nat.pow_succ, ← Nat.div_div_eq_div_mul]
 omega
theorem step_even (n j : Nat) (p : Fin PP × Fin PP) (h : n / 2 ^ j % 2 = 0) : qS qF fd p (n / 2 ^ (j + 1) + n / 2 ^ (j + 1)) = qS qF fd p (n / 2 ^ j) := by
 have e := qeV n j 0 h
 rw [Nat.add_zero] at e
 rw [← e]
theorem step_odd (n j : Nat) (p : Fin PP × Fin PP) (h : n / 2 ^ j % 2 = 1) : QL qF fd (qS qF fd p (n / 2 ^ (j + 1) + n / 2 ^ (j + 1))) p = qS qF fd p (n / 2 ^ j) := by
 have e := qeV n j 1 h
 rw [e]; rfl
open Go.Sx
abbrev rpq (q : Nat × Nat × Nat × Nat) : Array Value := rp q.1 q.2.1 q.2.2.1 q.2.2.2
def Rqq (q : Nat × Nat × Nat × Nat) (p : Fin PP × Fin PP) : Prop := Rq q.1 q.2.1 q.2.2.1 q.2.2.2 p
theorem radd_q (q1 q2 : Nat × Nat × Nat × Nat) (p1 p2 : Fin PP × Fin PP) (h1 : Rqq q1 p1) (h2 : Rqq q2 p2) (w : World) :
 Calls Tryz.prog 79 ([.agg (rpq q1), .agg (rpq q2)] : List Value).toArray w fun e w' => ∃ q, Rqq q (QL qF fd p1 p2) ∧ e = .returned (.agg (rpq q)) ∧ Below w.heap.size w w' :=
 (radd_rq _ _ _ _ _ _ _ _ p1 p2 h1 h2 w).mono fun _ _ ⟨x, y, z, t, h1, h2, h3⟩ => ⟨(x, y, z, t), h1, h2, h3⟩
theorem rmany_any (X Y Z T n : Nat) (p : Fin PP × Fin PP) (hp : Rq X Y Z T p) (hn : n < 115792089237316195423570985008687907853269984665640564039457584007913129639936) (w : World) :
 Calls Tryz.prog 45 #[.agg (rp X Y Z T), .agg (k32 n)] w fun e w' => ∃ X2 Y2 Z2 T2 : Nat, Rq X2 Y2 Z2 T2 (qS qF fd p n) ∧ e = .returned (.agg (rp X2 Y2 Z2 T2)) ∧ Below w.heap.size w w' := by
 have hop : OnP fd p := hp.1.1.2.2.2
 have hp' : Rqq (X, Y, Z, T) p := hp
 refine (enter (vs := [.agg (rpq (X, Y, Z, T)), .agg (k32 n)]) (R := fun v w' => ∃ X2 Y2 Z2 T2 : Nat, Rq X2 Y2 Z2 T2 (qS qF fd p n) ∧ v = .agg (rp X2 Y2 Z2 T2) ∧ Below w.heap.size w w') qc Tryz.func45 rfl Tryz.ntmps45 rfl (St.start w) ?_).mono (fun e w' ⟨v, he, x, y, z, t, h1, h2, h3⟩ => ⟨x, y, z, t, h1, by rw [he, h2], h3⟩)
 intro b2 b3 b4
 refine cv rorigin_any ?_
 intro b5
 refine sN 3 rfl (by rw [Qv]; rfl) (by rw [Array.all_toList]; exact qbl _ _ _ _) ?_ (by kernel_rfl)
 refine lp qc (fun x : Nat × Nat × Nat × Nat × Nat => x.1 ≤ 256 ∧ Rqq x.2 (qS qF fd p (n / 2 ^ x.1))) (fun x => ⟨[(2, ptr b2), (3, ptr b3), (4, ptr b4), (5, ptr b5), (6, .int .i64 ((x.1 : Int) - 1))], [cl b2 (rpq (X, Y, Z, T)) 103, cl b3 (k32 n) 36, cl b4 Tryz.zeroCells103 103, cl b5 (rpq x.2) 103], []⟩) (fun x => x.1) (256, 0, 1, 1, 0)
  ⟨Nat.le_refl _, by rw [show n / 2 ^ 256 = 0 by rw [show (2 : Nat) ^ 256 = 115792089237316195423570985008687907853269984665640564039457584007913129639936 by decide +kernel]; omega]; exact zero_rq⟩ ⟨⟨rfl, rfl, rfl, rfl, rfl, trivial⟩, .refl _, rfl⟩ ?_
 rintro ⟨k, q⟩ ⟨hk, hq⟩
 simp only at hk hq
 refine cd (fun hlt => ?_) (fun hge => ?_)
 · obtain ⟨j, rfl⟩ : ∃ j, k = j + 1 := ⟨k - 1, by (try simp only at hlt); omega⟩
   rw [show ((j + 1 : Nat) : Int) - 1 = (j : Int) by omega]
   refine ldN 3 rfl (Qv _ _ _ _) ?_
   refine ldN 3 rfl (Qv _ _ _ _) ?_
   refine ce (v := fun q => .agg (rpq q)) (fun w _ => radd_q q q _ _ hq hq w) (fun q6 hq6 => ?_)
   rw [← fld.mul_add p hop] at hq6
   refine sN 3 rfl (by rw [Qv]; rfl) (by rw [Array.all_toList]; exact qbl _ _ _ _) ?_ (by kernel_rfl)
   obtain ⟨b, hb⟩ : ∃ b, n / 2 ^ j % 2 = b := ⟨_, rfl⟩
   have hbv := bit_val n j
   rw [hb] at hbv
   have hx0 := Nat.mod_lt (n / 256 ^ (j / 8)) (show 256 > 0 by decide)
   have hxd : n / 256 ^ (j / 8) % 256 / 2 ^ (j % 8) ≤ n / 256 ^ (j / 8) % 256 := Nat.div_le_self _ _
   refine ⟨by omega, by simp only [mx]; omega, by decide, ?_⟩
   rw [show (j : Int) / 8 = ((j / 8 : Nat) : Int) by omega]
   refine ⟨by omega, by omega, ?_⟩
   refine ld1 1 rfl (qY .u8 32 (dg 256 n) (j / 8) (by omega)) ?_
   refine ⟨by omega, by simp only [mx]; omega, by decide, ?_⟩
   refine .as ((j % 8 : Nat) : Int) (by omega) (by simp only [mn]; omega) (by simp only [mx]; omega) ?_
   refine ⟨by omega, ?_⟩
   have he : (dg 256 n (j / 8)).fdiv (2 ^ (min ((j % 8 : Nat) : Int).toNat 8)) = ((n / 256 ^ (j / 8) % 256 / 2 ^ (j % 8) : Nat) : Int) := shrB _ (j % 8) 8 (by omega)
   refine ⟨he ▸ Int.natCast_nonneg _, he ▸ (by omega : ((n / 256 ^ (j / 8) % 256 / 2 ^ (j % 8) : Nat) : Int) ≤ 255), by decide, ?_⟩
   refine cq (x := (dg 256 n (j / 8)).fdiv (2 ^ (min ((j % 8 : Nat) : Int).toNat 8)) % 2) (fun h1 => ?_) (fun h1 => ?_) <;> rw [he] at h1
   · refine ldN 3 rfl (Qv _ _ _ _) ?_
     refine ldN 0 rfl (Qv _ _ _ _) ?_
     refine ce (v := fun q => .agg (rpq q)) (fun w _ => radd_q q6 (X, Y, Z, T) _ _ hq6 hp' w) (fun q7 hq7 => ?_)
     rw [step_odd n j p (by omega)] at hq7
     refine sN 3 rfl (by rw [Qv]; rfl) (by rw [Array.all_toList]; exact qbl _ _ _ _) ?_ (by kernel_rfl)
     refine .as ((j : Int) - 1) rfl (by simp only [mn]; omega) (by simp only [mx]; omega) ?_
     exact ⟨(j, q7), ⟨by simp only; omega, hq7⟩, by simp only; omega, ⟨⟨rfl, rfl, rfl, rfl, rfl, trivial⟩, .refl _, rfl⟩⟩
   · rw [step_even n j p (by omega)] at hq6
     refine .as ((j : Int) - 1) rfl (by simp only [mn]; omega) (by simp only [mx]; omega) ?_
     exact ⟨(j, q6), ⟨by simp only; omega, hq6⟩, by simp only; omega, ⟨⟨rfl, rfl, rfl, rfl, rfl, trivial⟩, .refl _, rfl⟩⟩
 · obtain rfl : k = 0 := by (try simp only at hge); omega
   rw [Nat.pow_zero, Nat.div_one] at hq
   refine ldN 3 rfl (Qv _ _ _ _) ?_
   refine sN 2 (d := rpq q) rfl (by rw [Qv]; kernel_rfl) (by rw [Array.all_toList]; exact qbl _ _ _ _) ?_ (by kernel_rfl)
   refine ldN 2 rfl (Qv _ _ _ _) ?_
   exact ⟨fun w1 hs => ⟨_, _, _, _, hq, rfl, hs.below⟩⟩
end
end Go.Proofs.YtbgefoamhdgnaaaGreatDoor
