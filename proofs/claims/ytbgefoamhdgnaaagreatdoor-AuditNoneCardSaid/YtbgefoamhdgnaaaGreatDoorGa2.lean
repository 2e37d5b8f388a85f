/- For every row of bytes and every number the law AuditNone returns true, and the bytes read as they did; no condition. -/
import Derived.Laws.StructEq
import Derived.Laws.Rows
import Derived.Lib.UnsafeStr
import Derived.RangeFuncBound
import Derived.RangeFuncRecord
import Derived.Great.BuildSlice
import Derived.Test.YtbgefoamhdgnaaaGreatDoorProg
import Derived.WalkKit
import Derived.WalkSpells
import Derived.WalkLawsBesides
import Derived.Deep.QuietTactic
import Derived.BigQuiet
import Derived.Deep.RegionHeld3
import Derived.StillTailTactics
import Derived.Lib.Mul64
import Derived.Laws.Bits64b
import Derived.Laws.Externs
import Derived.Lib.Hide
import Derived.RowKit3
import Derived.LoopTactic
import Derived.Deep.LoopGhost
import Derived.Laws.Tables
import Derived.Deep.MidRow
import Derived.OwnWalk
import Derived.Outline
import Derived.OrdersHeld
import Derived.BigRegion
import Derived.Test.YtbgefoamhdgnaaaGreatDoorGa1
set_option maxRecDepth 100000
set_option maxHeartbeats 16000000
set_option linter.unusedVariables false
set_option linter.unusedSimpArgs false
namespace Go.Proofs.YtbgefoamhdgnaaaGreatDoor
section
open Go.RowKit Go.Sx
abbrev Wd := BitVec 64
def ux (x : Wd) : Int := (x.toNat : Int)
def uv (x : Wd) : Value := .int .u64 (ux x)
def rot (x : Wd) (n : Nat) : Wd := x >>> n ||| x <<< (64 - n)
def qaL (x : Wd) (a b c : Nat) (s : Bool) : Wd := rot x a ^^^ rot x b ^^^ (if s then x >>> c else rot x c)
theorem ux_lt (x : Wd) : 0 ≤ ux x ∧ ux x < 18446744073709551616 := by unfold ux; have := x.isLt; omega
theorem two64 : (2 : Nat) ^ 64 = 18446744073709551616 := by decide +kernel
theorem u_wrap (x : Wd) : IntKind.u64.wrap (x.toNat : Int) = ux x := by
 have := x.isLt
 exact qah .u64 _ (by simp only [mn]; omega) (by simp only [mx]; omega)
theorem u_of (x : Wd) : BitVec.ofInt 64 (ux x) = x := by unfold ux; rw [BitVec.ofInt_natCast]; simp
theorem u_or (x y : Wd) : Zh .or .u64 (ux x) (ux y) = ux (x ||| y) := by
 show IntKind.u64.wrap ((BitVec.ofInt 64 (ux x) ||| BitVec.ofInt 64 (ux y)).toNat : Int) = _
 rw [u_of, u_of, u_wrap]
theorem qay (x y : Wd) : Zh .and .u64 (ux x) (ux y) = ux (x &&& y) := by
 show IntKind.u64.wrap ((BitVec.ofInt 64 (ux x) &&& BitVec.ofInt 64 (ux y)).toNat : Int) = _
 rw [u_of, u_of, u_wrap]
theorem Z0 (x y : Wd) : Zh .xor .u64 (ux x) (ux y) = ux (x ^^^ y) := by
 show IntKind.u64.wrap ((BitVec.ofInt 64 (ux x) ^^^ BitVec.ofInt 64 (ux y)).toNat : Int) = _
 rw [u_of, u_of, u_wrap]
theorem u_not (x : Wd) : notI .u64 (ux x) = ux (~~~x) := by
 have h : (if IntKind.u64.signed then -1 else IntKind.u64.max) = ux (BitVec.allOnes 64) := by decide
 unfold notI
 rw [h, Z0, BitVec.allOnes_xor]
theorem u_neg (x : Wd) : 18446744073709551615 - ux x = ux (~~~x) := by
 have := x.isLt
 unfold ux; rw [BitVec.toNat_not]; omega
theorem QA (x y : Wd) : (ux x + ux y) % 18446744073709551616 = ux (x + y) := by
 unfold ux; rw [BitVec.toNat_add, two64, Int.natCast_emod, Int.natCast_add]; rfl
theorem u_mul (x : Wd) (k : Nat) (hk : k < 18446744073709551616) : (ux x * (k : Int)) % 18446744073709551616 = ux (x * BitVec.ofNat 64 k) := by
 unfold ux; rw [BitVec.toNat_mul, BitVec.toNat_ofNat]
 have : k % 2 ^ 64 = k := Nat.mod_eq_of_lt (by omega)
 rw [this, two64, Int.natCast_emod, Int.natCast_mul]; rfl
theorem qco (x : Wd) (n : Nat) (hn : n ≤ 64) (i : Int) (hi : i = n) : (ux x).fdiv (2 ^ (min i.toNat IntKind.u64.bits)) = ux (x >>> n) := by
 subst hi
 show (ux x).fdiv (2 ^ (min ((n : Nat) : Int).toNat 64)) = _
 rw [Int.toNat_natCast, Nat.min_eq_left hn, Int.fdiv_eq_ediv_of_nonneg _ (by exact Int.le_of_lt (Int.pow_pos (by decide)))]
 unfold ux; rw [BitVec.toNat_ushiftRight, Nat.shiftRight_eq_div_pow, Int.natCast_ediv, Int.natCast_pow]; rfl
theorem u_shl (x : Wd) (n : Nat) (hn : n ≤ 64) (i : Int) (hi : i = n) : (ux x * 2 ^ (min i.toNat IntKind.u64.bits)) % 18446744073709551616 = ux (x <<< n) := by
 subst hi
 show (ux x * 2 ^ (min ((n : Nat) : Int).toNat 64)) % 18446744073709551616 = _
 rw [Int.toNat_natCast, Nat.min_eq_left hn]
 unfold ux; rw [BitVec.toNat_shiftLeft, Nat.shiftLeft_eq, two64, Int.natCast_emod, Int.natCast_mul, Int.natCast_pow]; rfl
theorem rot_add (x : Wd) (n : Nat) (hn : n < 64) : x >>> n + x <<< (64 - n) = rot x n := by
 unfold rot
 apply BitVec.add_eq_or_of_and_eq_zero
 apply BitVec.eq_of_getLsbD_eq
 intro i hi
 simp only [BitVec.getLsbD_and, BitVec.getLsbD_ushiftRight, BitVec.getLsbD_shiftLeft, BitVec.getLsbD_zero]
 by_cases h : i < 64 - n
 · simp [h]
 · have : x.getLsbD (n + i) = false := BitVec.getLsbD_of_ge _ _ (by omega)
   simp [this]
theorem ch_add (e f g : Wd) : (e &&& f) + (~~~e &&& g) = (e &&& f ||| ~~~e &&& g) := by
 apply BitVec.add_eq_or_of_and_eq_zero
 apply BitVec.eq_of_getLsbD_eq
 intro i hi
 simp only [BitVec.getLsbD_and, BitVec.getLsbD_not, BitVec.getLsbD_zero]
 cases e.getLsbD i <;> simp
def bw (x : Wd) (b : UInt8) : Wd := x <<< 8 ||| BitVec.ofNat 64 b.toNat
theorem ux_byte (b : UInt8) : ux (BitVec.ofNat 64 b.toNat) = (b.toNat : Int) := by
 have := b.toNat_lt
 unfold ux; rw [BitVec.toNat_ofNat, Nat.mod_eq_of_lt (by omega)]
theorem bw_add (x : Wd) (b : UInt8) : x * BitVec.ofNat 64 256 + BitVec.ofNat 64 b.toNat = bw x b := by
 unfold bw
 have e : x * BitVec.ofNat 64 256 = x <<< 8 := by
  apply BitVec.eq_of_toNat_eq
  rw [BitVec.toNat_shiftLeft, Nat.shiftLeft_eq, BitVec.toNat_mul]; rfl
 rw [e]
 apply BitVec.add_eq_or_of_and_eq_zero
 apply BitVec.eq_of_getLsbD_eq
 intro i hi
 simp only [BitVec.getLsbD_and, BitVec.getLsbD_shiftLeft, BitVec.getLsbD_ofNat]
 by_cases h : i < 8
 · simp [h]
 · have : b.toNat.testBit i = false := by
    apply Nat.testBit_lt_two_pow
    exact Nat.lt_of_lt_of_le b.toNat_lt (Nat.pow_le_pow_right (by decide) (by omega))
   simp [this]
structure H8 where
 (a b c d e f g h : Wd)
def H8.l (s : H8) : List Wd := [s.a, s.b, s.c, s.d, s.e, s.f, s.g, s.h]
def H8.add (s t : H8) : H8 := ⟨s.a + t.a, s.b + t.b, s.c + t.c, s.d + t.d, s.e + t.e, s.f + t.f, s.g + t.g, s.h + t.h⟩
def rndU (s : H8) (k w : Wd) : Wd := s.h + qaL s.e 14 18 41 false + (s.e &&& s.f ||| ~~~s.e &&& s.g) + k + w
def rndV (s : H8) : Wd := qaL s.a 28 34 39 false + (s.a &&& s.b ||| s.a &&& s.c ||| s.b &&& s.c)
def rnd (s : H8) (k w : Wd) : H8 := ⟨rndU s k w + rndV s, s.a, s.b, s.c, s.d + rndU s k w, s.e, s.f, s.g⟩
def qa5 (w : List Wd) : Wd := qaL (w.getD (w.length - 2) 0) 19 61 6 true + w.getD (w.length - 7) 0 + qaL (w.getD (w.length - 15) 0) 1 8 7 true + w.getD (w.length - 16) 0
def QG : Nat → List Wd → List Wd
 | 0, w => w
 | k + 1, w => QG k w ++ [qa5 (QG k w)]
theorem qbF (k : Nat) (w : List Wd) : (QG k w).length = w.length + k := by
 induction k with
 | zero => rfl
 | succ k ih => rw [QG, List.length_append, ih]; simp; omega
def Zn (k w : List Wd) (s : H8) : Nat → H8
 | 0 => s
 | t + 1 => rnd (Zn k w s t) (k.getD t 0) (w.getD t 0)
def be (bs : List UInt8) : Wd := bs.foldl bw 0
theorem be_snoc (bs : List UInt8) (b : UInt8) : be (bs ++ [b]) = bw (be bs) b := by unfold be; rw [List.foldl_append]; rfl
def qW (p : List UInt8) : List Wd := (List.range 16).map fun t => be ((p.drop (8 * t)).take 8)
def ktab : List Wd := [0x428a2f98d728ae22, 0x7137449123ef65cd, 0xb5c0fbcfec4d3b2f, 0xe9b5dba58189dbbc, 0x3956c25bf348b538, 0x59f111f1b605d019, 0x923f82a4af194f9b, 0xab1c5ed5da6d8118, 0xd807aa98a3030242, 0x12835b0145706fbe, 0x243185be4ee4b28c, 0x550c7dc3d5ffb4e2, 0x72be5d74f27b896f, 0x80deb1fe3b1696b1, 0x9bdc06a725c71235, 0xc19bf174cf692694, 0xe49b69c19ef14ad2, 0xefbe4786384f25e3, 0x0fc19dc68b8cd5b5, 0x240ca1cc77ac9c65, 0x2de92c6f592b0275, 0x4a7484aa6ea6e483, 0x5cb0a9dcbd41fbd4, 0x76f988da831153b5, 0x983e5152ee66dfab, 0xa831c66d2db43210, 0xb00327c898fb213f, 0xbf597fc7beef0ee4, 0xc6e00bf33da88fc2, 0xd5a79147930aa725, 0x06ca6351e003826f, 0x142929670a0e6e70, 0x27b70a8546d22ffc, 0x2e1b21385c26c926, 0x4d2c6dfc5ac42aed, 0x53380d139d95b3df, 0x650a73548baf63de, 0x766a0abb3c77b2a8, 0x81c2c92e47edaee6, 0x92722c851482353b, 0xa2bfe8a14cf10364, 0xa81a664bbc423001, 0xc24b8b70d0f89791, 0xc76c51a30654be30, 0xd192e819d6ef5218, 0xd69906245565a910, 0xf40e35855771202a, 0x106aa07032bbd1b8, 0x19a4c116b8d2d0c8, 0x1e376c085141ab53, 0x2748774cdf8eeb99, 0x34b0bcb5e19b48a8, 0x391c0cb3c5c95a63, 0x4ed8aa4ae3418acb, 0x5b9cca4f7763e373, 0x682e6ff3d6b2b8a3, 0x748f82ee5defb2fc, 0x78a5636f43172f60, 0x84c87814a1f0ab72, 0x8cc702081a6439ec, 0x90befffa23631e28, 0xa4506cebde82bde9, 0xbef9a3f7b2c67915, 0xc67178f2e372532b, 0xca273eceea26619c, 0xd186b8c721c0c207, 0xeada7dd6cde0eb1e, 0xf57d4f7fee6ed178, 0x06f067aa72176fba, 0x0a637dc5a2c898a6, 0x113f9804bef90dae, 0x1b710b35131c471b, 0x28db77f523047d84, 0x32caab7b40c72493, 0x3c9ebe0a15c9bebc, 0x431d67c49c100d4c, 0x4cc5d4becb3e42b6, 0x597f299cfc657e2a, 0x5fcb6fab3ad6faec, 0x6c44198c4a475817]
def kroots : H8 := ⟨0x6a09e667f3bcc908, 0xbb67ae8584caa73b, 0x3c6ef372fe94f82b, 0xa54ff53a5f1d36f1, 0x510e527fade682d1, 0x9b05688c2b3e6c1f, 0x1f83d9abfb41bd6b, 0x5be0cd19137e2179⟩
def qcG (s : H8) (p : List UInt8) : H8 := s.add (Zn ktab (QG 64 (qW p)) s 80)
def Qy (t : List UInt8) : Nat → H8
 | 0 => kroots
 | i + 1 => qcG (Qy t i) ((t.drop (128 * i)).take 128)
def Qr (n j : Nat) : UInt8 := UInt8.ofNat (8 * n / 256 ^ (15 - j) % 256)
def q5 (n : Nat) : Nat := (239 - n % 128) % 128
def zK (bs : List UInt8) : List UInt8 := bs ++ [128] ++ List.replicate (q5 bs.length) 0 ++ (List.range 16).map (Qr bs.length)
theorem qcH (bs : List UInt8) : (zK bs).length % 128 = 0 ∧ (zK bs).length = bs.length + 17 + q5 bs.length := by
 unfold zK q5
 simp only [List.length_append, List.length_replicate, List.length_map, List.length_range, List.length_cons, List.length_nil]
 omega
def zp (x : Wd) : List UInt8 := (List.range 8).map fun i => UInt8.ofNat (x.toNat / 2 ^ (56 - 8 * i) % 256)
def qav (s : H8) : List UInt8 := s.l.flatMap zp
def zE (bs : List UInt8) : List UInt8 := qav (Qy (zK bs) ((zK bs).length / 128))
theorem Zj (bs : List UInt8) : (zE bs).length = 64 := by
 unfold zE qav
 simp [H8.l, zp]
theorem ktab_len : ktab.length = 80 := by decide +kernel
end
end Go.Proofs.YtbgefoamhdgnaaaGreatDoor
namespace Go.Sx
section
open Go Go.RowKit
section
variable {P : Program}
theorem eql_ints (t e : TypeId) (n : Nat) (kd : IntKind) (ht : P.underlying t = some (.array n e)) (he : P.underlying e = some (.int kd)) (hz : Q7 P e 1 = true) (c d : Array Value) (f g : Nat → Int)
 (hc : ∀ i, i < n → c[i]? = some (.int kd (f i))) (hd : ∀ i, i < n → d[i]? = some (.int kd (g i))) (k : Nat) (w : World) :
 (Op.equalIn (k + 2) t (.agg c) (.agg d)).run P w = .ok ((List.range n).all fun i => f i == g i) w := by
 have hsz : ∀ w, (sizeOf e).run P w = .ok 1 w := fun w => by rw [Qe (zn hz)]
 rw [List.range_eq_range', Op.equalIn]
 simp only [Sem.run_bind, run_underlying ht, Result.andThen_ok, hsz, Std.Legacy.Range.forIn_eq_forIn_range', Std.Legacy.Range.size, Nat.sub_zero, Nat.add_sub_cancel, Nat.div_one]
 have hl : ∀ i ∈ List.range' 0 n 1, i < n := fun i hi => by simpa using (List.mem_range'_1.1 hi).2
 generalize List.range' 0 n 1 = l at hl ⊢
 induction l with
 | nil => simp
 | cons i l ih =>
  have hi : i < n := hl i (by simp)
  have px : ∀ (c : Array Value) (h : Nat → Int), (∀ i, i < n → c[i]? = some (.int kd (h i))) → (part e c (i * 1)).run P w = .ok (.int kd (h i)) w := fun c h hh => by
   have hg := hh i hi
   simp [part, isAgg, run_underlying he, hg]
  simp only [List.forIn_cons, Sem.run_bind, px c f hc, px d g hd, run_equalIn_int w k e kd kd _ _ he, Result.andThen_ok, List.all_cons]
  cases hb : (f i == g i)
  · simp
  · simp only [Bool.not_true, Bool.false_eq_true, if_false, Sem.run_pure, Result.andThen_ok, Bool.true_and]
    exact ih fun j hj => hl j (by simp [hj])
theorem qbE {op : BinOp} {t : TypeId} (hg : P.eqGuardType P.depth t = false) {x y : Operand} (c d : Array Value) (w : World) : (eqGuard op t x y (.agg c) (.agg d)).run P w = .ok () w := by
 cases op <;> simp [eqGuard, hg]
theorem eql_bytes (t e : TypeId) (n : Nat) (ht : P.underlying t = some (.array n e)) (he : P.underlying e = some (.int .u8)) (hz : Q7 P e 1 = true) (hg : P.eqGuardType P.depth t = false) (x y : List UInt8) (hx : x.length = n) (hy : y.length = n) (a b : Operand) (w : World) :
 (do eqGuard .eql t a b (.agg (Lib.byteCells x).toArray) (.agg (Lib.byteCells y).toArray); binOp .eql t (.agg (Lib.byteCells x).toArray) (.agg (Lib.byteCells y).toArray) : Sem Value).run P w = .ok (.bool (decide (x = y))) w := by
 have h0 := eql_ints t e n .u8 ht he hz (Lib.byteCells x).toArray (Lib.byteCells y).toArray (fun i => ((x.getD i 0).toNat : Int)) (fun i => ((y.getD i 0).toNat : Int))
  (fun i hi => by simp [Lib.byteCells, List.getD, hx, hi]) (fun i hi => by simp [Lib.byteCells, List.getD, hy, hi]) 9998 w
 simp only [Sem.run_bind, qbE hg, Result.andThen_ok]
 rw [run_eql_struct, h0]
 have : ((List.range n).all fun i => ((x.getD i 0).toNat : Int) == ((y.getD i 0).toNat : Int)) = decide (x = y) := by
  rw [Bool.eq_iff_iff]
  simp only [List.all_eq_true, List.mem_range, beq_iff_eq, decide_eq_true_eq]
  constructor
  · intro h
    refine List.ext_getElem (by omega) fun i h1 h2 => ?_
    have := h i (by omega)
    simp only [List.getD, List.getElem?_eq_getElem h1, List.getElem?_eq_getElem h2, Option.getD_some] at this
    exact UInt8.toNat_inj.1 (by omega)
  · rintro rfl i _; rfl
 rw [this]; rfl
end
theorem eqB {C : Cx} {L : List Ent} {t e : TypeId} {n : Nat} {x y : List UInt8} {a b : Operand} {next : Value → List Ent → Prop} (ht : C.P.underlying t = some (.array n e)) (he : C.P.underlying e = some (.int .u8)) (hz : Q7 C.P e 1 = true) (hg : C.P.eqGuardType C.P.depth t = false) (hx : x.length = n) (hy : y.length = n)
 (go : next (.bool (decide (x = y))) L) : zY C (do eqGuard .eql t a b (.agg (Lib.byteCells x).toArray) (.agg (Lib.byteCells y).toArray); binOp .eql t (.agg (Lib.byteCells x).toArray) (.agg (Lib.byteCells y).toArray)) L next :=
 semV (fun w _ => eql_bytes t e n ht he hz hg x y hx hy a b w) go
end
section
open Go Go.RowKit
variable {C : Cx} {L : List Ent}
structure Turns (w w' : World) (r r' : Res) : Prop where
 os : w'.os = w.os
 tape : w'.tape = w.tape
 output : w'.output = w.output
 size : w.heap.size ≤ w'.heap.size
 old : ∀ k, k < w.heap.size → ¬ r.w k → w'.heap[k]? = w.heap[k]?
 ok : r'.p w'
 W : ∀ k, r'.w k → r.w k ∨ w.heap.size ≤ k
 A : ∀ k, r'.w k ∨ r'.r k → (r.w k ∨ r.r k) ∨ w.heap.size ≤ k
theorem Turns.of_below {w w' : World} {r : Res} (h : r.p w) (hb : Below w.heap.size w w') : Turns w w' r r :=
 ⟨hb.os, hb.tape, hb.output, hb.size, fun k hk _ => hb.block k hk, r.st w w' (fun k hk => hb.block k (r.bd w h k hk)) h, fun k h => .inl h, fun k h => .inl h⟩
theorem St.turn {M : Bks} {B w w' : World} (h : St M B w L) {k : Nat} {r r' : Res} (hk : L[k]? = some (rs r)) (ht : Turns w w' r r') : St M B w' (L.set k (rs r')) :=
 h.upd hk ht.size (by simpa using ht.ok) (fun j hj hn => ht.old j hj (by simpa using hn)) ht.os ht.tape ht.output (fun j hj => by simpa using ht.W j (by simpa using hj)) (fun j hj => by simpa using ht.A j (by simpa using hj))
theorem Turns.of_st {M : Bks} {w w' : World} {r r' : Res} (h : St M w w' L) (hM : ∀ k, InM M k → r.w k) (ok : r'.p w') (W : ∀ k, r'.w k → r.w k ∨ w.heap.size ≤ k) (A : ∀ k, r'.w k ∨ r'.r k → (r.w k ∨ r.r k) ∨ w.heap.size ≤ k) : Turns w w' r r' :=
 ⟨h.os, h.tape, h.output, h.size, fun k hk hn => h.old k hk fun hm => hn (hM k hm), ok, W, A⟩
theorem cT (k : Nat) {g : FuncId} {vs : List Value} {α : Type} {Φ : α → Prop} {v : α → Value} {r : Res} {r' : α → Res} {next : Value → List Ent → Prop} (hk : L[k]? = some (rs r))
 (h : ∀ w, St C.M C.B w L → Calls C.P g vs.toArray w fun e w' => ∃ x, Φ x ∧ e = .returned (v x) ∧ Turns w w' r (r' x)) (go : ∀ x, Φ x → next (v x) (L.set k (rs (r' x)))) : zI C g vs L next :=
 ⟨fun w hs => (h w hs).mono fun e w' ⟨x, hx, he, ht⟩ => ⟨_, _, he, hs.turn hk ht, go x hx⟩⟩
theorem cM {g : FuncId} {vs : List Value} {α : Type} {Φ : α → Prop} {v : α → Value} {r' : α → Res} {next : Value → List Ent → Prop}
 (h : ∀ w, St C.M C.B w L → Calls C.P g vs.toArray w fun e w' => ∃ x, Φ x ∧ e = .returned (v x) ∧ Below w.heap.size w w' ∧ (r' x).p w' ∧ (∀ k, (r' x).w k → w.heap.size ≤ k) ∧ ∀ k, (r' x).r k → w.heap.size ≤ k ∨ ∃ f ∈ L, f.A k ∧ ¬ f.W k)
 (go : ∀ x, Φ x → next (v x) (L ++ [rs (r' x)])) : zI C g vs L next :=
 ⟨fun w hs => (h w hs).mono fun e w' ⟨x, hx, he, hb, hp, hw, ha⟩ => ⟨_, _, he, hs.push hb (by simpa using hp) (fun k hk => hw k (by simpa using hk)) (fun k hk => by
  rcases (rsA _ _).1 hk with h | h
  · exact .inl (hw k h)
  · exact ha k h), go x hx⟩⟩
abbrev Es (κ : Type) := List (κ × Value × Nat)
def zl {κ : Type} (ke : κ → Value) (e : κ × Value × Nat) : MapEntry := ⟨ke e.1, e.2.1, e.2.2⟩
def qaM {κ : Type} (ke : κ → Value) (fs : Es κ) (clk : Nat) : Obj := .map (fs.map (zl ke)).toArray clk
abbrev me {κ : Type} (b : Nat) (ke : κ → Value) (fs : Es κ) (clk : Nat) : Ent := ⟨b, some (qaM ke fs clk), false, none⟩
def Qs {κ : Type} [DecidableEq κ] (k : κ) : Es κ → Nat → Option (Nat × Value)
 | [], _ => none
 | e :: l, i => if k = e.1 then some (i, e.2.1) else Qs k l (i + 1)
structure KeyOk {κ : Type} [DecidableEq κ] (P : Program) (kt : TypeId) (ke : κ → Value) : Prop where
 check : ∀ k b w, (Instr.checkKey b 10000 kt (ke k)).run P w = .ok () w
 find : ∀ k (fs : Es κ) w, (Instr.findKey kt (ke k) (fs.map (zl ke))).run P w = .ok (Qs k fs 0) w
 stays : ∀ k w, (Instr.keyThatStays (ke k) (ke k)).run P w = .ok (ke k) w
section maps
variable {κ : Type} [DecidableEq κ] {ke : κ → Value}
def getS (k : κ) (fs : Es κ) : Option Value := (Qs k fs 0).map (·.2)
def ZB (k : κ) (v : Value) (clk : Nat) : Es κ → Es κ
 | [] => [(k, v, clk)]
 | e :: l => if k = e.1 then (k, v, e.2.2) :: l else e :: ZB k v clk l
theorem zC (k : κ) (fs : Es κ) (i : Nat) : Qs k fs i = (Qs k fs 0).map fun p => (p.1 + i, p.2) := by
 induction fs generalizing i with
 | nil => rfl
 | cons e l ih =>
  unfold Qs
  by_cases h : k = e.1
  · simp [h]
  · simp only [h, if_false]; rw [ih (i + 1), ih (0 + 1)]; cases Qs k l 0 <;> simp; omega
theorem set_found {k : κ} {v : Value} {clk : Nat} {fs : Es κ} {i : Nat} {u : Value} (h : Qs k fs 0 = some (i, u)) : ZB k v clk fs = fs.modify i fun e => (k, v, e.2.2) := by
 induction fs generalizing i with
 | nil => cases h
 | cons e l ih =>
  unfold Qs at h
  unfold ZB
  split at h
  · rename_i hk
    injection h with h; injection h with h1 h2
    subst h1
    rw [if_pos hk]; simp
  · rename_i hk
    rw [if_neg hk]
    rw [zC] at h
    cases hf : Qs k l 0 with
    | none => rw [hf] at h; cases h
    | some p =>
     rw [hf] at h
     injection h with h; injection h with h1 h2
     subst h1
     rw [ih (i := p.1) (by rw [hf, ← h2])]
     simp
theorem set_new {k : κ} {v : Value} {clk : Nat} {fs : Es κ} (h : Qs k fs 0 = none) : ZB k v clk fs = fs ++ [(k, v, clk)] := by
 induction fs with
 | nil => rfl
 | cons e l ih =>
  unfold Qs at h
  unfold ZB
  split at h
  · cases h
  · rename_i hk
    rw [if_neg hk]
    rw [zC] at h
    cases hf : Qs k l 0 with
    | none => rw [ih hf]; rfl
    | some p => rw [hf] at h; cases h
theorem zP {P : Program} {w : World} {b : Nat} {o : Obj} (h : w.heap[b]? = some o) (hc : ∀ c t f, o ≠ .cells c t f) : (getObj b).run P w = .ok o w := by
 simp only [getObj, Sem.run, h]
theorem ZD {P : Program} {w : World} {b : Nat} {o o' : Obj} (h : w.heap[b]? = some o) (hc : ∀ c t f, o ≠ .cells c t f) : (setObj b o').run P w = .ok () (w.putObj b o') := by
 simp only [setObj, Sem.run, h, World.putObj]
theorem St.put {M : Bks} {B w : World} (h : St M B w L) {k b : Nat} {o o' : Obj} (hk : L[k]? = some ⟨b, some o, false, none⟩) : St M B (w.putObj b o') (L.set k ⟨b, some o', false, none⟩) := by
 have hlt := (Array.getElem?_eq_some_iff.1 (h.nth hk)).1
 exact h.set hk (by rw [World.putObj_size]; exact Nat.le_refl _) (World.putObj_heap_same hlt) (fun j _ hj => World.putObj_heap_other hj) rfl rfl rfl
def clkS (k : κ) (fs : Es κ) (clk : Nat) : Nat := if (getS k fs).isSome then clk else clk + 1
end maps
end
section
open Go Go.RowKit
variable {C : Cx} {L : List Ent}
section maps
variable {κ : Type} {ke : κ → Value}
theorem mkm {t : TypeId} {next : Value → List Ent → Prop} (ke : κ → Value) (go : ∀ b, next (.map (some b)) (L ++ [me b ke [] 0])) : zY C (Instr.makeMap t none) L next :=
 ⟨fun w hs => ⟨_, _, _, by simp only [Instr.makeMap, Sem.run_bind, run_newObj_alloc, Result.andThen_ok, Sem.run_pure], hs.alloc (.map #[] 0), go _⟩⟩
abbrev itE (b : Nat) (m clk : Nat) (seen : List Nat) : Ent := ⟨b, some (.mapIter (some m) clk seen.toArray clk), false, none⟩
theorem rng (i : Nat) {t kt et : TypeId} {b clk : Nat} {fs : Es κ} {ro : Bool} {next : Value → List Ent → Prop} (hi : L[i]? = some ⟨b, some (qaM ke fs clk), ro, none⟩) (ht : C.P.underlying t = some (.map kt et))
 (go : ∀ b', next (.pointer (some ⟨b', 0, none⟩)) (L ++ [itE b' b clk []])) : zY C (Instr.range t (.map (some b))) L next := by
 refine ⟨fun w hs => ⟨_, _, _, ?_, hs.alloc (.mapIter (some b) clk #[] clk), go _⟩⟩
 have hg := hs.nth hi
 simp only [Instr.range, Sem.run_bind, run_underlying ht, Result.andThen_ok, zP hg (by simp [qaM]), qaM, Sem.run_pure, run_newObj_alloc]
theorem St.drew2 {M : Bks} {B w : World} (h : St M B w L) (n : Nat) : St M B { w with drawn := n } L := ⟨h.os, h.tape, h.output, h.size, h.old, fun e he => (h.ok e he).same fun k hk => rfl, h.ownW, h.apart⟩
end maps
end
section
open Go Go.RowKit
def Res.A (r : Res) (k : Nat) : Prop := r.w k ∨ r.r k
structure Itr (P : Program) (g : FuncId) (lb : List Value) {I : Type} (i0 : I) (nx : I → List Value → I → Prop) (fin : I → Prop) (H : Res) : Prop where
 go : ∀ (l : Nat) (α β : Type) (R : I → α → Res) (S : β → Res) (W : World) (x0 : α), (R i0 x0).p W → H.p W → (∀ k, H.A k → ¬ (R i0 x0).w k) →
  (∀ i args j x w, nx i args j → (R i x).p w → ∀ m, YieldAt Fence.wide m P l args.toArray w fun e w' => (e = .returned (.bool true) ∧ ∃ y, Turns w w' (R i x) (R j y)) ∨ (e = .returned (.bool false) ∧ ∃ y, Turns w w' (R i x) (S y))) →
  Calls P g (.func (.yield l) #[] #[] :: lb).toArray W fun e W' => (∃ v, e = .returned v) ∧ ((∃ i y, fin i ∧ Turns W W' (R i0 x0) (R i y)) ∨ ∃ y, Turns W W' (R i0 x0) (S y))
theorem yd {C : Cx} {L : List Ent} {l : Nat} {args : List Value} {I α β : Type} {R : I → α → Res} {S : β → Res} {nx : I → List Value → I → Prop} (k : Nat) {i j : I} {x : α} {next : Value → List Ent → Prop} (hk : L[k]? = some (rs (R i x)))
 (hr : ∀ i args j x w, nx i args j → (R i x).p w → ∀ m, YieldAt Fence.wide m C.P l args.toArray w fun e w' => (e = .returned (.bool true) ∧ ∃ y, Turns w w' (R i x) (R j y)) ∨ (e = .returned (.bool false) ∧ ∃ y, Turns w w' (R i x) (S y)))
 (hn : nx i args j) (g1 : ∀ y, (∀ b, (R j y).A b → (R i x).A b ∨ C.B.heap.size ≤ b) → next (.bool true) (L.set k (rs (R j y)))) (g0 : ∀ y, (∀ b, (S y).A b → (R i x).A b ∨ C.B.heap.size ≤ b) → next (.bool false) (L.set k (rs (S y)))) : YieldP C l args L next := by
 refine ⟨fun w hs m => YieldAt.mono (hr i args j x w hn (hs.res hk) m) fun e w' h => ?_⟩
 have hsz := hs.size
 rcases h with ⟨he, y, ht⟩ | ⟨he, y, ht⟩
 · exact ⟨_, _, he, hs.turn hk ht, g1 y fun b hb => (ht.A b hb).imp id fun h => Nat.le_trans hsz h⟩
 · exact ⟨_, _, he, hs.turn hk ht, g0 y fun b hb => (ht.A b hb).imp id fun h => Nat.le_trans hsz h⟩
def Res.rd (r : Res) : Res := ⟨fun _ => False, fun k => r.w k ∨ r.r k, r.p, fun u v h => r.st u v fun k hk => h k (.inr hk), fun u h k hk => r.bd u h k (by rcases hk with hk | hk; exact hk.elim; exact hk)⟩
def Ent.rd (e : Ent) : Ent := ⟨e.b, e.o, true, e.q.map Res.rd⟩
theorem Ent.rdW (e : Ent) (k : Nat) : ¬ e.rd.W k := by
 rintro (⟨_, h, _⟩ | ⟨r, h, hr⟩)
 · cases h
 · simp only [Ent.rd, Option.map_eq_some_iff] at h
   obtain ⟨r', _, rfl⟩ := h
   exact hr
theorem Ent.rdA (e : Ent) (k : Nat) : e.rd.A k ↔ e.A k := by
 unfold Ent.A Ent.rd
 constructor
 · rintro (h | ⟨r, h, hr⟩)
   · exact .inl h
   · simp only [Option.map_eq_some_iff] at h
     obtain ⟨r', h1, rfl⟩ := h
     exact .inr ⟨r', h1, by rcases hr with hr | hr; exact hr.elim; exact hr⟩
 · rintro (h | ⟨r, h, hr⟩)
   · exact .inl h
   · exact .inr ⟨r.rd, by rw [h]; rfl, .inr hr⟩
theorem Ent.rdOk (e : Ent) (w : World) : e.rd.Ok w ↔ e.Ok w := by
 unfold Ent.Ok Ent.rd
 constructor
 · rintro ⟨h1, h2⟩
   exact ⟨h1, fun r hr => h2 r.rd (by rw [hr]; rfl)⟩
 · rintro ⟨h1, h2⟩
   refine ⟨h1, fun r hr => ?_⟩
   simp only [Option.map_eq_some_iff] at hr
   obtain ⟨r', h3, rfl⟩ := hr
   exact h2 r' h3
structure BothP (e0 e : Ent) (l : Nat) (o : Obj) (F : List Ent) (u : World) : Prop where
 ok : e.Ok u
 lp : u.heap[l]? = some o
 fr : ∀ f ∈ F, f.Ok u
 ap : ∀ f ∈ F, Apart e f
 fl : ∀ f ∈ F, ¬ f.A l
 el : ¬ e.A l
 e0 : ∀ k, e.A k → e0.A k ∨ l < k
def both (e0 e : Ent) (l : Nat) (o : Obj) (F : List Ent) : Res where
 w k := e.W k ∨ k = l
 r k := e.A k ∨ ∃ f ∈ F, f.A k
 p u := BothP e0 e l o F u
 st u v h := fun hp => ⟨hp.ok.same fun k hk => h k (.inr (.inl hk)), (h l (.inl (.inr rfl))).trans hp.lp, fun f hf => (hp.fr f hf).same fun k hk => h k (.inr (.inr ⟨f, hf, hk⟩)), hp.ap, hp.fl, hp.el, hp.e0⟩
 bd u := fun hp k hk => by
  rcases hk with (hk | rfl) | hk | ⟨f, hf, hk⟩
  · exact hp.ok.lt hk.a
  · exact (Array.getElem?_eq_some_iff.1 hp.lp).1
  · exact hp.ok.lt hk
  · exact (hp.fr f hf).lt hk
def putPs (N : Nat) : List Tmp → List Value → Fr → Fr
 | p :: ps, v :: vs, σ => putPs N ps vs (put N (some p) v σ)
 | _, _, σ => σ
theorem putPs_fits {N : Nat} {D : List Deferred} (ps : List Tmp) : ∀ (vs : List Value) (σ : Fr) (L L' : List Ent) (a : Act), Fits N ⟨σ, L, D⟩ a → Fits N ⟨putPs N ps vs σ, L', []⟩ { tmps := (ps.zip vs).foldl (fun t (p, v) => t.setIfInBounds p v) a.tmps, defers := [] } := by
 induction ps with
 | nil => intro vs σ L L' a h; exact ⟨h.size, rfl, h.slot⟩
 | cons p ps ih =>
  intro vs σ L L' a h
  cases vs with
  | nil => exact ⟨h.size, rfl, h.slot⟩
  | cons v vs =>
   have := ih vs _ L L' (a.put (some p) v) (h.put (some p) v L)
   exact this
def qbw {I α β : Type} (E : I → α → Ent) (S : β → Ent × Code) (l : Nat) (busy : Obj) (B : World) (e : Ent) (j : I) : Exit → Sy → Prop := fun x s => match x with
 | .normal => ∃ y, Sub [E j y, ⟨l, some busy, false, none⟩] s.L ∧ ∀ b, (E j y).A b → e.A b ∨ B.heap.size ≤ b
 | .ret => ∃ y, (S y).2 = .ret ∧ Sub [(S y).1, ⟨l, some busy, false, none⟩] s.L ∧ ∀ b, (S y).1.A b → e.A b ∨ B.heap.size ≤ b
 | .exit id => ∃ y, (S y).2 = .exit id ∧ Sub [(S y).1, ⟨l, some busy, false, none⟩] s.L ∧ ∀ b, (S y).1.A b → e.A b ∨ B.heap.size ≤ b
 | _ => False
def beginK (C : Cx) (body : Code) (K : Exit → Sy → Prop) (l n : Nat) (ready busy : Obj) : Exit → Sy → Prop := fun x s => match x with
 | .normal => s.L[n]? = some ⟨l, some ready, false, none⟩ ∧ cx C body K ⟨s.σ, s.L.set n ⟨l, some busy, false, none⟩, s.D⟩
 | _ => False
theorem qaJ {l : Nat} {e0 e e' : Ent} {o o' o'' : Obj} {F : List Ent} {w w' : World} (hp : BothP e0 e l o F w) (hs : St [fun b => b = l ∨ e.W b] w w' [e', ⟨l, some o', false, none⟩]) (hA : ∀ b, e'.A b → e.A b ∨ w.heap.size ≤ b) :
 Turns w (w'.putObj l o'') (both e0 e l o F) (both e0 e' l o'' F) := by
 have hl := (Array.getElem?_eq_some_iff.1 hp.lp).1
 have hl' := hs.nth (k := 1) rfl
 have hlt' := (Array.getElem?_eq_some_iff.1 hl').1
 have hel : ¬ e'.A l := by
  have := hs.apart
  simp only [List.pairwise_cons, List.mem_singleton, forall_eq] at this
  exact fun h => (this.1 l).2 (by simp) h
 have hW : ∀ b, e'.W b → w.heap.size ≤ b ∨ e.W b := fun b hb => by
  rcases hs.ownW e' (by simp) b hb with h | h
  · exact .inl h
  · simp only [qbg, qcd, or_false] at h
    rcases h with rfl | h
    · exact absurd hb.a hel
    · exact .inr h
 have hold : ∀ k, k < w.heap.size → ¬ (e.W k ∨ k = l) → (w'.putObj l o'').heap[k]? = w.heap[k]? := fun k hk hn =>
  (World.putObj_heap_other (fun h => hn (.inr h))).trans (hs.old k hk (by simp only [qbg, qcd, or_false]; rintro (h | h); exact hn (.inr h); exact hn (.inl h)))
 have hfr : ∀ f ∈ F, ∀ k, f.A k → k < w.heap.size ∧ ¬ (e.W k ∨ k = l) := fun f hf k hk => ⟨(hp.fr f hf).lt hk, by rintro (h | rfl); exact (hp.ap f hf k).1 h hk; exact hp.fl f hf hk⟩
 refine ⟨hs.os, hs.tape, hs.output, by rw [World.putObj_size]; exact hs.size, hold, ⟨?_, World.putObj_heap_same hlt', ?_, ?_, hp.fl, hel, ?_⟩, ?_, ?_⟩
 · exact (hs.ok e' (by simp)).same fun k hk => World.putObj_heap_other fun h => hel (h ▸ hk)
 · exact fun f hf => (hp.fr f hf).same fun k hk => hold k (hfr f hf k hk).1 (hfr f hf k hk).2
 · refine fun f hf k => ⟨fun h1 h2 => ?_, fun h1 h2 => ?_⟩
   · have := hfr f hf k h2
     rcases hW k h1 with h | h
     · omega
     · exact this.2 (.inl h)
   · have := hfr f hf k h1.a
     rcases hA k h2 with h | h
     · exact (hp.ap f hf k).2 h1 h
     · omega
 · intro k hk
   rcases hA k hk with h | h
   · exact hp.e0 k h
   · exact .inr (by omega)
 · rintro k (h | rfl)
   · rcases hW k h with h | h
     · exact .inr h
     · exact .inl (.inl h)
   · exact .inl (.inr rfl)
 · rintro k ((h | rfl) | h | h)
   · rcases hW k h with h | h
     · exact .inr h
     · exact .inl (.inl (.inl h))
   · exact .inl (.inl (.inr rfl))
   · rcases hA k h with h | h
     · exact .inl (.inr (.inl h))
     · exact .inr h
   · exact .inl (.inr (.inr h))
def exitOf : Code → Exit
 | .ret => .ret
 | .exit id => .exit id
 | _ => .normal
abbrev dfe (b : Nat) : Ent := ⟨b, some (.deferred (some [])), false, none⟩
def beginKP (C : Cx) (body : Code) (K : Exit → Sy → Prop) (l n : Nat) (ready busy : Obj) : Exit → Sy → Prop := fun x s => match x with
 | .normal => s.L[n]? = some ⟨l, some ready, false, none⟩ ∧ CodeP C body K ⟨s.σ, s.L.set n ⟨l, some busy, false, none⟩, s.D⟩
 | _ => False
theorem CodeP.mono {C : Cx} {c : Code} {K K' : Exit → Sy → Prop} {s : Sy} (h : ∀ e a w, zD C (K e) a w → zD C (K' e) a w) (hc : CodeP C c K s) : CodeP C c K' s := ⟨fun n a w hf hs => wpIn_mono (hc.go n a w hf hs) fun e a w hQ => h e a w hQ⟩
theorem CodeP.imp {C : Cx} {c : Code} {K K' : Exit → Sy → Prop} {s : Sy} (h : ∀ e s, K e s → K' e s) (hc : CodeP C c K s) : CodeP C c K' s := hc.mono fun e a w ⟨s, h1, h2, h3⟩ => ⟨s, h1, h2, h e s h3⟩
theorem rf' {C : Cx} (hT : TabOk C.P C.T) (hF : C.F = none) {g : Operand} {ps : Array Tmp} {assign body : Code} {K : Exit → Sy → Prop} {σ : Fr} {L : List Ent} {D : List Deferred} {gf : FuncId} {lb : Array Value} {I α β : Type} {i0 : I} {nx : I → List Value → I → Prop} {fin : I → Prop} {H : Res}
 (hcl : zj C.T gf = true) (hg : ev σ g (· = .func (.func gf) #[] lb)) (hit : Itr C.P gf lb.toList i0 nx fin H) (k : Nat) (E : I → α → Ent) (S : β → Ent × Code) (hS : ∀ y, (S y).2 = .ret ∨ ∃ id, (S y).2 = .exit id) (x0 : α) (hk : L[k]? = some (E i0 x0))
 (hH : ∀ w, St C.M C.B w L → H.p w ∧ ∀ b, H.A b → ¬ (E i0 x0).W b) (hps : ∀ i args j, nx i args j → args.length = ps.size)
 (round : ∀ l i args j x w ready busy, nx i args j → CodeP ⟨C.P, C.T, C.N, [fun b => b = l ∨ (E i x).W b], w, some l⟩ assign (beginKP ⟨C.P, C.T, C.N, [fun b => b = l ∨ (E i x).W b], w, some l⟩ body (qbw E S l busy w (E i x) j) l L.length ready busy)
  ⟨putPs C.N ps.toList args σ, (L.map Ent.rd).set k (E i x) ++ [⟨l, some ready, false, none⟩], []⟩)
 (done : ∀ i y b0, fin i → K .normal ⟨σ, L.set k (E i y) ++ [dfe b0], { target := .collected b0, args := #[] } :: D⟩)
 (stop : ∀ y b0, K (exitOf (S y).2) ⟨σ, L.set k (S y).1 ++ [dfe b0], { target := .collected b0, args := #[] } :: D⟩) : CodeP C (.rangeFunc g ps assign body) K ⟨σ, L, D⟩ := by
 refine ⟨fun n a w hf hs => ?_⟩
 have hfence : C.fence = Fence.wide := by unfold Cx.fence; rw [hF]
 rw [hfence]
 have hkl : k < L.length := (List.getElem?_eq_some_iff.1 hk).1
 have hgv : a.eval g = .func (.func gf) #[] lb := hf.fit g _ hg
 obtain ⟨fn0, k1, k2, k3⟩ := ZM (zG hT hcl)
 have k4 : fn0.name ≠ "runtime.NumGoroutine" := by simpa using k2
 have eg : ∀ args w, (callFunc gf args).run C.P w = .ok (.enter gf args) w := by
  intro args w
  cases hb : fn0.body with
  | none => rw [hb] at k3; cases k3
  | some code => simp [callFunc, k1, k4, hb]
 refine wpIn_rangeFunc fun fn hfn => ?_
 obtain ⟨rec, hrec⟩ : ∃ rec : LoopState → Option Code → Loop, rec = fun st pe => { state := st, pending := pe, fn, tmps := a.tmps, params := ps, assign, body, defers := w.heap.size } := ⟨_, rfl⟩
 obtain ⟨W0, hW0⟩ : ∃ W0, W0 = w.alloc (.deferred (some [])) := ⟨_, rfl⟩
 obtain ⟨W1, hW1⟩ : ∃ W1, W1 = W0.alloc (.loop (rec .ready none)) := ⟨_, rfl⟩
 have hz0 : W0.heap.size = w.heap.size + 1 := by rw [hW0]; simp
 have hz1 : W1.heap.size = w.heap.size + 2 := by rw [hW1]; simp [hz0]
 have hs0 : St C.M C.B W0 (L ++ [dfe w.heap.size]) := by rw [hW0]; exact hs.alloc _
 have hL1 : W1.heap[w.heap.size + 1]? = some (.loop (rec .ready none)) := by rw [hW1, ← hz0]; exact heap_alloc_new W0 _
 have hs1 : St C.M C.B W1 (L ++ [dfe w.heap.size]) := by rw [hW1]; exact hs0.call (zM W0 _)
 have hk1 : (L ++ [dfe w.heap.size])[k]? = some (E i0 x0) := by rw [List.getElem?_append_left hkl]; exact hk
 obtain ⟨F, hFF⟩ : ∃ F, F = (L ++ [dfe w.heap.size]).set k dead := ⟨_, rfl⟩
 have hF1 : ∀ f ∈ F, f = dead ∨ ∃ i, i ≠ k ∧ (L ++ [dfe w.heap.size])[i]? = some f := fun f hf => by rw [hFF] at hf; exact zw hf
 have hFl : ∀ f ∈ F, ∀ j, f.A j → j < w.heap.size + 1 := fun f hf j hj => by
  rcases hF1 f hf with rfl | ⟨i, hi, hm⟩
  · simp at hj
  · have := hs0.ltA (List.mem_of_getElem? hm) hj; omega
 have hEl : ∀ j, (E i0 x0).A j → j < w.heap.size := fun j hj => hs.ltA (List.mem_of_getElem? hk) hj
 have hp0 : BothP (E i0 x0) (E i0 x0) (w.heap.size + 1) (.loop (rec .ready none)) F W1 := by
  refine ⟨hs1.ok _ (List.mem_of_getElem? hk1), hL1, fun f hf => ?_, fun f hf => ?_, fun f hf hj => ?_, fun hj => ?_, fun j hj => .inl hj⟩
  · rcases hF1 f hf with rfl | ⟨i, hi, hm⟩
    · simp
    · exact hs1.ok f (List.mem_of_getElem? hm)
  · rcases hF1 f hf with rfl | ⟨i, hi, hm⟩
    · exact (ZP _).symm
    · exact ZU hs1.apart hk1 hm (fun e => hi e.symm)
  · have := hFl f hf _ hj; omega
  · have := hEl _ hj; omega
 refine ⟨w.heap.size + 1, [{ target := .collected w.heap.size, args := #[] }], W1, { target := .fn (.func gf) lb, args := #[.func (.yield (w.heap.size + 1)) #[] #[]] }, W1, gf,
  #[.func (.yield (w.heap.size + 1)) #[] #[]] ++ lb, W1, ?_, ?_, fun _ _ => trivial, ?_, fun h => (by cases h), ?_⟩
 · rw [hW1, hW0, hrec]; exact run_enterLoop_outer _ _ _ _ _
 · simp only [resolve, hgv]
   simp [go_sem]
 · simp [invoke, go_sem, eg]
 · have hcall := hit.go (w.heap.size + 1) α β (fun i x => both (E i0 x0) (E i x) (w.heap.size + 1) (.loop (rec .ready none)) F) (fun y => both (E i0 x0) (S y).1 (w.heap.size + 1) (.loop (rec .done (some (S y).2))) F) W1 x0 hp0
    (H.st w W1 (fun j hj => by
     have hjl := H.bd w (hH w hs).1 j hj
     rw [hW1, hW0, Below.heap_alloc _ _ _ (by simp; omega), Below.heap_alloc _ _ _ hjl]) (hH w hs).1)
    (fun b hb hn => by
     rcases hn with h | h
     · exact (hH w hs).2 b hb h
     · have := H.bd w (hH w hs).1 b hb; omega) ?_
   · have e1 : (Value.func (.yield (w.heap.size + 1)) #[] #[] :: lb.toList).toArray = #[.func (.yield (w.heap.size + 1)) #[] #[]] ++ lb := by apply Array.ext'; simp
     rw [e1] at hcall
     refine ((callsIn_wide (n := n - 1)).2 hcall).mono ?_
     have fin' : ∀ (e' : Ent) (st : LoopState) (pe : Option Code) (W' : World), st ≠ .busy → Turns W1 W' (both (E i0 x0) (E i0 x0) (w.heap.size + 1) (.loop (rec .ready none)) F) (both (E i0 x0) e' (w.heap.size + 1) (.loop (rec st pe)) F) →
      ∃ w4, (Instr.endLoop (w.heap.size + 1)).run C.P W' = .ok pe w4 ∧ St C.M C.B w4 (L.set k e' ++ [dfe w.heap.size]) := by
      intro e' st pe W' hst ht
      have hp := ht.ok
      refine ⟨W'.putObj (w.heap.size + 1) (.loop { rec st pe with state := .exhausted }), by have := run_endLoop (P := C.P) hp.lp (by rw [hrec]; exact hst); subst hrec; exact this, ?_⟩
      have e2 : L.set k e' ++ [dfe w.heap.size] = (L ++ [dfe w.heap.size]).set k e' := by rw [List.set_append_left _ _ hkl]
      rw [e2]
      refine hs1.upd2 hk1 (by rw [World.putObj_size]; exact ht.size) (hp.ok.same fun j hj => World.putObj_heap_other fun h => hp.el (h ▸ hj)) (fun j hj hn ho => ?_) ht.os ht.tape ht.output (fun j hj => ?_) (fun j hj => ?_)
      · have hjl : j ≠ w.heap.size + 1 := by
         rcases ho with h | ⟨f, hf', h⟩
         · have := hs.size; omega
         · have := hFl f (hFF ▸ hf') j h; omega
        refine (World.putObj_heap_other hjl).trans (ht.old j hj ?_)
        rintro (h | h)
        · exact hn h
        · exact hjl h
      · rcases ht.W j (.inl hj) with (h | rfl) | h
        · exact .inl h
        · exact absurd hj.a hp.el
        · exact .inr h
      · rcases hp.e0 j hj with h | h
        · exact .inl h
        · exact .inr (by omega)
     rintro e W' ⟨⟨v, rfl⟩, ⟨i, y, hfi, ht⟩ | ⟨y, ht⟩⟩
     · obtain ⟨w4, hr, hs4⟩ := fin' _ _ _ W' (by simp) ht
       exact ⟨none, w4, hr, ⟨⟨σ, L.set k (E i y) ++ [dfe w.heap.size], { target := .collected w.heap.size, args := #[] } :: D⟩, ⟨hf.size, congrArg (_ :: ·) hf.defers, hf.slot⟩, hs4, done i y _ hfi⟩⟩
     · obtain ⟨w4, hr, hs4⟩ := fin' _ _ _ W' (by simp) ht
       refine ⟨some (S y).2, w4, hr, ?_⟩
       have hK := stop y w.heap.size
       rcases hS y with h | ⟨id, h⟩
       · rw [h] at hK ⊢
         exact wpIn_ret ⟨⟨σ, L.set k (S y).1 ++ [dfe w.heap.size], { target := .collected w.heap.size, args := #[] } :: D⟩, ⟨hf.size, congrArg (_ :: ·) hf.defers, hf.slot⟩, hs4, hK⟩
       · rw [h] at hK ⊢
         exact wpIn_exit ⟨⟨σ, L.set k (S y).1 ++ [dfe w.heap.size], { target := .collected w.heap.size, args := #[] } :: D⟩, ⟨hf.size, congrArg (_ :: ·) hf.defers, hf.slot⟩, hs4, hK⟩
   · intro i args j x u hn hp m
     have hpz := hps i args j hn
     have hy := run_yield (P := C.P) (args := args.toArray) hp.lp (by rw [hrec]; simpa using hpz)
     rw [hrec] at hy
     refine ⟨fn, _, assign, body, hy, roundIn_of_wpIn hfn ?_⟩
     have e3 : ((ps.zip args.toArray).foldl (fun t (p, v) => t.setIfInBounds p v) a.tmps) = ((ps.toList.zip args).foldl (fun t (p, v) => t.setIfInBounds p v) a.tmps) := by
      rw [← Array.foldl_toList]; simp
     have hfit := putPs_fits ps.toList args σ L ((L.map Ent.rd).set k (E i x) ++ [⟨w.heap.size + 1, some (.loop (rec .ready none)), false, none⟩]) a hf
     have hst : St [fun b => b = w.heap.size + 1 ∨ (E i x).W b] u u ((L.map Ent.rd).set k (E i x) ++ [⟨w.heap.size + 1, some (.loop (rec .ready none)), false, none⟩]) := by
      have hmem : ∀ f ∈ (L.map Ent.rd).set k (E i x), f = E i x ∨ ∃ f' ∈ F, f = f'.rd := by
       intro f hf
       rcases zw hf with rfl | ⟨i', hi, hm⟩
       · exact .inl rfl
       · right
         rw [List.getElem?_map, Option.map_eq_some_iff] at hm
         obtain ⟨f', hm, rfl⟩ := hm
         have hil := (List.getElem?_eq_some_iff.1 hm).1
         exact ⟨f', by rw [hFF]; exact List.mem_of_getElem? (i := i') (by rw [List.getElem?_set_ne (fun e => hi e.symm), List.getElem?_append_left hil]; exact hm), rfl⟩
      refine St.from u _ _ (fun f hf => ?_) ?_
      · rcases List.mem_append.1 hf with hf | hf
        · rcases hmem f hf with rfl | ⟨f', hf', rfl⟩
          · exact ⟨hp.ok, fun b hb => by simp [hb]⟩
          · exact ⟨(Ent.rdOk _ _).2 (hp.fr f' hf'), fun b hb => absurd hb (Ent.rdW _ _)⟩
        · obtain rfl : f = ⟨w.heap.size + 1, some (.loop (rec .ready none)), false, none⟩ := by simpa using hf
          exact ⟨by simpa using hp.lp, fun b hb => by simp at hb; simp [hb]⟩
      · refine List.pairwise_append.2 ⟨pw_set ?_ ?_, by simp, ?_⟩
        · rw [List.pairwise_map]
          exact List.pairwise_of_forall (fun x y b => ⟨fun h => absurd h (Ent.rdW _ _), fun h => absurd h (Ent.rdW _ _)⟩)
        · intro i' f hi hm
          rw [List.getElem?_map, Option.map_eq_some_iff] at hm
          obtain ⟨f', hm, rfl⟩ := hm
          have hil := (List.getElem?_eq_some_iff.1 hm).1
          have hf' : f' ∈ F := by rw [hFF]; exact List.mem_of_getElem? (i := i') (by rw [List.getElem?_set_ne (fun e => hi e.symm), List.getElem?_append_left hil]; exact hm)
          exact fun b => ⟨fun h1 h2 => (hp.ap f' hf' b).1 h1 ((Ent.rdA _ _).1 h2), fun h1 => absurd h1 (Ent.rdW _ _)⟩
        · intro f hf y hy
          obtain rfl : y = ⟨w.heap.size + 1, some (.loop (rec .ready none)), false, none⟩ := by simpa using hy
          rcases hmem f hf with rfl | ⟨f', hf', rfl⟩
          · exact fun b => ⟨fun h1 h2 => by simp at h2; subst h2; exact hp.el h1.a, fun h1 h2 => by simp at h1; subst h1; exact hp.el h2⟩
          · exact fun b => ⟨fun h1 => absurd h1 (Ent.rdW _ _), fun h1 h2 => by simp at h1; subst h1; exact hp.fl f' hf' ((Ent.rdA _ _).1 h2)⟩
     have hcx := round (w.heap.size + 1) i args j x u (.loop (rec .ready none)) (.loop (rec .busy none)) hn
     rw [e3]
     refine wpIn_mono (hcx.go m _ u hfit hst) ?_
     rintro e a1 w1 ⟨s1, hf1, hs1', hb⟩
     cases e with
     | normal =>
      obtain ⟨hb1, hb2⟩ := hb
      have hl1 := hs1'.nth hb1
      refine ⟨w1.putObj (w.heap.size + 1) (.loop (rec .busy none)), by have := run_beginRound (P := C.P) hl1 (by rw [hrec]); subst hrec; exact this, ?_⟩
      have hs2 := hs1'.put (o' := .loop (rec .busy none)) hb1
      refine wpIn_mono (hb2.go m a1 _ ⟨hf1.size, hf1.defers, hf1.slot⟩ hs2) ?_
      rintro e a3 w3 ⟨s3, hf3, hs3, hb3⟩
      cases e with
      | normal =>
       obtain ⟨y, hsub, hA⟩ := hb3
       have h3 := hs3.sub hsub
       have hr := run_endRound (P := C.P) none (h3.nth (k := 1) rfl)
       refine ⟨_, _, hr, .inl ⟨rfl, y, ?_⟩⟩
       have := qaJ (o'' := .loop (rec .ready none)) hp h3 hA
       rw [hrec] at this ⊢; exact this
      | ret =>
       obtain ⟨y, hy, hsub, hA⟩ := hb3
       have h3 := hs3.sub hsub
       have hr := run_endRound (P := C.P) (some .ret) (h3.nth (k := 1) rfl)
       refine ⟨_, _, hr, .inr ⟨rfl, y, ?_⟩⟩
       have := qaJ (o'' := .loop (rec .done (some .ret))) hp h3 hA
       rw [hy]
       rw [hrec] at this ⊢; exact this
      | exit id =>
       obtain ⟨y, hy, hsub, hA⟩ := hb3
       have h3 := hs3.sub hsub
       have hr := run_endRound (P := C.P) (some (.exit id)) (h3.nth (k := 1) rfl)
       refine ⟨_, _, hr, .inr ⟨rfl, y, ?_⟩⟩
       have := qaJ (o'' := .loop (rec .done (some (.exit id)))) hp h3 hA
       rw [hy]
       rw [hrec] at this ⊢; exact this
      | goto t => exact hb3.elim
      | panic ch => exact hb3.elim
      | outgrown => exact hb3.elim
     | _ => exact hb.elim
theorem rf {C : Cx} (hT : TabOk C.P C.T) (hF : C.F = none) {g : Operand} {ps : Array Tmp} {assign body : Code} {K : Exit → Sy → Prop} {σ : Fr} {L : List Ent} {D : List Deferred} {gf : FuncId} {lb : Array Value} {I α β : Type} {i0 : I} {nx : I → List Value → I → Prop} {fin : I → Prop} {H : Res}
 (hcl : zj C.T gf = true) (hg : ev σ g (· = .func (.func gf) #[] lb)) (hit : Itr C.P gf lb.toList i0 nx fin H) (k : Nat) (E : I → α → Ent) (S : β → Ent × Code) (hS : ∀ y, (S y).2 = .ret ∨ ∃ id, (S y).2 = .exit id) (x0 : α) (hk : L[k]? = some (E i0 x0))
 (hH : ∀ w, St C.M C.B w L → H.p w ∧ ∀ b, H.A b → ¬ (E i0 x0).W b) (hps : ∀ i args j, nx i args j → args.length = ps.size)
 (round : ∀ l i args j x w ready busy, nx i args j → cx ⟨C.P, C.T, C.N, [fun b => b = l ∨ (E i x).W b], w, some l⟩ assign (beginK ⟨C.P, C.T, C.N, [fun b => b = l ∨ (E i x).W b], w, some l⟩ body (qbw E S l busy w (E i x) j) l L.length ready busy)
  ⟨putPs C.N ps.toList args σ, (L.map Ent.rd).set k (E i x) ++ [⟨l, some ready, false, none⟩], []⟩)
 (done : ∀ i y b0, fin i → K .normal ⟨σ, L.set k (E i y) ++ [dfe b0], { target := .collected b0, args := #[] } :: D⟩)
 (stop : ∀ y b0, K (exitOf (S y).2) ⟨σ, L.set k (S y).1 ++ [dfe b0], { target := .collected b0, args := #[] } :: D⟩) : CodeP C (.rangeFunc g ps assign body) K ⟨σ, L, D⟩ := by
 refine rf' hT hF hcl hg hit k E S hS x0 hk hH hps (fun l i args j x w ready busy hn => ?_) done stop
 refine (qc2 (C := ⟨C.P, C.T, C.N, [fun b => b = l ∨ (E i x).W b], w, some l⟩) hT assign _ _ (round l i args j x w ready busy hn)).imp fun e s h => ?_
 cases e with
 | normal => exact ⟨h.1, qc2 (C := ⟨C.P, C.T, C.N, [fun b => b = l ∨ (E i x).W b], w, some l⟩) hT body _ _ h.2⟩
 | _ => exact h.elim
end
section
open Go Go.RowKit
def QQ (es : List Ent) : Res where
 w k := ∃ e ∈ es, e.W k
 r k := ∃ e ∈ es, e.A k
 p u := (∀ e ∈ es, e.Ok u) ∧ es.Pairwise Apart
 st u v h := fun ⟨h1, h2⟩ => ⟨fun e he => (h1 e he).same fun k hk => h k (.inr ⟨e, he, hk⟩), h2⟩
 bd u := fun ⟨h1, h2⟩ k hk => by
  rcases hk with ⟨e, he, hk⟩ | ⟨e, he, hk⟩
  · exact (h1 e he).lt hk.a
  · exact (h1 e he).lt hk
theorem qcN (es : List Ent) (k : Nat) : (rs (QQ es)).W k ↔ ∃ e ∈ es, e.W k := by simp [QQ]
theorem mresA (es : List Ent) (k : Nat) : (rs (QQ es)).A k ↔ ∃ e ∈ es, e.A k := by
 simp only [rsA, QQ]
 exact ⟨fun h => h.elim (fun ⟨e, he, h⟩ => ⟨e, he, h.a⟩) id, .inr⟩
theorem ZI (x : Ent) (es : List Ent) : Apart x (rs (QQ es)) ↔ ∀ e ∈ es, Apart x e := by
 constructor
 · exact fun h e he k => ⟨fun h1 h2 => (h k).1 h1 ((mresA es k).2 ⟨e, he, h2⟩), fun h1 h2 => (h k).2 ((qcN es k).2 ⟨e, he, h1⟩) h2⟩
 · exact fun h k => ⟨fun h1 h2 => by obtain ⟨e, he, h2⟩ := (mresA es k).1 h2; exact (h e he k).1 h1 h2, fun h1 h2 => by obtain ⟨e, he, h1⟩ := (qcN es k).1 h1; exact (h e he k).2 h1 h2⟩
section
variable {M : Bks} {B w : World} {X Y es : List Ent}
theorem St.pack (h : St M B w (X ++ es ++ Y)) : St M B w (X ++ [rs (QQ es)] ++ Y) := by
 have hp := h.apart
 rw [List.append_assoc, List.pairwise_append, List.pairwise_append] at hp
 refine ⟨h.os, h.tape, h.output, h.size, h.old, ?_, ?_, ?_⟩
 · intro e he
   simp only [List.mem_append, List.mem_singleton] at he
   rcases he with (he | rfl) | he
   · exact h.ok e (by simp [he])
   · exact (rsOk _ _).2 ⟨fun e he => h.ok e (by simp [he]), hp.2.1.1⟩
   · exact h.ok e (by simp [he])
 · intro e he k hk
   simp only [List.mem_append, List.mem_singleton] at he
   rcases he with (he | rfl) | he
   · exact h.ownW e (by simp [he]) k hk
   · obtain ⟨e, he, hk⟩ := (qcN es k).1 hk; exact h.ownW e (by simp [he]) k hk
   · exact h.ownW e (by simp [he]) k hk
 · rw [List.append_assoc, List.pairwise_append, List.pairwise_append]
   refine ⟨hp.1, ⟨by simp, hp.2.1.2.1, ?_⟩, ?_⟩
   · intro a ha b hb
     obtain rfl : a = _ := by simpa using ha
     exact ((ZI b es).2 fun e he => (hp.2.1.2.2 e he b hb).symm).symm
   · intro a ha b hb
     simp only [List.mem_append, List.mem_singleton] at hb
     rcases hb with rfl | hb
     · exact (ZI a es).2 fun e he => hp.2.2 a ha e (by simp [he])
     · exact hp.2.2 a ha b (by simp [hb])
theorem St.unpack (h : St M B w (X ++ [rs (QQ es)] ++ Y)) : St M B w (X ++ es ++ Y) := by
 have hp := h.apart
 rw [List.append_assoc, List.pairwise_append, List.pairwise_append] at hp
 have hm := (rsOk _ _).1 (h.ok (rs (QQ es)) (by simp))
 refine ⟨h.os, h.tape, h.output, h.size, h.old, ?_, ?_, ?_⟩
 · intro e he
   simp only [List.mem_append] at he
   rcases he with (he | he) | he
   · exact h.ok e (by simp [he])
   · exact hm.1 e he
   · exact h.ok e (by simp [he])
 · intro e he k hk
   simp only [List.mem_append] at he
   rcases he with (he | he) | he
   · exact h.ownW e (by simp [he]) k hk
   · exact h.ownW (rs (QQ es)) (by simp) k ((qcN es k).2 ⟨e, he, hk⟩)
   · exact h.ownW e (by simp [he]) k hk
 · rw [List.append_assoc, List.pairwise_append, List.pairwise_append]
   refine ⟨hp.1, ⟨hm.2, hp.2.1.2.1, ?_⟩, ?_⟩
   · intro a ha b hb
     exact ((ZI b es).1 (hp.2.1.2.2 _ (by simp) b hb).symm a ha).symm
   · intro a ha b hb
     simp only [List.mem_append] at hb
     rcases hb with hb | hb
     · exact (ZI a es).1 (hp.2.2 a ha _ (by simp)) b hb
     · exact hp.2.2 a ha b (by simp [hb])
theorem St.perm {L L' : List Ent} (h : St M B w L) (hp : L'.Perm L) : St M B w L' :=
 ⟨h.os, h.tape, h.output, h.size, h.old, fun e he => h.ok e (hp.mem_iff.1 he), fun e he => h.ownW e (hp.mem_iff.1 he), (hp.pairwise_iff (fun {a b} h => Apart.symm h)).2 h.apart⟩
theorem St.pad {L : List Ent} (h : St M B w L) (n : Nat) : St M B w (List.replicate n dead ++ L) := by
 induction n with
 | zero => exact h
 | succ n ih => exact ih.deads.perm (by rw [List.replicate_succ, List.cons_append]; exact (List.perm_append_singleton _ _).symm)
theorem Sub.padL (n : Nat) (L : List Ent) : Sub L (List.replicate n Sx.dead ++ L) := by
 induction n with
 | zero => exact Sub.refl L
 | succ n ih => exact .drop ih
end
theorem CodeP.from {C : Cx} {c : Code} {K : Exit → Sy → Prop} {σ : Fr} {L L' : List Ent} {D : List Deferred} (h : ∀ w, St C.M C.B w L → St C.M C.B w L') (hc : CodeP C c K ⟨σ, L', D⟩) : CodeP C c K ⟨σ, L, D⟩ := ⟨fun n a w hf hs => hc.go n a w ⟨hf.size, hf.defers, hf.slot⟩ (h w hs)⟩
def roundM {I α β : Type} (E : I → α → List Ent) (S : β → List Ent × Code) (l : Nat) (busy : Obj) (B : World) (es : List Ent) (j : I) : Exit → Sy → Prop := fun x s => match x with
 | .normal => ∃ y, Sub (E j y ++ [⟨l, some busy, false, none⟩]) s.L ∧ ∀ e ∈ E j y, ∀ b, e.A b → (∃ f ∈ es, f.A b) ∨ B.heap.size ≤ b
 | .ret => ∃ y, (S y).2 = .ret ∧ Sub ((S y).1 ++ [⟨l, some busy, false, none⟩]) s.L ∧ ∀ e ∈ (S y).1, ∀ b, e.A b → (∃ f ∈ es, f.A b) ∨ B.heap.size ≤ b
 | .exit id => ∃ y, (S y).2 = .exit id ∧ Sub ((S y).1 ++ [⟨l, some busy, false, none⟩]) s.L ∧ ∀ e ∈ (S y).1, ∀ b, e.A b → (∃ f ∈ es, f.A b) ∨ B.heap.size ≤ b
 | _ => False
theorem qbC {C : Cx} {a : Act} {w : World} {s : Sy} {es : List Ent} {e : Ent} {k : Exit → Sy → Prop} {x : Exit} (hf : Fits C.N s a) (hs : St C.M C.B w s.L) (hb : Sub (es ++ [e]) s.L) (h : ∀ s', s'.L = [rs (QQ es), e] → k x s') : zD C (k x) a w :=
 ⟨⟨s.σ, [rs (QQ es), e], s.D⟩, ⟨hf.size, hf.defers, hf.slot⟩, (show St C.M C.B w ([] ++ es ++ [e]) from hs.sub hb).pack, h _ rfl⟩
theorem round_pack {C : Cx} {I α β : Type} {E : I → α → List Ent} {S : β → List Ent × Code} {l : Nat} {busy : Obj} {es : List Ent} {j : I} (x : Exit) (a : Act) (w : World) (h : zD C (roundM E S l busy C.B es j x) a w) : zD C (qbw (fun i y => rs (QQ (E i y))) (fun y => (rs (QQ (S y).1), (S y).2)) l busy C.B (rs (QQ es)) j x) a w := by
 obtain ⟨s, hf, hs, hr⟩ := h
 have hA : ∀ e1 : List Ent, (∀ e ∈ e1, ∀ b, e.A b → (∃ f ∈ es, f.A b) ∨ C.B.heap.size ≤ b) → ∀ b, (rs (QQ e1)).A b → (rs (QQ es)).A b ∨ C.B.heap.size ≤ b := by
  intro e1 h1 b hb
  obtain ⟨e, he, hb⟩ := (mresA _ _).1 hb
  exact (h1 e he b hb).imp (mresA _ _).2 id
 cases x with
 | normal => obtain ⟨y, h1, h2⟩ := hr; exact qbC (k := qbw (fun i y => rs (QQ (E i y))) (fun y => (rs (QQ (S y).1), (S y).2)) l busy C.B (rs (QQ es)) j) hf hs h1 fun s' e => ⟨y, by rw [e]; exact .cons (.cons .nil), hA _ h2⟩
 | ret => obtain ⟨y, h0, h1, h2⟩ := hr; exact qbC (k := qbw (fun i y => rs (QQ (E i y))) (fun y => (rs (QQ (S y).1), (S y).2)) l busy C.B (rs (QQ es)) j) hf hs h1 fun s' e => ⟨y, h0, by rw [e]; exact .cons (.cons .nil), hA _ h2⟩
 | exit id => obtain ⟨y, h0, h1, h2⟩ := hr; exact qbC (k := qbw (fun i y => rs (QQ (E i y))) (fun y => (rs (QQ (S y).1), (S y).2)) l busy C.B (rs (QQ es)) j) hf hs h1 fun s' e => ⟨y, h0, by rw [e]; exact .cons (.cons .nil), hA _ h2⟩
 | _ => exact hr.elim
theorem rfm {C : Cx} (hT : TabOk C.P C.T) (hF : C.F = none) {g : Operand} {ps : Array Tmp} {assign body : Code} {K : Exit → Sy → Prop} {σ : Fr} {L0 L : List Ent} {D : List Deferred} {gf : FuncId} {lb : Array Value} {I α β : Type} {i0 : I} {nx : I → List Value → I → Prop} {fin : I → Prop} {H : Res}
 (hcl : zj C.T gf = true) (hg : ev σ g (· = .func (.func gf) #[] lb)) (hit : Itr C.P gf lb.toList i0 nx fin H) (E : I → α → List Ent) (S : β → List Ent × Code) (hS : ∀ y, (S y).2 = .ret ∨ ∃ id, (S y).2 = .exit id) (x0 : α) (hL : (L0 ++ E i0 x0).Perm L)
 (hH : ∀ w, St C.M C.B w (L0 ++ E i0 x0) → H.p w ∧ ∀ b, H.A b → ∀ e ∈ E i0 x0, ¬ e.W b) (hps : ∀ i args j, nx i args j → args.length = ps.size)
 (round : ∀ l i args j x w ready busy, nx i args j → cx ⟨C.P, C.T, C.N, [fun b => b = l ∨ ∃ e ∈ E i x, e.W b], w, some l⟩ assign (beginK ⟨C.P, C.T, C.N, [fun b => b = l ∨ ∃ e ∈ E i x, e.W b], w, some l⟩ body (roundM E S l busy w (E i x) j) l (L0.length + (E i x).length) ready busy)
  ⟨putPs C.N ps.toList args σ, L0.map Ent.rd ++ E i x ++ [⟨l, some ready, false, none⟩], []⟩)
 (done : ∀ i y b0, fin i → K .normal ⟨σ, L0 ++ E i y ++ [dfe b0], { target := .collected b0, args := #[] } :: D⟩)
 (stop : ∀ y b0, K (exitOf (S y).2) ⟨σ, L0 ++ (S y).1 ++ [dfe b0], { target := .collected b0, args := #[] } :: D⟩) : CodeP C (.rangeFunc g ps assign body) K ⟨σ, L, D⟩ := by
 refine CodeP.from (L' := L0 ++ [rs (QQ (E i0 x0))]) (fun w hs => by simpa using St.pack (Y := []) (by simpa using hs.perm hL)) ?_
 have hset : ∀ e e' : Ent, (L0 ++ [e]).set L0.length e' = L0 ++ [e'] := fun e e' => by simp
 refine CodeP.mono (K := fun x s => ∃ L', (∀ w, St C.M C.B w s.L → St C.M C.B w L') ∧ K x ⟨s.σ, L', s.D⟩) (fun x a w ⟨s, h1, h2, L', h3, h4⟩ => ⟨⟨s.σ, L', s.D⟩, ⟨h1.size, h1.defers, h1.slot⟩, h3 w h2, h4⟩) ?_
 refine rf' hT hF hcl hg hit L0.length (fun i x => rs (QQ (E i x))) (fun y => (rs (QQ (S y).1), (S y).2)) hS x0 (by simp) (fun w hs => ?_) hps (fun l i args j x w ready busy hn => ?_) (fun i y b0 hf => ?_) (fun y b0 => ?_)
 · have h1 := hH w (by simpa using St.unpack (Y := []) (by simpa using hs))
   exact ⟨h1.1, fun b hb hw => by obtain ⟨e, he, hw⟩ := (qcN _ _).1 hw; exact h1.2 b hb e he hw⟩
 · have hM : (fun b => b = l ∨ (rs (QQ (E i x))).W b) = fun b => b = l ∨ ∃ e ∈ E i x, e.W b := by funext b; rw [qcN]
   rw [hM]
   have h1 := qc2 (C := ⟨C.P, C.T, C.N, [fun b => b = l ∨ ∃ e ∈ E i x, e.W b], w, some l⟩) hT assign _ _ (round l i args j x w ready busy hn)
   refine CodeP.from (L' := L0.map Ent.rd ++ E i x ++ [⟨l, some ready, false, none⟩]) (fun w' hs => ?_) (h1.mono fun e a w' h => ?_)
   · have e1 : (List.map Ent.rd (L0 ++ [rs (QQ (E i0 x0))])).set L0.length (rs (QQ (E i x))) ++ [⟨l, some ready, false, none⟩] = L0.map Ent.rd ++ [rs (QQ (E i x))] ++ [⟨l, some ready, false, none⟩] := by
      rw [List.map_append]; simp [List.set_append_right]
     rw [e1] at hs
     exact hs.unpack
   · obtain ⟨s, hf, hs, h2⟩ := h
     cases e with
     | normal =>
      obtain ⟨h3, h4⟩ := h2
      have h5 := (qc2 (C := ⟨C.P, C.T, C.N, [fun b => b = l ∨ ∃ e ∈ E i x, e.W b], w, some l⟩) hT body _ _ h4).mono fun e a w' h => round_pack (C := ⟨C.P, C.T, C.N, [fun b => b = l ∨ ∃ e ∈ E i x, e.W b], w, some l⟩) e a w' h
      obtain ⟨hlt, hget⟩ := List.getElem?_eq_some_iff.1 h3
      have hsp : s.L = s.L.take (L0.length + (E i x).length) ++ ⟨l, some ready, false, none⟩ :: s.L.drop (L0.length + (E i x).length + 1) := by
       rw [← hget]; simp
      have hset2 : s.L.set (L0.length + (E i x).length) ⟨l, some busy, false, none⟩ = s.L.take (L0.length + (E i x).length) ++ ⟨l, some busy, false, none⟩ :: s.L.drop (L0.length + (E i x).length + 1) := List.set_eq_take_append_cons_drop.trans (if_pos hlt)
      rw [hset2] at h5
      generalize s.L.take (L0.length + (E i x).length) = A at *
      generalize s.L.drop (L0.length + (E i x).length + 1) = Z at *
      refine ⟨⟨s.σ, List.replicate (L0.length + 1) dead ++ ⟨l, some ready, false, none⟩ :: (A ++ Z), s.D⟩, ⟨hf.size, hf.defers, hf.slot⟩, ?_, ?_, ?_⟩
      · rw [hsp] at hs
        exact (hs.perm List.perm_middle.symm).pad _
      · simp
      · refine CodeP.from (L' := A ++ ⟨l, some busy, false, none⟩ :: Z) (fun w2 hs2 => ?_) h5
        have e2 : (List.replicate (L0.length + 1) dead ++ (⟨l, some ready, false, none⟩ : Ent) :: (A ++ Z)).set (L0 ++ [rs (QQ (E i0 x0))]).length ⟨l, some busy, false, none⟩ = List.replicate (L0.length + 1) dead ++ (⟨l, some busy, false, none⟩ : Ent) :: (A ++ Z) := by
         rw [List.set_append_right _ _ (by simp)]; simp
        rw [e2] at hs2
        exact (hs2.sub (Sub.padL _ _)).perm List.perm_middle
     | _ => exact h2.elim
 · refine ⟨L0 ++ E i y ++ [dfe b0], fun w hs => ?_, done i y b0 hf⟩
   rw [hset] at hs
   exact hs.unpack
 · refine ⟨L0 ++ (S y).1 ++ [dfe b0], fun w hs => ?_, stop y b0⟩
   rw [hset] at hs
   exact hs.unpack
theorem apI {C : Cx} {L : List Ent} (k : Nat) (hT : TabOk C.P C.T) {t tx ty e z by' cap b : Nat} {zv : Value} {cs : Array Bool} {xs news j : List Value} {n m : Nat} {x : Value} {next : Value → List Ent → Prop}
 (ht : zT C.T.rows t fun y _ => y = .sl e z) (hi : (C.P.info? e).map (fun i => (i.zero, i.size, i.bytes)) = some (some zv, z, by'))
 (hk : L[k]? = some (cl b (xs ++ j).toArray e)) (hn : xs.length = n * z) (hcap : (xs ++ j).length = cap * z) (hroom : n + m ≤ cap) (hsrc : ∀ w, St C.M C.B w L → Src C.P z tx x m news w)
 (go : next (.slice (some ⟨b, 0, none⟩) (n + m) cap) (L.set k (cl b (xs ++ news ++ j.drop news.length).toArray e))) : BiP C .append #[t, tx] ty cs [.slice (some ⟨b, 0, none⟩) n cap, x] L next := by
 refine apRun fun w hs => ?_
 obtain ⟨i0, hi0, hz0', rfl, hz2⟩ := QE hi
 have hsr := hsrc w hs
 have hlen : 0 + n * i0.size + news.length ≤ (xs ++ j).toArray.size := by
  rw [hsr.newsLen, List.size_toArray, hcap, Nat.zero_add, ← Nat.add_mul]; exact Nat.mul_le_mul_right _ hroom
 have hrun := run_append_room_src w t tx ty e i0 (slOf hT ht) hi0 b 0 n cap x m news hsr hroom (fun q hq => by
  rw [hs.cell hk]; have : 0 + n * i0.size + q < (xs ++ j).toArray.size := by omega
  simp
  simpa using this) (fun q hq => frozen_of_row w b _ _ e (hs.nth hk))
 refine ⟨_, _, _, hrun, ?_, go⟩
 have := hs.setCells hk (0 + n * i0.size) news hlen
 have e2 : ((xs ++ j).toArray.toList.take (0 + n * i0.size) ++ news ++ (xs ++ j).toArray.toList.drop (0 + n * i0.size + news.length)) = xs ++ news ++ j.drop news.length := by
  rw [Nat.zero_add, ← hn]; simp
 rw [e2] at this
 exact this
theorem apI1 {C : Cx} {L : List Ent} (k kn : Nat) (hT : TabOk C.P C.T) {t ty e by' cap b bn : Nat} {zv v : Value} {cs : Array Bool} {xs j : List Value} {n : Nat} {next : Value → List Ent → Prop}
 (ht : zT C.T.rows t fun y _ => y = .sl e 1) (hi : (C.P.info? e).map (fun i => (i.zero, i.size, i.bytes)) = some (some zv, 1, by'))
 (hk : L[k]? = some (cl b (xs ++ j).toArray e)) (hn : xs.length = n) (hcap : (xs ++ j).length = cap) (hroom : n + 1 ≤ cap) (hkn : L[kn]? = some (cl bn #[v] e)) (h1 : v.oneCell' = true)
 (go : next (.slice (some ⟨b, 0, none⟩) (n + 1) cap) (L.set k (cl b (xs ++ [v] ++ j.drop 1).toArray e))) : BiP C .append #[t, t] ty cs [.slice (some ⟨b, 0, none⟩) n cap, .slice (some ⟨bn, 0, none⟩) 1 1] L next :=
 apI (news := [v]) k hT ht hi hk (by omega) (by omega) hroom (srcE ht hT (src kn hkn rfl) rfl (by simpa using h1)) go
theorem ap1 {C : Cx} {L : List Ent} (k kn : Nat) (hT : TabOk C.P C.T) {t ty e by' bn : Nat} {zv v : Value} {cs : Array Bool} {r : Sx.Own} {xs : List Value} {n : Nat} {next : Value → List Ent → Prop}
 (ht : zT C.T.rows t fun y _ => y = .sl e 1) (hi : (C.P.info? e).map (fun i => (i.zero, i.size, i.bytes)) = some (some zv, 1, by')) (hz : zv.cells.size = 1)
 (hk : L[k]? = some (se r xs e)) (hR : Rw 1 n r xs) (hkn : L[kn]? = some (cl bn #[v] e)) (h1 : v.oneCell' = true) (hby : (n + 1 + (n + 1) / 4 + 192) * by' ≤ 281474976710656) (h63 : n + 1 ≤ maxLen)
 (go : ∀ r', Rw 1 (n + 1) r' (xs ++ [v]) → next (sv r' (n + 1)) (L.set k (se r' (xs ++ [v]) e))) : BiP C .append #[t, t] ty cs [sv r n, .slice (some ⟨bn, 0, none⟩) 1 1] L next :=
 ap (news := [v]) (m := 1) k hT ht hi hz hk hR (srcE ht hT (src kn hkn rfl) rfl (by simpa using h1)) hby h63 go
theorem made1 {P : Program} {t e : TypeId} {zv : Value} {by' : Nat} (w : World) (ht : P.underlying t = some (.slice e)) (hi : (P.info? e).map (fun i => (i.zero, i.size, i.bytes)) = some (some zv, 1, by')) (hzv : zv.cells = #[zv]) (l c : Nat) (hlc : l ≤ c) (hc : c * by' ≤ 100000000) (hc2 : c ≤ 100000000) :
 (Instr.makeSlice t (.int .i64 (l : Int)) (.int .i64 (c : Int))).run P w = .ok (.slice (some ⟨w.heap.size, 0, none⟩) l c) (w.alloc (.cells (List.replicate c zv).toArray e)) := by
 obtain ⟨i, hi, hz, hs, hb⟩ := QE hi
 have h := run_make (P := P) w t e i _ ht hi hz .i64 .i64 (l : Int) (c : Int) (by omega) (by omega) (by rw [hb, Int.mul_comm, ← Int.natCast_mul, Nat.mul_comm]; first | omega | (rw [Nat.mul_comm]; omega)) (by omega)
 rw [hs] at h
 simp only [Int.toNat_natCast, Nat.mul_one] at h
 rw [h]
 congr 2
 simp only [madeCells, hzv]
 congr 1
 apply Array.ext
 · simp
 · intro i h1 h2
   simp [Nat.mod_one]
theorem St.reads {w : World} {L : List Ent} (h : ∀ e ∈ L, e.Ok w ∧ ∀ k, ¬ e.W k) : St [] w w L :=
 St.from w [] L (fun e he => ⟨(h e he).1, fun k hk => absurd hk ((h e he).2 k)⟩) (List.pairwise_of_forall_mem_list fun a ha b hb k => ⟨fun h1 => absurd h1 ((h a ha).2 k), fun h1 => absurd h1 ((h b hb).2 k)⟩)
theorem s1e (k : Nat) (e : Array Value) {C : Cx} {L : List Ent} {b o : Nat} {c : Array Value} {t t' : TypeId} {v : Value} {next : List Ent → Prop} (hk : L[k]? = some (cl b c t')) (ho : o < c.size) (he : c.setIfInBounds o v = e) (go : next (L.set k (cl b e t')))
 (h1 : Q7 C.P t 1 = true := by kernel_rfl) (h2 : v.oneCell' = true := by rfl) (h3 : v.cells = #[v] := by rfl) : StP C t L b o v next := by
 subst he; exact s1 k hk ho go h1 h2 h3
theorem ce {C : Cx} {L : List Ent} {α : Type} {Φ : α → Prop} {v : α → Value} {g : FuncId} {vs : List Value} {next : Value → List Ent → Prop}
 (h : ∀ w, St C.M C.B w L → Calls C.P g vs.toArray w fun e w' => ∃ x, Φ x ∧ e = .returned (v x) ∧ Below w.heap.size w w') (go : ∀ x, Φ x → next (v x) L) : zI C g vs L next :=
 cg h fun w e w' hs ⟨x, hx, he, hb⟩ => ⟨_, _, he, hs.call hb, go x hx⟩
theorem cut {C : Cx} {id : Nat} {ops : Array Oper} {K : Exit → Sy → Prop} {s : Sy} {α : Type} (J : α → Prop) (f : α → Sy) (h : qb0 C id ops (fun e s' => match e with | .normal => ∃ x, J x ∧ Le (f x) s' | _ => False) s) (go : ∀ x, J x → K .normal (f x)) : qb0 C id ops K s := by
 refine ⟨fun n a w hf hs => wpIn_mono (h.go n a w hf hs) fun e a' w' hq => ?_⟩
 obtain ⟨s', hf', hs', hk⟩ := hq
 cases e with
 | normal => obtain ⟨x, hx, hle⟩ := hk; exact ⟨f x, hf'.le hle, hs'.sub hle.l, go x hx⟩
 | _ => exact hk.elim
theorem cutp {C : Cx} {id : Nat} {ops : Array Oper} {K : Exit → Sy → Prop} {s : Sy} {α : Type} (J : α → Prop) (f : α → Sy)
 (h : qb0 C id ops (fun e s' => match e with | .normal => ∃ x, J x ∧ leF (f x).σ s'.σ ∧ (∃ L', (f x).L.Perm L' ∧ Sub L' s'.L) ∧ (f x).D = s'.D | _ => False) s) (go : ∀ x, J x → K .normal (f x)) : qb0 C id ops K s := by
 refine ⟨fun n a w hf hs => wpIn_mono (h.go n a w hf hs) fun e a' w' hq => ?_⟩
 obtain ⟨s', hf', hs', hk⟩ := hq
 cases e with
 | normal => obtain ⟨x, hx, hle, ⟨L', hp, hsub⟩, hd⟩ := hk; exact ⟨f x, ⟨hf'.size, hf'.defers.trans hd.symm, fun i v hv => hf'.slot i v (leF_get hle i v hv)⟩, (hs'.sub hsub).perm hp, go x hx⟩
 | _ => exact hk.elim
end
end Go.Sx
namespace Go.Proofs.YtbgefoamhdgnaaaGreatDoor
section
open Go.RowKit Go.Sx
theorem biMin {C : Cx} {L : List Ent} {ts : Array TypeId} {t : TypeId} {cs : Array Bool} {k : IntKind} {x y : Int} {next : Value → List Ent → Prop} (go : next (.int k (min x y)) L) : BiP C .min ts t cs [.int k x, .int k y] L next := by
 have e : (if y < x then y else x) = min x y := by split <;> omega
 rw [← e] at go
 exact biV (m := Builtin.min_ ts t #[.int k x, .int k y]) rfl (fun w _ => run_min_int2 w ts t k k x y) go
theorem trn_w (x : Wd) (n : Nat) (hn : n ≤ 64) (i : Int) (hi : i = n) : trn (ux x) i = ux (rot x n) := by
 unfold trn rot
 rw [qco x n hn i hi, u_shl x (64 - n) (by omega) (64 - i) (by omega), u_or]
def chV (sb so len n i : Nat) : Value := .slice (some ⟨sb, so + i, none⟩) (min n (len - i)) (min n (len - i))
def chNx (sb so len n : Nat) (i : Nat) (args : List Value) (j : Nat) : Prop := i < len ∧ i % n = 0 ∧ args = [chV sb so len n i] ∧ j = i + n
def chH (b2 b3 sb so len cap n : Nat) : Res where
 w _ := False
 r k := k = b2 ∨ k = b3
 p u := u.heap[b2]? = some (.cells #[.slice (some ⟨sb, so, none⟩) len cap] 48 (0, 0)) ∧ u.heap[b3]? = some (.cells #[.int .i64 n] 3 (0, 0))
 st u v h := fun ⟨h1, h2⟩ => ⟨(h _ (.inr (.inl rfl))).trans h1, (h _ (.inr (.inr rfl))).trans h2⟩
 bd u := fun ⟨h1, h2⟩ k hk => by
  rcases hk with hk | rfl | rfl
  · exact hk.elim
  · exact (Array.getElem?_eq_some_iff.1 h1).1
  · exact (Array.getElem?_eq_some_iff.1 h2).1
theorem qdL (b2 b3 sb so len cap n : Nat) (hn : 0 < n) (hl : len ≤ 1000000000) (hn2 : n ≤ 1000000) (hc : len ≤ cap) :
 Itr Tryz.prog 231 [ptr b2, ptr b3] 0 (chNx sb so len n) (fun i => len ≤ i ∧ i < len + n ∧ i % n = 0) (chH b2 b3 sb so len cap n) := by
 refine ⟨fun l α β R S W x0 hR hH hd hround => ?_⟩
 have hst : St [fun k => (R 0 x0).w k] W W [rs (R 0 x0), cr b2 #[.slice (some ⟨sb, so, none⟩) len cap] 48, cr b3 #[.int .i64 n] 3] := by
  refine St.from W _ _ (fun e he => ?_) ?_
  · simp only [List.mem_cons, List.not_mem_nil, or_false] at he
    rcases he with rfl | rfl | rfl
    · exact ⟨by simpa using hR, fun k hk => by simpa using hk⟩
    · exact ⟨by simpa using hH.1, fun k hk => by simp at hk⟩
    · exact ⟨by simpa using hH.2, fun k hk => by simp at hk⟩
  · refine .cons (fun y hy => ?_) (.cons (fun y hy => ?_) (by simp))
    · simp only [List.mem_cons, List.not_mem_nil, or_false] at hy
      rcases hy with rfl | rfl
      · exact fun k => ⟨fun h1 h2 => by simp at h1 h2; subst h2; exact hd _ (.inr (.inl rfl)) h1, fun h1 => by simp at h1⟩
      · exact fun k => ⟨fun h1 h2 => by simp at h1 h2; subst h2; exact hd _ (.inr (.inr rfl)) h1, fun h1 => by simp at h1⟩
    · obtain rfl : y = cr b3 #[.int .i64 n] 3 := by simpa using hy
      exact fun k => ⟨fun h1 => by simp at h1, fun h1 => by simp at h1⟩
 refine (enter qe Tryz.func231 rfl Tryz.ntmps231 rfl hst (R := fun v w' => (∃ i y, (len ≤ i ∧ i < len + n ∧ i % n = 0) ∧ Turns W w' (R 0 x0) (R i y)) ∨ ∃ y, Turns W w' (R 0 x0) (S y)) ?_).mono (fun e w' ⟨v, he, h⟩ => ⟨⟨v, he⟩, h⟩)
 have fin' : ∀ (r : Res) (L : List Ent) (w' : World), St [fun k => (R 0 x0).w k] W w' L → L[0]? = some (rs r) → (∀ k, r.A k → (R 0 x0).A k ∨ W.heap.size ≤ k) → Turns W w' (R 0 x0) r := by
  intro r L w' hs h0 hA
  refine Turns.of_st hs (fun k hk => by simpa using hk) (hs.res h0) (fun k hk => ?_) hA
  rcases hs.ownW _ (List.mem_of_getElem? h0) k (by simpa using hk) with h | h
  · exact .inr h
  · exact .inl (by simpa using h)
 refine lp qe (fun x : Nat × α => (x.1 < len + n ∧ x.1 % n = 0) ∧ ∀ k, (R x.1 x.2).A k → (R 0 x0).A k ∨ W.heap.size ≤ k)
  (fun x => ⟨[(0, .func (.yield l) #[] #[]), (1, ptr b2), (2, ptr b3), (4, .int .i64 x.1)], [rs (R x.1 x.2), cr b2 #[.slice (some ⟨sb, so, none⟩) len cap] 48, cr b3 #[.int .i64 n] 3], []⟩) (fun x => len + n - x.1) (0, x0) ⟨⟨by simp only; omega, Nat.zero_mod _⟩, fun k hk => .inl hk⟩
  ⟨⟨rfl, rfl, rfl, rfl, trivial⟩, .cons (.cons (.cons .nil)), rfl⟩ ?_
 rintro ⟨i, x⟩ ⟨⟨hi, hm⟩, hA⟩
 simp only at hi hm hA
 refine ld1 1 rfl (v := .slice (some ⟨sb, so, none⟩) len cap) rfl ?_
 refine cd (fun h => ?_) (fun h => ?_)
 · have hlt : i < len := by omega
   refine dr [rs (R i x), cr b2 #[.slice (some ⟨sb, so, none⟩) len cap] 48, cr b3 #[.int .i64 n] 3] 99 (.t 0 (.t 1 (.t 2 (.t 3 (.t 4 (.n 5 (.t 6 .nil))))))) qe qk (by kernel_rfl) (.cons (.cons (.cons .nil))) ?_
   refine ld1 2 rfl (v := .int .i64 n) rfl ?_
   refine ld1 1 rfl (v := .slice (some ⟨sb, so, none⟩) len cap) rfl ?_
   refine ⟨.mk i len cap rfl rfl rfl (by omega) hc (Nat.le_refl _) (by simp) (.on (by omega) ?_)⟩
   rw [qw, qu, Nat.mul_one]
   refine biMin ?_
   have he : min (n : Int) ((len - i : Nat) : Int) = ((min n (len - i) : Nat) : Int) := by omega
   rw [he]
   refine ⟨.cons (.cons (.cons .nil)), ?_⟩
   refine ld1 1 rfl (v := .slice (some ⟨sb, so, none⟩) len cap) rfl ?_
   refine .as ((i + min n (len - i) : Nat) : Int) (by simp only; omega) (by simp only [mn]; omega) (by simp only [mx]; omega) ?_
   refine .as ((i + min n (len - i) : Nat) : Int) (by simp only; omega) (by simp only [mn]; omega) (by simp only [mx]; omega) ?_
   refine ⟨.mk i (i + min n (len - i)) (i + min n (len - i)) rfl rfl rfl (by omega) (Nat.le_refl _) (by omega) (by simp) (.on (by omega) ?_)⟩
   rw [qw, qu, Nat.mul_one, Nat.add_sub_cancel_left]
   refine yd (α := α) (β := β) (R := R) (S := S) (nx := chNx sb so len n) (i := i) (j := i + n) (x := x) 0 rfl hround ⟨hlt, hm, rfl, rfl⟩ (fun y hA2 => ?_) (fun y hA2 => ?_)
   · refine cf rfl ?_
     refine ld1 2 rfl (v := .int .i64 n) rfl ?_
     refine .as ((i + n : Nat) : Int) (by simp only; omega) (by simp only [mn]; omega) (by simp only [mx]; omega) ?_
     refine ⟨(i + n, y), ⟨⟨by simp only; omega, by simp only; rw [Nat.add_mod_right]; exact hm⟩, fun k hk => ?_⟩, by simp only; omega, ⟨⟨rfl, rfl, rfl, rfl, trivial⟩, .cons (.cons (.cons .nil)), rfl⟩⟩
     rcases hA2 k hk with h | h
     · exact hA k h
     · exact .inr h
   · refine ct rfl ?_
     refine ⟨fun w1 hs => .inr ⟨y, fin' _ _ _ hs rfl fun k hk => ?_⟩⟩
     rcases hA2 k hk with h | h
     · exact hA k h
     · exact .inr h
 · refine ⟨fun w1 hs => .inl ⟨i, x, ⟨by omega, hi, hm⟩, fin' _ _ _ hs rfl hA⟩⟩
end
section
open Go.RowKit Go.Sx
theorem mixv_w (x : Wd) (a b c : Nat) (s : Bool) (ha : a ≤ 64) (hb : b ≤ 64) (hc : c ≤ 64) : mixv (ux x) a b c s = ux (qaL x a b c s) := by
 unfold mixv qaL
 rw [trn_w x a ha _ rfl, trn_w x b hb _ rfl, Z0, trn_w x c hc _ rfl, qco x c hc _ rfl]
 cases s <;> exact Z0 _ _
def qK (ws : List Wd) (n : Nat) : Array Value := (ws.map uv ++ List.replicate n (Value.int .u64 0)).toArray
theorem ZY (ws : List Wd) (n i : Nat) (h : i < ws.length) : (qK ws n)[i]? = some (uv (ws.getD i 0)) := by
 unfold qK
 rw [List.getElem?_toArray, List.getElem?_append_left (by simpa using h)]
 simp [h]
theorem tb_at (ws : List Wd) (i : Nat) (h : i < ws.length) : (ws.map uv).toArray[i]? = some (uv (ws.getD i 0)) := by
 simp [h]
theorem Zk {α : Type} (x : α) (A B : List α) (h : A.length = B.length) (i : Nat) (hi : i < A.length) (hx : A[i]? = some x) : (A.take i ++ B.drop i).set i x = A.take (i + 1) ++ B.drop (i + 1) := by
 have hb : i < B.length := by omega
 rw [List.set_append_right _ _ (by simp; omega), List.length_take, Nat.min_eq_left (by omega), Nat.sub_self, List.drop_eq_getElem_cons hb, List.set_cons_zero, List.take_add_one, hx]
 simp
theorem get_step {α : Type} (A B : List α) (i : Nat) (hi : i ≤ A.length) : (A.take i ++ B.drop i)[i]? = B[i]? := by
 rw [List.getElem?_append_right (by simp; omega), List.length_take, Nat.min_eq_left hi, Nat.sub_self, List.getElem?_drop]; simp
theorem qaD (s : H8) (i : Nat) (h : i < 8) : (s.l.map uv).toArray[i]? = some (uv (s.l.getD i 0)) := tb_at _ _ h
theorem add_at (s r : H8) (i : Nat) (h : i < 8) : (s.add r).l.getD i 0 = s.l.getD i 0 + r.l.getD i 0 := by
 match i, h with
 | 0, _ => rfl | 1, _ => rfl | 2, _ => rfl | 3, _ => rfl | 4, _ => rfl | 5, _ => rfl | 6, _ => rfl | 7, _ => rfl
theorem mix_w (b tb : Nat) (k : Int) (n1 n2 n3 : Nat) (f : Bool) (h1 : n1 ≤ 64) (h2 : n2 ≤ 64) (h3 : n3 ≤ 64)
 (h : ∀ (x : Int) (w : World), w.heap[b]? = some (.cells (shp tb) 344 (0, 0)) → Calls Tryz.prog 290 ([.pointer (some ⟨b, 0, none⟩), .int .u64 x, .int .i64 k] : List Value).toArray w fun e w' => e = .returned (.int .u64 (mixv x n1 n2 n3 f)) ∧ Below w.heap.size w w') (x : Wd) (w : World) (hw : w.heap[b]? = some (.cells (shp tb) 344 (0, 0))) :
 Calls Tryz.prog 290 ([ptr b, uv x, .int .i64 k] : List Value).toArray w fun e w' => e = .returned (uv (qaL x n1 n2 n3 f)) ∧ Below w.heap.size w w' := by
 rw [uv, uv, ← mixv_w x n1 n2 n3 f h1 h2 h3]; exact h (ux x) w hw
theorem zU : (Tryz.prog.info? 131).map (fun i => (i.zero, i.size, i.bytes)) = some (some (.int .u64 0), 1, 8) := by kernel_rfl
theorem und94 : Tryz.prog.underlying 129 = some (.slice 131) := by kernel_rfl
theorem bs34 (x : Int) (w : World) : (Instr.buildSlice 129 1 #[(0, .int .u64 x)]).run Tryz.prog w = .ok (.slice (some ⟨w.heap.size, 0, none⟩) 1 1) (w.alloc (.cells #[.int .u64 x] 131)) := by
 obtain ⟨i, hi, hz, hs, hb⟩ := QE zU
 exact run_buildSlice w _ _ 1 _ #[.int .u64 x] i (.int .u64 0) und94 hi hz (by rw [hs]; decide) (by rw [hs]; decide) (by rw [hs]; kernel_rfl)
theorem qcm (p : List UInt8) (hp : p.length = 128) (k : Nat) (hk : k < 16) : (qW p).take (k + 1) = (qW p).take k ++ [be ((p.drop (8 * k)).take 8)] := by
 unfold qW
 rw [List.take_add_one]
 simp [hk]
theorem chunk_at (p : List UInt8) (hp : p.length = 128) (i j : Nat) (hi : i + 8 ≤ 128) (hj : j < 8) : ((p.drop i).take 8).take (j + 1) = ((p.drop i).take 8).take j ++ [p.getD (i + j) 0] := by
 rw [List.take_add_one]
 congr 1
 have : i + j < p.length := by omega
 simp [hj, List.getElem?_drop, this, List.getD]
theorem piece_any (b tb pb po cap : Nat) (c : Array Value) (s : H8) (p : List UInt8) (hp : p.length = 128) (hcp : ∀ i, i < 128 → c[po + i]? = some (.int .u8 (p.getD i 0).toNat)) (hcap : 128 ≤ cap) (w : World)
 (hw : w.heap[b]? = some (.cells (shp tb) 344 (0, 0))) (ht : w.heap[tb]? = some (.cells (ktab.map uv).toArray 131 (0, 0))) (hpb : w.heap[pb]? = some (.cells c 5 (0, 0))) :
 Calls Tryz.prog 272 ([ptr b, .agg (s.l.map uv).toArray, .slice (some ⟨pb, po, none⟩) 128 cap] : List Value).toArray w fun e w' => e = .returned (.agg ((qcG s p).l.map uv).toArray) ∧ Below w.heap.size w w' := by
 have hmk := fun w => made1 (P := Tryz.prog) w und94 zU rfl 0 80 (by decide) (by decide) (by decide)
 refine qA qe Tryz.func272 rfl Tryz.ntmps272 rfl (St.reads (L := [cr b (shp tb) 344, cr tb (ktab.map uv).toArray 131, cr pb c 5]) (by simp [hw, ht, hpb])) ?_
 intro b4 b6
 refine ld1 0 rfl (v := .int .i64 64) rfl ?_
 refine ⟨by decide, by decide, by decide, ?_⟩
 refine ld1 0 rfl (v := .slice (some ⟨tb, 0, none⟩) 80 80) rfl ?_
 refine .mk 0 80 _ _ hmk fun wb => ?_
 intro b8
 refine s1 6 rfl (show 0 < 1 by decide) ?_
 refine inl (C := ⟨Tryz.prog, tab, 194, [], w, none⟩) qe Tryz.func191 rfl Tryz.ntmps191 rfl ?_
 intro b2 b3
 refine ld1 8 rfl (v := .int .i64 8) rfl ?_
 refine cf rfl ?_
 refine bk ?_
 have hL : List.Perm ([cr b (shp tb) 344, cr tb (ktab.map uv).toArray 131, cr pb c 5, cl b4 (s.l.map uv).toArray 172, cl b6 (List.replicate 8 (Value.int .u64 0)).toArray 172, cl b2 #[.slice (some ⟨pb, po, none⟩) 128 cap] 48, cl b3 #[.int .i64 8] 3] ++ [cl wb (qK [] 80) 131, cl b8 #[.slice (some ⟨wb, 0, none⟩) 0 80] 129]) [cr b (shp tb) 344, cr tb (ktab.map uv).toArray 131, cr pb c 5, cl b4 (s.l.map uv).toArray 172, cl b6 (List.replicate 8 (Value.int .u64 0)).toArray 172, cl wb (qK [] 80) 131, cl b8 #[.slice (some ⟨wb, 0, none⟩) 0 80] 129, cl b2 #[.slice (some ⟨pb, po, none⟩) 128 cap] 48, cl b3 #[.int .i64 8] 3] := .append_left [_, _, _, _, _] (List.perm_append_comm (l₁ := [_, _]) (l₂ := [_, _]))
 refine rfm (C := ⟨Tryz.prog, tab, 194, [], w, none⟩) (L0 := [cr b (shp tb) 344, cr tb (ktab.map uv).toArray 131, cr pb c 5, cl b4 (s.l.map uv).toArray 172, cl b6 (List.replicate 8 (Value.int .u64 0)).toArray 172, cl b2 #[.slice (some ⟨pb, po, none⟩) 128 cap] 48, cl b3 #[.int .i64 8] 3]) (α := Unit) (β := Empty) qe rfl rfl rfl
  (qdL b2 b3 pb po 128 cap 8 (by decide) (by decide) (by decide) hcap) (fun i _ => [cl wb (qK ((qW p).take (i / 8)) (80 - i / 8)) 131, cl b8 #[.slice (some ⟨wb, 0, none⟩) (i / 8) 80] 129]) (fun y => y.elim) (fun y => y.elim) () ?_
  (fun w' hs => ⟨⟨hs.nth (k := 5) rfl, hs.nth (k := 6) rfl⟩, ?_⟩) ?_ ?_ ?_ (fun y => y.elim)
 · refine List.Perm.trans ?_ (List.Perm.trans hL ?_)
   · exact .of_eq rfl
   · exact .of_eq rfl
 · rintro k (hk | rfl | rfl) e he hw
   · exact hk.elim
   · simp only [List.mem_cons, List.not_mem_nil, or_false] at he
     rcases he with rfl | rfl
     · exact (ZU hs.apart (i := 7) (j := 5) rfl rfl (by decide) _).1 hw (by simp)
     · exact (ZU hs.apart (i := 8) (j := 5) rfl rfl (by decide) _).1 hw (by simp)
   · simp only [List.mem_cons, List.not_mem_nil, or_false] at he
     rcases he with rfl | rfl
     · exact (ZU hs.apart (i := 7) (j := 6) rfl rfl (by decide) _).1 hw (by simp)
     · exact (ZU hs.apart (i := 8) (j := 6) rfl rfl (by decide) _).1 hw (by simp)
 · rintro i args j ⟨_, _, rfl, _⟩; rfl
 · rintro l i args j x w' ready busy ⟨hi, him, rfl, rfl⟩
   have hwt := qcm p hp (i / 8) (by omega)
   have h8i : 8 * (i / 8) = i := by omega
   rw [h8i] at hwt
   have hj8 : (i + 8) / 8 = i / 8 + 1 := by omega
   have hch := fun j hj => chunk_at p hp i j (by omega) hj
   have hcv : chV pb po 128 8 i = .slice (some ⟨pb, po + i, none⟩) 8 8 := by unfold chV; rw [show min 8 (128 - i) = 8 by omega]
   rw [hcv]
   refine ⟨rfl, ?_⟩
   refine lp qe (fun j : Nat => j ≤ 8) (fun j => ⟨[(8, ptr b8), (9, .slice (some ⟨pb, po + i, none⟩) 8 8), (10, uv (be (((p.drop i).take 8).take j))), (43, .slice (some ⟨pb, po + i, none⟩) 8 8), (44, .int .i64 8), (45, .int .i64 j)],
    [dead, dead, ⟨pb, some (.cells c 5 (0, 0)), true, none⟩, dead, dead, dead, dead, cl wb (qK ((qW p).take (i / 8)) (80 - i / 8)) 131, cl b8 #[.slice (some ⟨wb, 0, none⟩) (i / 8) 80] 129, ⟨l, some busy, false, none⟩], []⟩) (fun j => 8 - j) 0 (Nat.zero_le _)
    ⟨⟨rfl, rfl, rfl, rfl, rfl, rfl, trivial⟩, .dead (.dead (.cons (.dead (.dead (.dead (.dead (.cons (.cons (.cons .nil))))))))), rfl⟩ ?_
   intro j hj
   refine cd (fun h => ?_) (fun h => ?_)
   · have hjl : j < 8 := by omega
     refine ⟨by omega, by omega, ?_⟩
     refine ld1 2 rfl (v := .int .u8 (p.getD (i + j) 0).toNat) (by rw [qw, qu, ← hcp (i + j) (by omega)]; congr 1; simp; omega) ?_
     have hb := (p.getD (i + j) 0).toNat_lt
     refine ⟨by decide, .to (ux (be (((p.drop i).take 8).take j) <<< 8)) (u_shl _ 8 (by decide) _ rfl) ?_⟩
     refine .same (by simp only [mn]; omega) (by simp only [mx]; omega) ?_
     refine .same (by simp only [mn]; omega) (by simp only [mx]; omega) ?_
     refine ⟨j + 1, by omega, by omega, ⟨⟨rfl, rfl, congrArg (fun x => some (Value.int .u64 x)) (a₁ := Zh .or .u64 (ux (be (((p.drop i).take 8).take j) <<< 8)) ((p.getD (i + j) 0).toNat : Int)) ?_, rfl, rfl, rfl, trivial⟩, .refl _, rfl⟩⟩
     rw [hch j hjl, be_snoc]
     exact (by rw [← ux_byte, u_or]; rfl)
   · obtain rfl : j = 8 := by omega
     rw [List.take_take, Nat.min_self]
     refine ld1 8 rfl (v := .slice (some ⟨wb, 0, none⟩) (i / 8) 80) rfl ?_
     refine .mk #[uv (be ((p.drop i).take 8))] 131 (fun w => bs34 _ w) (fun bn => ?_)
     have hwl : ((qW p).take (i / 8)).length = i / 8 := by rw [List.length_take, show (qW p).length = 16 by simp [qW]]; omega
     refine apI1 (xs := ((qW p).take (i / 8)).map uv) (j := List.replicate (80 - i / 8) (Value.int .u64 0)) 7 10 qe rfl zU rfl (by rw [List.length_map, hwl]) (by rw [List.length_append, List.length_map, hwl, List.length_replicate]; omega) (by omega) rfl rfl ?_
     refine s1 8 rfl (show 0 < 1 by decide) ?_
     have hE : qK ((qW p).take ((i + 8) / 8)) (80 - (i + 8) / 8) = (((qW p).take (i / 8)).map uv ++ [uv (be ((p.drop i).take 8))] ++ (List.replicate (80 - i / 8) (Value.int .u64 0)).drop 1).toArray := by
      rw [hj8, hwt, qK, List.map_append, List.drop_replicate, show 80 - (i / 8 + 1) = 80 - i / 8 - 1 by omega]; rfl
     refine ⟨(), ?_, fun e he k hk => .inl ?_⟩
     · show Sub ([cl wb (qK ((qW p).take ((i + 8) / 8)) (80 - (i + 8) / 8)) 131, cl b8 #[.slice (some ⟨wb, 0, none⟩) ((i + 8) / 8) 80] 129] ++ [_]) _
       rw [hE, hj8]
       exact .drop (.drop (.drop (.drop (.drop (.drop (.drop (.cons (.cons (.cons .nil)))))))))
     · simp only [List.mem_cons, List.not_mem_nil, or_false] at he
       rcases he with rfl | rfl
       · exact ⟨_, List.mem_cons_self, by simpa using hk⟩
       · exact ⟨_, List.mem_cons_of_mem _ List.mem_cons_self, by simpa using hk⟩
 · intro i y b0 hfin
   obtain ⟨h1, h2, h3⟩ := hfin
   obtain rfl : i = 128 := by omega
   have hm0 := mix_w b tb 0 28 34 39 false (by decide) (by decide) (by decide) (fun x w h => mix0_any b tb x w h)
   have hm1 := mix_w b tb 1 14 18 41 false (by decide) (by decide) (by decide) (fun x w h => mix1_any b tb x w h)
   have hm2 := mix_w b tb 2 1 8 7 true (by decide) (by decide) (by decide) (fun x w h => mix2_any b tb x w h)
   have hm3 := mix_w b tb 3 19 61 6 true (by decide) (by decide) (by decide) (fun x w h => mix3_any b tb x w h)
   have hwl : (qW p).length = 16 := by simp [qW]
   have hgl := fun k => qbF k (qW p)
   rw [hwl] at hgl
   have ht16 : (qW p).take (128 / 8) = qW p := List.take_of_length_le (by omega)
   rw [ht16]
   refine lp qe (fun k : Nat => k ≤ 64) (fun k => ⟨[(0, ptr b), (4, ptr b4), (6, ptr b6), (8, ptr b8), (13, .int .i64 (16 + k : Nat))],
    [cr b (shp tb) 344, cr tb (ktab.map uv).toArray 131, cl b4 (s.l.map uv).toArray 172, cl b6 (List.replicate 8 (Value.int .u64 0)).toArray 172, cl wb (qK (QG k (qW p)) (64 - k)) 131, cl b8 #[.slice (some ⟨wb, 0, none⟩) (16 + k) 80] 129, dfe b0], [{ target := .collected b0, args := #[] }]⟩) (fun k => 64 - k) 0 (Nat.zero_le _)
    ⟨⟨rfl, rfl, rfl, rfl, rfl, trivial⟩, .cons (.cons (.drop (.cons (.cons (.drop (.drop (.cons (.cons (.cons .nil))))))))), rfl⟩ ?_
   intro k hk
   have hgk := hgl k
   refine ld1 0 rfl (v := .slice (some ⟨tb, 0, none⟩) 80 80) rfl ?_
   refine cd (fun h => ?_) (fun h => ?_)
   · have hlt : k < 64 := by omega
     refine drs [cr b (shp tb) 344, cr tb (ktab.map uv).toArray 131, cl b4 (s.l.map uv).toArray 172, cl b6 (List.replicate 8 (Value.int .u64 0)).toArray 172, cl wb (qK (QG k (qW p)) (64 - k)) 131, cl b8 #[.slice (some ⟨wb, 0, none⟩) (16 + k) 80] 129] [29, 30] (.t 0 (.t 1 (.t 2 (.t 3 (.t 4 (.t 5 (.t 6 (.t 7 (.t 8 (.t 9 (.t 10 (.t 11 (.t 12 (.t 13 (.t 14 (.t 15 (.t 16 (.t 17 (.t 18 (.t 19 (.t 20 (.t 21 (.t 22 (.t 23 (.t 24 (.t 25 (.t 26 (.t 27 (.n 28 (.n 29 (.n 30 .nil))))))))))))))))))))))))))))))) qe qk (by kernel_rfl) (.cons (.cons (.cons (.cons (.cons (.cons .nil)))))) ?_
     refine ld1 5 rfl (v := .slice (some ⟨wb, 0, none⟩) (16 + k) 80) rfl ?_
     refine ld1 5 rfl (v := .slice (some ⟨wb, 0, none⟩) (16 + k) 80) rfl ?_
     refine .as ((16 + k - 2 : Nat) : Int) (by omega) (by simp only [mn]; omega) (by simp only [mx]; omega) ?_
     refine ⟨by omega, by omega, ?_⟩
     refine ld1 4 rfl (v := uv ((QG k (qW p)).getD (16 + k - 2) 0)) (by rw [qw, qu, Nat.zero_add, Nat.mul_one, Int.toNat_natCast]; exact ZY _ _ _ (by omega)) ?_
     refine czs (fun w hs => hm3 _ w (hs.nth (k := 0) rfl)) ?_
     refine ld1 5 rfl (v := .slice (some ⟨wb, 0, none⟩) (16 + k) 80) rfl ?_
     refine .as ((16 + k - 7 : Nat) : Int) (by omega) (by simp only [mn]; omega) (by simp only [mx]; omega) ?_
     refine ⟨by omega, by omega, ?_⟩
     refine ld1 4 rfl (v := uv ((QG k (qW p)).getD (16 + k - 7) 0)) (by rw [qw, qu, Nat.zero_add, Nat.mul_one, Int.toNat_natCast]; exact ZY _ _ _ (by omega)) ?_
     refine .to _ (QA _ _) ?_
     refine ld1 5 rfl (v := .slice (some ⟨wb, 0, none⟩) (16 + k) 80) rfl ?_
     refine .as ((16 + k - 15 : Nat) : Int) (by omega) (by simp only [mn]; omega) (by simp only [mx]; omega) ?_
     refine ⟨by omega, by omega, ?_⟩
     refine ld1 4 rfl (v := uv ((QG k (qW p)).getD (16 + k - 15) 0)) (by rw [qw, qu, Nat.zero_add, Nat.mul_one, Int.toNat_natCast]; exact ZY _ _ _ (by omega)) ?_
     refine czs (fun w hs => hm2 _ w (hs.nth (k := 0) rfl)) ?_
     refine .to _ (QA _ _) ?_
     refine ld1 5 rfl (v := .slice (some ⟨wb, 0, none⟩) (16 + k) 80) rfl ?_
     refine .as ((16 + k - 16 : Nat) : Int) (by omega) (by simp only [mn]; omega) (by simp only [mx]; omega) ?_
     refine ⟨by omega, by omega, ?_⟩
     refine ld1 4 rfl (v := uv ((QG k (qW p)).getD (16 + k - 16) 0)) (by rw [qw, qu, Nat.zero_add, Nat.mul_one, Int.toNat_natCast]; exact ZY _ _ _ (by omega)) ?_
     refine .to _ (QA _ _) ?_
     refine .mk #[uv (qa5 (QG k (qW p)))] 131 (fun w => ?_) (fun bn => ?_)
     · unfold qa5; rw [hgk]; exact bs34 _ w
     refine ⟨.cons (.cons (.cons (.cons (.cons (.cons .nil))))), ?_⟩
     refine apI1 (xs := (QG k (qW p)).map uv) (j := List.replicate (64 - k) (Value.int .u64 0)) 4 7 qe rfl zU rfl (by rw [List.length_map, hgk]) (by rw [List.length_append, List.length_map, hgk, List.length_replicate]; omega) (by omega) rfl rfl ?_
     refine s1 5 rfl (show 0 < 1 by decide) ?_
     refine .as ((16 + (k + 1) : Nat) : Int) (by omega) (by simp only [mn]; omega) (by simp only [mx]; omega) ?_
     have hE : qK (QG (k + 1) (qW p)) (64 - (k + 1)) = ((QG k (qW p)).map uv ++ [uv (qa5 (QG k (qW p)))] ++ (List.replicate (64 - k) (Value.int .u64 0)).drop 1).toArray := by
      rw [QG, qK, List.map_append, List.drop_replicate, show 64 - (k + 1) = 64 - k - 1 by omega]; rfl
     refine ⟨k + 1, by omega, by omega, ?_⟩
     rw [hE]
     exact ⟨⟨rfl, rfl, rfl, rfl, rfl, trivial⟩, .cons (.cons (.cons (.cons (.cons (.cons (.cons .nil)))))), rfl⟩
   · obtain rfl : k = 64 := by omega
     generalize hws : QG 64 (qW p) = ws at *
     refine drs [dead, dead, cl b4 (s.l.map uv).toArray 172] [] (.t 0 (.t 1 (.t 2 (.t 3 (.t 4 (.t 5 (.t 6 (.t 7 (.t 8 (.t 9 (.t 10 (.t 11 (.t 12 (.t 13 (.t 14 (.t 15 (.t 16 (.t 17 (.t 18 (.t 19 (.t 20 (.t 21 (.t 22 (.t 23 .nil)))))))))))))))))))))))) qe qk (by kernel_rfl) (.dead (.dead (.cons .nil))) ?_
     refine ⟨by decide, by decide, ld1 2 rfl (v := uv s.a) rfl ?_⟩
     refine ⟨by decide, by decide, ld1 2 rfl (v := uv s.b) rfl ?_⟩
     refine ⟨by decide, by decide, ld1 2 rfl (v := uv s.c) rfl ?_⟩
     refine ⟨by decide, by decide, ld1 2 rfl (v := uv s.d) rfl ?_⟩
     refine ⟨by decide, by decide, ld1 2 rfl (v := uv s.e) rfl ?_⟩
     refine ⟨by decide, by decide, ld1 2 rfl (v := uv s.f) rfl ?_⟩
     refine ⟨by decide, by decide, ld1 2 rfl (v := uv s.g) rfl ?_⟩
     refine ⟨by decide, by decide, ld1 2 rfl (v := uv s.h) rfl ?_⟩
     refine ld1 0 rfl (v := .slice (some ⟨tb, 0, none⟩) 80 80) rfl ?_
     refine lp qe (fun t : Nat => t ≤ 80) (fun t => ⟨[(0, ptr b), (4, ptr b4), (6, ptr b6), (8, ptr b8), (14, uv (Zn ktab ws s t).a), (15, uv (Zn ktab ws s t).b), (16, uv (Zn ktab ws s t).c), (17, uv (Zn ktab ws s t).d), (18, uv (Zn ktab ws s t).e), (19, uv (Zn ktab ws s t).f), (20, uv (Zn ktab ws s t).g), (21, uv (Zn ktab ws s t).h),
      (117, .slice (some ⟨tb, 0, none⟩) 80 80), (118, .int .i64 80), (119, .int .i64 t)],
      [cr b (shp tb) 344, cr tb (ktab.map uv).toArray 131, cl b4 (s.l.map uv).toArray 172, cl b6 (List.replicate 8 (Value.int .u64 0)).toArray 172, cl wb (qK ws 0) 131, cl b8 #[.slice (some ⟨wb, 0, none⟩) 80 80] 129, dfe b0], [{ target := .collected b0, args := #[] }]⟩) (fun t => 80 - t) 0 (Nat.zero_le _)
      ⟨⟨rfl, rfl, rfl, rfl, rfl, rfl, rfl, rfl, rfl, rfl, rfl, rfl, rfl, rfl, rfl, trivial⟩, .refl _, rfl⟩ ?_
     intro t ht
     refine cd (fun h => ?_) (fun h => ?_)
     · have hlt : t < 80 := by omega
       refine ⟨by omega, by omega, ?_⟩
       refine ld1 1 rfl (v := uv (ktab.getD t 0)) (by rw [qw, qu, Nat.zero_add, Nat.mul_one, Int.toNat_natCast]; exact tb_at _ _ (by rw [ktab_len]; omega)) ?_
       have hst : Zn ktab ws s (t + 1) = rnd (Zn ktab ws s t) (ktab.getD t 0) (ws.getD t 0) := rfl
       generalize Zn ktab ws s t = st at *
       refine drs [cr b (shp tb) 344, dead, dead, dead, cl wb (qK ws 0) 131, cl b8 #[.slice (some ⟨wb, 0, none⟩) 80 80] 129] [] (.t 0 (.t 1 (.t 2 (.t 3 (.t 4 (.t 5 (.t 6 (.t 7 (.t 8 (.t 9 (.t 10 (.t 11 (.t 12 (.t 13 (.t 14 (.t 15 (.t 16 (.t 17 (.t 18 (.t 19 (.t 20 (.t 21 .nil)))))))))))))))))))))) qe qk (by kernel_rfl) (.cons (.dead (.dead (.dead (.cons (.cons .nil)))))) ?_
       refine czs (fun w hs => hm1 _ w (hs.nth (k := 0) rfl)) ?_
       refine .to _ (QA _ _) ?_
       refine .to (ux (st.h + qaL st.e 14 18 41 false + (st.e &&& st.f ||| ~~~st.e &&& st.g))) (by rw [u_not, qay, qay, u_or]; exact QA _ _) ?_
       refine .to _ (QA _ _) ?_
       refine ld1 5 rfl (v := .slice (some ⟨wb, 0, none⟩) 80 80) rfl ?_
       refine ⟨by omega, by omega, ?_⟩
       refine ld1 4 rfl (v := uv (ws.getD t 0)) (by rw [qw, qu, Nat.zero_add, Nat.mul_one, Int.toNat_natCast]; exact ZY _ _ _ (by omega)) ?_
       refine .to _ (QA _ _) ?_
       refine cvs (fun w hs => hm0 _ w (hs.nth (k := 0) rfl)) ?_
       refine .to (ux (qaL st.a 28 34 39 false + (st.a &&& st.b ||| st.a &&& st.c ||| st.b &&& st.c))) (by rw [qay, qay, qay, u_or, u_or]; exact QA _ _) ?_
       refine .to _ (QA _ _) ?_
       refine .to _ (QA _ _) ?_
       refine .as ((t + 1 : Nat) : Int) (by omega) (by simp only [mn]; omega) (by simp only [mx]; omega) ?_
       refine ⟨t + 1, by omega, by omega, ?_⟩
       simp only [hst]
       exact ⟨⟨rfl, rfl, rfl, rfl, rfl, rfl, rfl, rfl, rfl, rfl, rfl, rfl, rfl, rfl, rfl, trivial⟩, .refl _, rfl⟩
     · obtain rfl : t = 80 := by omega
       obtain ⟨r, hr⟩ : ∃ r, r = Zn ktab ws s 80 := ⟨_, rfl⟩
       have hpc : qcG s p = s.add r := by unfold qcG; rw [hws, ← hr]
       rw [hpc]
       simp only [← hr]
       refine bu (c := (r.l.map uv).toArray) (by kernel_rfl) ?_
       refine lp qe (fun i : Nat => i ≤ 8) (fun i => ⟨[(0, ptr b), (4, ptr b4), (6, ptr b6), (181, .agg (r.l.map uv).toArray), (182, .int .i64 i)],
        [dead, dead, cl b4 (((s.add r).l.map uv).take i ++ (s.l.map uv).drop i).toArray 172, cl b6 (List.replicate 8 (Value.int .u64 0)).toArray 172, dead, dead, dfe b0], [{ target := .collected b0, args := #[] }]⟩) (fun i => 8 - i) 0 (Nat.zero_le _)
        ⟨⟨rfl, rfl, rfl, rfl, rfl, trivial⟩, .dead (.dead (.cons (.cons (.dead (.dead (.cons .nil)))))), rfl⟩ ?_
       intro i hi
       refine cd (fun h => ?_) (fun h => ?_)
       · have hlt : i < 8 := by omega
         refine ⟨by omega, by omega, .cell (uv (r.l.getD i 0)) rfl (by rw [qu, Nat.mul_one, Int.toNat_natCast]; exact qaD r i hlt) ?_⟩
         refine ⟨by omega, by omega, ?_⟩
         refine ld1 2 rfl (v := uv (s.l.getD i 0)) (by rw [qw, qu, Nat.zero_add, Nat.mul_one, Int.toNat_natCast, List.getElem?_toArray, get_step _ _ _ (by simp [H8.l]; omega), ← List.getElem?_toArray]; exact qaD s i hlt) ?_
         refine .to _ (QA _ _) ?_
         refine ⟨by omega, by omega, ?_⟩
         refine s1 2 rfl (by rw [qw, qu, Nat.zero_add, Nat.mul_one, Int.toNat_natCast]; simp [H8.l]; omega) ?_
         refine .as ((i + 1 : Nat) : Int) (by omega) (by simp only [mn]; omega) (by simp only [mx]; omega) ?_
         have hE : (((s.add r).l.map uv).take (i + 1) ++ (s.l.map uv).drop (i + 1)).toArray = (((s.add r).l.map uv).take i ++ (s.l.map uv).drop i).toArray.setIfInBounds (nad 0 (nmu (Int.toNat (i : Int)) 1)) (uv (s.l.getD i 0 + r.l.getD i 0)) := by
          rw [qw, qu, Nat.zero_add, Nat.mul_one, Int.toNat_natCast, List.setIfInBounds_toArray, ← add_at s r i hlt, Zk _ _ _ (by simp [H8.l]) i (by simp [H8.l]; omega) (by rw [← List.getElem?_toArray]; exact qaD _ i hlt)]
         refine ⟨i + 1, by omega, by omega, ?_⟩
         rw [hE]
         exact ⟨⟨rfl, rfl, rfl, rfl, rfl, trivial⟩, .dead (.dead (.cons (.cons (.dead (.dead (.cons .nil)))))), rfl⟩
       · obtain rfl : i = 8 := by omega
         have hE : (((s.add r).l.map uv).take 8 ++ (s.l.map uv).drop 8).toArray = ((s.add r).l.map uv).toArray := rfl
         rw [hE]
         refine ldN 2 rfl rfl ?_
         refine sN 3 rfl rfl rfl ?_ (by kernel_rfl)
         refine .mk 6 rfl ?_
         refine ldN 3 rfl rfl ?_
         exact rt rfl
end
section
open Go.RowKit Go.Sx
theorem bs5 (x : Int) (w : World) : (Instr.buildSlice 48 1 #[(0, .int .u8 x)]).run Tryz.prog w = .ok (.slice (some ⟨w.heap.size, 0, none⟩) 1 1) (w.alloc (.cells #[.int .u8 x] 5)) := by
 obtain ⟨i, hi, hz, hs, hb⟩ := QE za
 exact run_buildSlice w _ _ 1 _ #[.int .u8 x] i (.int .u8 0) (by kernel_rfl) hi hz (by rw [hs]; decide) (by rw [hs]; decide) (by rw [hs]; kernel_rfl)
theorem bc_one (b : UInt8) : Lib.byteCells [b] = [.int .u8 b.toNat] := rfl
theorem qbX (bs : List UInt8) (i : Nat) (h : i < bs.length) : (Lib.byteCells bs)[i]? = some (.int .u8 (bs.getD i 0).toNat) := by simp [Lib.byteCells, h]
theorem rep_snoc (k : Nat) : List.replicate (k + 1) (0 : UInt8) = List.replicate k 0 ++ [0] := List.replicate_succ'
theorem tail_snoc (n j : Nat) : (List.range (j + 1)).map (Qr n) = (List.range j).map (Qr n) ++ [Qr n j] := by rw [List.range_succ, List.map_append]; rfl
theorem shrI (a i : Nat) (hi : i ≤ 64) (x : Int) (hx : x = i) : (a : Int).fdiv (2 ^ (min x.toNat IntKind.u64.bits)) = ((a / 2 ^ i : Nat) : Int) := by
 subst hx
 show (a : Int).fdiv (2 ^ (min ((i : Nat) : Int).toNat 64)) = _
 rw [Int.toNat_natCast, Nat.min_eq_left hi, Int.fdiv_eq_ediv_of_nonneg _ (by exact Int.le_of_lt (Int.pow_pos (by decide))), Int.natCast_ediv, Int.natCast_pow]; rfl
theorem qbt (n j : Nat) : (Qr n j).toNat = 8 * n / 256 ^ (15 - j) % 256 := by
 unfold Qr; rw [UInt8.toNat_ofNat']; omega
theorem qcp (n j : Nat) (hn : n ≤ 1000000) (hj : j ≤ 7) : Qr n j = 0 := by
 unfold Qr
 rw [Nat.div_eq_of_lt (Nat.lt_of_lt_of_le (show 8 * n < 256 ^ 8 by omega) (Nat.pow_le_pow_right (by decide) (by omega)))]; rfl
def Zy (bs : List UInt8) (j : Nat) : List UInt8 := bs ++ [128] ++ List.replicate (q5 bs.length) 0 ++ (List.range j).map (Qr bs.length)
theorem ZQ (bs : List UInt8) (j : Nat) : Lib.byteCells (Zy bs (j + 1)) = Lib.byteCells (Zy bs j) ++ [.int .u8 (Qr bs.length j).toNat] := by
 unfold Zy; rw [tail_snoc, ← List.append_assoc, Lib.byteCells_append]; rfl
theorem outW_snoc (x : Wd) (m : Nat) (h : m < 8) : (zp x).take (m + 1) = (zp x).take m ++ [UInt8.ofNat (x.toNat / 2 ^ (56 - 8 * m) % 256)] := by
 unfold zp
 rw [List.take_add_one]
 simp [h]
theorem qdy (x : Wd) (m : Nat) : modk .u8 (ux (x >>> (56 - 8 * m))) = ((UInt8.ofNat (x.toNat / 2 ^ (56 - 8 * m) % 256)).toNat : Int) := by
 rw [UInt8.toNat_ofNat']
 unfold ux
 rw [BitVec.toNat_ushiftRight, Nat.shiftRight_eq_div_pow]
 show ((_ : Nat) : Int) % 256 = _
 omega
theorem h8_size (s t : H8) : (s.l.map uv).toArray.size = (t.l.map uv).toArray.size := rfl
theorem h8_one (s : H8) : (s.l.map uv).toArray.toList.all (·.oneCell') = true := rfl
theorem h8_take (s : H8) (k : Nat) (hk : k < 8) : s.l.take (k + 1) = s.l.take k ++ [s.l.getD k 0] := by
 have : k < s.l.length := hk
 rw [List.take_add_one, List.getElem?_eq_getElem this]; simp [List.getD, this]
theorem sv_slice {n : Nat} {r : Sx.Own} {xs : List Value} (h : Rw 1 n r xs) : ∃ a c, sv r n = .slice a n c := by
 rcases r with _ | ⟨b, c, j⟩
 · obtain rfl : n = 0 := h.2; exact ⟨_, _, rfl⟩
 · exact ⟨_, _, rfl⟩
theorem digest_any (b tb pb po kc : Nat) (vs : List Value) (xss : List (List Value)) (bs : List UInt8) (hbs : xss.flatten = Lib.byteCells bs) (hlen : vs.length = xss.length) (w : World) (hpb : pb < w.heap.size) (hp : ∀ (i : Nat) (u : Value), vs[i]? = some u → w.cell? ⟨pb, po + i, none⟩ = some u)
 (hx : ∀ (i : Nat) (v : Value) (xs : List Value), vs[i]? = some v → xss[i]? = some xs → Rd w v xs) (hn : bs.length ≤ 1000000) (hk : xss.length ≤ 1000)
 (hw : w.heap[b]? = some (.cells (shp tb) 344 (0, 0))) (ht : w.heap[tb]? = some (.cells (ktab.map uv).toArray 131 (0, 0))) :
 Calls Tryz.prog 253 ([ptr b, .slice (some ⟨pb, po, none⟩) xss.length kc] : List Value).toArray w fun e w' => ∃ r, e = .returned (sv r 64) ∧ Rw 1 64 r (Lib.byteCells (zE bs)) ∧ qbp w w' r (Lib.byteCells (zE bs)) 5 ∧ Below w.heap.size w w' := by
 have hcc := fun w' (hs : Below w.heap.size w w') => qc5 pb po kc vs xss hlen w' (Nat.lt_of_lt_of_le hpb hs.size) (fun i u hu => (hs.cell (p := ⟨pb, po + i, none⟩) hpb).trans (hp i u hu)) (fun i v xs h1 h2 => (hx i v xs h1 h2).below hs)
  (fun xs hxs u hu => by
   have : u ∈ xss.flatten := List.mem_flatten.2 ⟨xs, hxs, hu⟩
   rw [hbs] at this
   simp only [Lib.byteCells, List.mem_map] at this
   obtain ⟨_, _, rfl⟩ := this; rfl) (by rw [hbs, Lib.byteCells_length]; omega) hk
 rw [hbs, Lib.byteCells_length] at hcc
 refine (enter qe Tryz.func253 rfl Tryz.ntmps253 rfl (St.reads (L := [cr b (shp tb) 344, cr tb (ktab.map uv).toArray 131]) (by simp [hw, ht])) (R := fun v w' => ∃ r, v = sv r 64 ∧ Rw 1 64 r (Lib.byteCells (zE bs)) ∧ qbp w w' r (Lib.byteCells (zE bs)) 5 ∧ Below w.heap.size w w') ?_).mono (fun e w' ⟨v, he, r, hv, h⟩ => ⟨r, by rw [he, hv], h⟩)
 intro b2
 refine co (fun w' hs => hcc w' hs.below) (fun r hr => ?_)
 obtain ⟨sa, sc, hsv⟩ := sv_slice hr
 rw [hsv]
 refine .same (by simp only [mn]; omega) (by simp only [mx]; omega) ?_
 rw [← hsv]
 refine ld1 2 rfl (v := ptr b) rfl ?_
 refine ld1 0 rfl (v := .int .i64 64) rfl ?_
 refine .as 1024 (by decide) (by decide) (by decide) ?_
 refine ⟨by decide, by decide, by decide, ?_⟩
 refine .mk #[.int .u8 128] 5 (fun w => bs5 _ w) (fun bn => ?_)
 refine ap1 (xs := Lib.byteCells bs) 3 4 qe rfl za rfl rfl hr rfl rfl (by omega) (by unfold maxLen; omega) (fun r1 hr1 => ?_)
 refine lp qe (fun x : Nat × Sx.Own => x.1 ≤ q5 bs.length ∧ Rw 1 (bs.length + 1 + x.1) x.2 (Lib.byteCells (bs ++ [128] ++ List.replicate x.1 0)))
  (fun x => ⟨[(2, ptr b2), (5, sv x.2 (bs.length + 1 + x.1)), (6, .int .u64 bs.length), (7, .int .i64 128)], [cr b (shp tb) 344, cr tb (ktab.map uv).toArray 131, cl b2 #[ptr b] 342, se x.2 (Lib.byteCells (bs ++ [128] ++ List.replicate x.1 0)) 5], []⟩) (fun x => q5 bs.length - x.1) (0, r1)
  ⟨Nat.zero_le _, by simpa [Lib.byteCells_append, bc_one] using hr1⟩ ⟨⟨rfl, rfl, rfl, rfl, trivial⟩, ?_, rfl⟩ ?_
 · simp only [List.replicate_zero, List.append_nil, Lib.byteCells_append, bc_one]
   exact .cons (.cons (.cons (.cons .nil)))
 rintro ⟨k, r⟩ ⟨hk1, hR⟩
 simp only at hk1 hR
 rcases r with _ | ⟨rb, cap, jj⟩
 · have := hR.2; omega
 have hfl : q5 bs.length < 128 := by unfold q5; omega
 refine drs [cr b (shp tb) 344, dead, cl b2 #[ptr b] 342] [] (.t 0 (.t 1 (.t 2 (.t 3 (.t 4 (.t 5 (.t 6 (.t 7 (.t 8 (.t 9 (.t 10 .nil))))))))))) qe qk (by kernel_rfl) (.cons (.dead (.cons .nil))) ?_
 refine ⟨by omega, by simp only [mx]; omega, by decide, ?_⟩
 refine ld1 2 rfl (v := ptr b) rfl ?_
 refine ld1 0 rfl (v := .int .i64 16) rfl ?_
 refine .as 112 (by decide) (by decide) (by decide) ?_
 refine cne (fun h => ?_) (fun h => ?_)
 · have hlt : k < q5 bs.length := by
    rcases Nat.lt_or_ge k (q5 bs.length) with h1 | h1
    · exact h1
    · exfalso; apply h; obtain rfl : k = q5 bs.length := by omega
      unfold q5; omega
   refine .mk #[.int .u8 0] 5 (fun w => bs5 _ w) (fun bn => ?_)
   refine ap1 (r := some (rb, cap, jj)) (xs := Lib.byteCells (bs ++ [128] ++ List.replicate k 0)) 3 4 qe rfl za rfl rfl hR rfl rfl (by omega) (by unfold maxLen; omega) (fun r2 hr2 => ?_)
   have e1 : Lib.byteCells (bs ++ [128] ++ List.replicate (k + 1) 0) = Lib.byteCells (bs ++ [128] ++ List.replicate k 0) ++ [.int .u8 0] := by
    rw [rep_snoc, ← List.append_assoc, Lib.byteCells_append]; rfl
   rw [← e1] at hr2
   refine ⟨(k + 1, r2), ⟨by simp only; omega, hr2⟩, by simp only; omega, ?_⟩
   simp only [e1]
   exact ⟨⟨rfl, rfl, rfl, rfl, trivial⟩, .cons (.cons (.cons (.cons .nil))), rfl⟩
 · obtain rfl : k = q5 bs.length := by
    unfold q5 at hk1 ⊢; omega
   refine ld1 2 rfl (v := ptr b) rfl ?_
   refine ld1 0 rfl (v := .int .i64 16) rfl ?_
   refine .as 15 (by decide) (by decide) (by decide) ?_
   have hb0 : Zy bs 0 = bs ++ [128] ++ List.replicate (q5 bs.length) 0 := by simp [Zy]
   rw [← hb0] at hR ⊢
   refine lp qe (fun x : Nat × Sx.Own => x.1 ≤ 16 ∧ Rw 1 (bs.length + 1 + q5 bs.length + x.1) x.2 (Lib.byteCells (Zy bs x.1)))
    (fun x => ⟨[(2, ptr b2), (5, sv x.2 (bs.length + 1 + q5 bs.length + x.1)), (6, .int .u64 bs.length), (7, .int .i64 128), (8, .int .i64 (15 - (x.1 : Int)))], [cr b (shp tb) 344, cr tb (ktab.map uv).toArray 131, cl b2 #[ptr b] 342, se x.2 (Lib.byteCells (Zy bs x.1)) 5], []⟩) (fun x => 16 - x.1) (0, some (rb, cap, jj))
    ⟨Nat.zero_le _, hR⟩ ⟨⟨rfl, rfl, rfl, rfl, rfl, trivial⟩, .cons (.cons (.cons (.cons .nil))), rfl⟩ ?_
   clear hR
   rintro ⟨j, r⟩ ⟨hj, hR⟩
   simp only at hj hR
   rcases r with _ | ⟨rb, cap, jj⟩
   · have := hR.2; omega
   have step : ∀ (r2 : Sx.Own), Rw 1 (bs.length + 1 + q5 bs.length + j + 1) r2 (Lib.byteCells (Zy bs j) ++ [.int .u8 (Qr bs.length j).toNat]) → Rw 1 (bs.length + 1 + q5 bs.length + (j + 1)) r2 (Lib.byteCells (Zy bs (j + 1))) := by
    intro r2 h; rw [ZQ]; exact h
   refine cd (fun h => ?_) (fun h => ?_)
   · have hlt : j < 16 := by omega
     refine cd (fun h2 => ?_) (fun h2 => ?_)
     · have hz : (0 : Int) = (Qr bs.length j).toNat := by rw [qcp _ _ hn (by omega)]; rfl
       refine .mk #[.int .u8 (Qr bs.length j).toNat] 5 (fun w => by rw [← hz]; exact bs5 _ w) (fun bn => ?_)
       refine ap1 (r := some (rb, cap, jj)) (xs := Lib.byteCells (Zy bs j)) 3 4 qe rfl za rfl rfl hR rfl rfl (by omega) (by unfold maxLen; omega) (fun r2 hr2 => ?_)
       refine .as (15 - ((j + 1 : Nat) : Int)) (by omega) (by simp only [mn]; omega) (by simp only [mx]; omega) ?_
       refine ⟨(j + 1, r2), ⟨by simp only; omega, step r2 hr2⟩, by simp only; omega, ?_⟩
       simp only [ZQ]
       exact ⟨⟨rfl, rfl, rfl, rfl, rfl, trivial⟩, .cons (.cons (.cons (.cons .nil))), rfl⟩
     · refine cq (fun h3 => ?_) (fun h3 => ?_)
       · have hz : (Qr bs.length j).toNat = 0 := by rw [qcp _ _ hn (by omega)]; rfl
         refine ⟨by decide, ?_⟩
         refine .to ((Qr bs.length j).toNat : Int) (by rw [shrI _ 61 (by decide) 61 rfl, Nat.div_eq_of_lt (by omega), hz]; rfl) ?_
         refine .mk #[.int .u8 (Qr bs.length j).toNat] 5 (fun w => bs5 _ w) (fun bn => ?_)
         refine ap1 (r := some (rb, cap, jj)) (xs := Lib.byteCells (Zy bs j)) 3 4 qe rfl za rfl rfl hR rfl rfl (by omega) (by unfold maxLen; omega) (fun r2 hr2 => ?_)
         refine .as (15 - ((j + 1 : Nat) : Int)) (by omega) (by simp only [mn]; omega) (by simp only [mx]; omega) ?_
         refine ⟨(j + 1, r2), ⟨by simp only; omega, step r2 hr2⟩, by simp only; omega, ?_⟩
         simp only [ZQ]
         exact ⟨⟨rfl, rfl, rfl, rfl, rfl, trivial⟩, .cons (.cons (.cons (.cons .nil))), rfl⟩
       · have h8 : 8 ≤ j := by omega
         refine ⟨by decide, .as ((8 * bs.length : Nat) : Int) (by show (bs.length : Int) * 2 ^ 3 = _; omega) (by simp only [mn]; omega) (by simp only [mx]; omega) ?_⟩
         refine .as ((8 * (15 - j) : Nat) : Int) (by omega) (by simp only [mn]; omega) (by simp only [mx]; omega) ?_
         refine ⟨by omega, ?_⟩
         refine .to ((Qr bs.length j).toNat : Int) (by rw [shrI _ (8 * (15 - j)) (by omega) _ rfl, qbt, Nat.pow_mul]; rfl) ?_
         refine .mk #[.int .u8 (Qr bs.length j).toNat] 5 (fun w => bs5 _ w) (fun bn => ?_)
         refine ap1 (r := some (rb, cap, jj)) (xs := Lib.byteCells (Zy bs j)) 3 4 qe rfl za rfl rfl hR rfl rfl (by omega) (by unfold maxLen; omega) (fun r2 hr2 => ?_)
         refine .as (15 - ((j + 1 : Nat) : Int)) (by omega) (by simp only [mn]; omega) (by simp only [mx]; omega) ?_
         refine ⟨(j + 1, r2), ⟨by simp only; omega, step r2 hr2⟩, by simp only; omega, ?_⟩
         simp only [ZQ]
         exact ⟨⟨rfl, rfl, rfl, rfl, rfl, trivial⟩, .cons (.cons (.cons (.cons .nil))), rfl⟩
   · obtain rfl : j = 16 := by omega
     have hpad : Zy bs 16 = zK bs := rfl
     obtain ⟨hpl1, hpl2⟩ := qcH bs
     rw [hpad] at hR ⊢
     have hN : bs.length + 1 + q5 bs.length + 16 = (zK bs).length := by omega
     rw [hN] at hR ⊢
     have hsha : zE bs = qav (Qy (zK bs) ((zK bs).length / 128)) := rfl
     rw [hsha]
     generalize zK bs = pt at *
     refine ld1 2 rfl (v := ptr b) rfl ?_
     refine ldP 0 rfl (d := (kroots.l.map uv).toArray) rfl rfl ?_
     intro b9
     refine sN 4 rfl rfl rfl ?_ (by kernel_rfl)
     refine inl (C := ⟨Tryz.prog, tab, 110, [], w, none⟩) qe Tryz.func191 rfl Tryz.ntmps191 rfl ?_
     intro b20 b21
     refine ld1 6 rfl (v := .int .i64 128) rfl ?_
     refine cf rfl ?_
     refine bk ?_
     refine rf (C := ⟨Tryz.prog, tab, 110, [], w, none⟩) (α := Unit) (β := Empty) qe rfl rfl rfl (qdL b20 b21 rb 0 pt.length cap 128 (by decide) (by omega) (by decide) hR.2.1) 4 (fun i _ => cl b9 ((Qy pt (i / 128)).l.map uv).toArray 172) (fun y => y.elim) (fun y => y.elim) () rfl
      (fun w' hs => ⟨⟨hs.nth (k := 5) rfl, hs.nth (k := 6) rfl⟩, ?_⟩) ?_ ?_ ?_ (fun y => y.elim)
     · rintro k (hk | rfl | rfl) hw
       · exact hk.elim
       · exact (ZU hs.apart (i := 4) (j := 5) rfl rfl (by decide) _).1 hw (by simp)
       · exact (ZU hs.apart (i := 4) (j := 6) rfl rfl (by decide) _).1 hw (by simp)
     · rintro i args j ⟨_, _, rfl, _⟩; rfl
     · rintro l i args j x w' ready busy ⟨hi, him, rfl, rfl⟩
       have hi2 : i + 128 ≤ pt.length := by omega
       have hcv : chV rb 0 pt.length 128 i = .slice (some ⟨rb, i, none⟩) 128 128 := by unfold chV; rw [show min 128 (pt.length - i) = 128 by omega, Nat.zero_add]
       rw [hcv]
       have hpi : Qy pt ((i + 128) / 128) = qcG (Qy pt (i / 128)) ((pt.drop i).take 128) := by
        rw [show (i + 128) / 128 = i / 128 + 1 by omega, Qy, show 128 * (i / 128) = i by omega]
       refine ⟨rfl, ?_⟩
       refine ld1 2 rfl (v := ptr b) rfl ?_
       refine ldN 4 rfl rfl ?_
       refine cvs (fun w hs => piece_any b tb rb i 128 (Lib.byteCells pt ++ jj).toArray (Qy pt (i / 128)) ((pt.drop i).take 128) (by rw [List.length_take, List.length_drop]; omega) (fun q hq => ?_) (Nat.le_refl _) w (hs.nth (k := 0) rfl) (hs.nth (k := 1) rfl) (hs.nth (k := 3) rfl)) ?_
       · rw [List.getElem?_toArray, List.getElem?_append_left (by rw [Lib.byteCells_length]; omega), qbX _ _ (by omega)]
         simp [List.getD, hq]
       refine sN 4 rfl (h8_size _ _) (h8_one _) ?_ (by kernel_rfl)
       refine ⟨(), ?_, fun b hb => .inl (by simpa using hb)⟩
       simp only [hpi]
       exact .drop (.drop (.drop (.drop (.cons (.drop (.drop (.cons .nil)))))))
     · intro i y b0 hfin
       obtain rfl : i = pt.length := by omega
       generalize Qy pt (pt.length / 128) = S
       refine ldN 4 rfl rfl ?_
       refine lp qe (fun x : Nat × Sx.Own => x.1 ≤ 8 ∧ Rw 1 (8 * x.1) x.2 (Lib.byteCells ((S.l.take x.1).flatMap zp)))
        (fun x => ⟨[(2, ptr b2), (11, sv x.2 (8 * x.1)), (88, .agg (S.l.map uv).toArray), (89, .int .i64 x.1)], [cr b (shp tb) 344, cl b2 #[ptr b] 342, dfe b0, se x.2 (Lib.byteCells ((S.l.take x.1).flatMap zp)) 5], [{ target := .collected b0, args := #[] }]⟩) (fun x => 8 - x.1) (0, none)
        ⟨Nat.zero_le _, Rw.nil 1⟩ ⟨⟨rfl, rfl, rfl, rfl, trivial⟩, .cons (.drop (.cons (.drop (.drop (.drop (.drop (.cons (.pad .nil)))))))), rfl⟩ ?_
       rintro ⟨k, r⟩ ⟨hk, hR⟩
       simp only at hk hR
       refine cd (fun h => ?_) (fun h => ?_)
       · have hlt : k < 8 := by omega
         refine ⟨by omega, by omega, .cell (uv (S.l.getD k 0)) rfl (by rw [qu, Nat.mul_one, Int.toNat_natCast]; exact qaD S k hlt) ?_⟩
         refine ld1 1 rfl (v := ptr b) rfl ?_
         refine ld1 0 rfl (v := .int .i64 64) rfl ?_
         refine .as 56 (by decide) (by decide) (by decide) ?_
         have hf0 : (S.l.take k).flatMap zp ++ (zp (S.l.getD k 0)).take 0 = (S.l.take k).flatMap zp := by simp
         generalize hx : S.l.getD k 0 = x
         rw [hx] at hf0
         refine lp qe (fun y : Nat × Sx.Own => y.1 ≤ 8 ∧ Rw 1 (8 * k + y.1) y.2 (Lib.byteCells ((S.l.take k).flatMap zp ++ (zp x).take y.1)))
          (fun y => ⟨[(2, ptr b2), (11, sv y.2 (8 * k + y.1)), (13, uv x), (14, .int .i64 (56 - 8 * (y.1 : Int))), (88, .agg (S.l.map uv).toArray), (89, .int .i64 k)], [cr b (shp tb) 344, cl b2 #[ptr b] 342, dfe b0, se y.2 (Lib.byteCells ((S.l.take k).flatMap zp ++ (zp x).take y.1)) 5], [{ target := .collected b0, args := #[] }]⟩) (fun y => 8 - y.1) (0, r)
          ⟨Nat.zero_le _, by rw [hf0]; exact hR⟩ ⟨⟨rfl, rfl, rfl, rfl, rfl, rfl, trivial⟩, by simp only [hf0]; exact .cons (.cons (.cons (.cons .nil))), rfl⟩ ?_
         clear hR
         rintro ⟨m, r⟩ ⟨hm, hR⟩
         simp only at hm hR
         refine cd (fun h => ?_) (fun h => ?_)
         · have hmt : m < 8 := by omega
           have hE : Lib.byteCells ((S.l.take k).flatMap zp ++ (zp x).take (m + 1)) = Lib.byteCells ((S.l.take k).flatMap zp ++ (zp x).take m) ++ [.int .u8 (UInt8.ofNat (x.toNat / 2 ^ (56 - 8 * m) % 256)).toNat] := by
            rw [outW_snoc x m hmt, ← List.append_assoc, Lib.byteCells_append]; rfl
           refine ⟨by omega, ?_⟩
           refine .to ((UInt8.ofNat (x.toNat / 2 ^ (56 - 8 * m) % 256)).toNat : Int) (by rw [qco x (56 - 8 * m) (by omega) _ (by omega)]; exact qdy x m) ?_
           refine .mk #[.int .u8 (UInt8.ofNat (x.toNat / 2 ^ (56 - 8 * m) % 256)).toNat] 5 (fun w => bs5 _ w) (fun bn => ?_)
           refine ap1 (r := r) (n := 8 * k + m) (xs := Lib.byteCells ((S.l.take k).flatMap zp ++ (zp x).take m)) 3 4 qe rfl za rfl rfl hR rfl rfl (by omega) (by unfold maxLen; omega) (fun r2 hr2 => ?_)
           refine .as (56 - 8 * ((m + 1 : Nat) : Int)) (by omega) (by simp only [mn]; omega) (by simp only [mx]; omega) ?_
           refine ⟨(m + 1, r2), ⟨by simp only; omega, by rw [hE]; exact hr2⟩, by simp only; omega, ?_⟩
           simp only [hE]
           exact ⟨⟨rfl, rfl, rfl, rfl, rfl, rfl, trivial⟩, .cons (.cons (.cons (.cons .nil))), rfl⟩
         · obtain rfl : m = 8 := by omega
           have hE : (S.l.take (k + 1)).flatMap zp = (S.l.take k).flatMap zp ++ (zp x).take 8 := by
            rw [h8_take S k hlt, List.flatMap_append, hx, List.take_of_length_le (show (zp x).length ≤ 8 by simp [zp])]; simp
           refine .as ((k + 1 : Nat) : Int) (by omega) (by simp only [mn]; omega) (by simp only [mx]; omega) ?_
           refine ⟨(k + 1, r), ⟨by simp only; omega, by rw [hE]; exact hR⟩, by simp only; omega, ?_⟩
           simp only [hE]
           exact ⟨⟨rfl, rfl, rfl, rfl, trivial⟩, .cons (.cons (.cons (.cons .nil))), rfl⟩
       · obtain rfl : k = 8 := by omega
         refine .mk 2 rfl ?_
         have hE : (S.l.take 8).flatMap zp = qav S := rfl
         rw [hE] at hR ⊢
         exact ⟨fun w1 hs1 => ⟨r, rfl, hR, qa9 hs1 rfl 3 rfl, hs1.below⟩⟩
end
section
open Go.RowKit Go.Sx
def qcn (bs : List UInt8) : Value := .agg (Lib.byteCells bs).toArray
theorem ZR (bs : List UInt8) : (Lib.byteCells bs).toArray.toList.all (·.oneCell') = true := by simp [Lib.byteCells, Value.oneCell']
theorem table_any (w : World) : Calls Tryz.prog 138 ([] : List Value).toArray w fun e w' => ∃ b, e = .returned (.slice (some ⟨b, 0, none⟩) 80 80) ∧ w.heap.size ≤ b ∧ w'.heap[b]? = some (.cells (ktab.map uv).toArray 131 (0, 0)) ∧ Below w.heap.size w w' := by
 refine (enter qe Tryz.func138 rfl Tryz.ntmps138 rfl (St.start w) (R := fun v w' => ∃ b, v = .slice (some ⟨b, 0, none⟩) 80 80 ∧ w.heap.size ≤ b ∧ w'.heap[b]? = some (.cells (ktab.map uv).toArray 131 (0, 0)) ∧ Below w.heap.size w w') ?_).mono (fun e w' ⟨v, he, r, hv, h⟩ => ⟨r, by rw [he, hv], h⟩)
 refine .mk (ktab.map uv).toArray 131 (fun w => ?_) (fun bn => ?_)
 · obtain ⟨i, hi, hz, hs, hb⟩ := QE zU
   exact run_buildSlice w _ _ 80 _ _ i (.int .u64 0) und94 hi hz (by rw [hs]; decide) (by rw [hs]; decide) (by rw [hs]; kernel_rfl)
 · exact ⟨fun w1 hs => ⟨bn, rfl, (hs.own _ (List.mem_of_getElem? (i := 0) rfl) rfl rfl).resolve_right (by simp), hs.nth (k := 0) rfl, hs.below⟩⟩
theorem roots_any (w : World) : Calls Tryz.prog 139 ([] : List Value).toArray w fun e w' => e = .returned (.agg (kroots.l.map uv).toArray) ∧ Below w.heap.size w w' := by
 refine qA qe Tryz.func139 rfl Tryz.ntmps139 rfl (St.start w) ?_
 intro b0
 refine bu (c := (kroots.l.map uv).toArray) (by kernel_rfl) ?_
 refine sN 0 rfl rfl rfl ?_ (by kernel_rfl)
 refine ldN 0 rfl rfl ?_
 exact rt rfl
theorem long_any (pb po kc : Nat) (vs : List Value) (xss : List (List Value)) (bs : List UInt8) (hbs : xss.flatten = Lib.byteCells bs) (hlen : vs.length = xss.length) (w : World) (hpb : pb < w.heap.size) (hp : ∀ (i : Nat) (u : Value), vs[i]? = some u → w.cell? ⟨pb, po + i, none⟩ = some u)
 (hx : ∀ (i : Nat) (v : Value) (xs : List Value), vs[i]? = some v → xss[i]? = some xs → Rd w v xs) (hn : bs.length ≤ 1000000) (hk : xss.length ≤ 1000) :
 Calls Tryz.prog 219 ([.slice (some ⟨pb, po, none⟩) xss.length kc] : List Value).toArray w fun e w' => e = .returned (qcn (zE bs)) ∧ Below w.heap.size w w' := by
 refine qA qe Tryz.func219 rfl Tryz.ntmps219 rfl (St.start w) ?_
 intro b2
 refine cn (fun w' _ => table_any w') (fun tb => ?_)
 refine cv (fun w' => roots_any w') ?_
 refine bu (c := #[.int .i64 28, .int .i64 34, .int .i64 39]) (by kernel_rfl) ?_
 refine bu (c := #[.int .i64 14, .int .i64 18, .int .i64 41]) (by kernel_rfl) ?_
 refine bu (c := #[.int .i64 1, .int .i64 8, .int .i64 7]) (by kernel_rfl) ?_
 refine bu (c := #[.int .i64 19, .int .i64 61, .int .i64 6]) (by kernel_rfl) ?_
 refine bu (c := #[.int .i64 28, .int .i64 34, .int .i64 39, .int .i64 14, .int .i64 18, .int .i64 41, .int .i64 1, .int .i64 8, .int .i64 7, .int .i64 19, .int .i64 61, .int .i64 6]) (by kernel_rfl) ?_
 refine bu (c := shp tb) (by kernel_rfl) ?_
 intro b
 refine co (fun w' hs => digest_any b tb pb po kc vs xss bs hbs hlen w' (Nat.lt_of_lt_of_le hpb hs.below.size) (fun i u hu => (hs.below.cell (p := ⟨pb, po + i, none⟩) hpb).trans (hp i u hu)) (fun i v xs h1 h2 => (hx i v xs h1 h2).below hs.below) hn hk (hs.nth (k := 2) rfl) (hs.nth (k := 1) rfl)) (fun r hr => ?_)
 rcases r with _ | ⟨rb, cap, jj⟩
 · have := hr.2; omega
 have hl : (Lib.byteCells (zE bs)).length = 64 := by rw [Lib.byteCells_length, Zj]
 generalize zE bs = D at *
 refine ⟨by decide, ?_⟩
 refine ldP 3 rfl (d := (Lib.byteCells D).toArray) (by simpa using hl) (by simp [hl]) ?_
 refine sN 0 rfl (by simp [hl]) (ZR D) ?_ (by kernel_rfl)
 refine ldN 0 rfl (by simp [hl]) ?_
 exact rt rfl
end
section
open Go.RowKit Go.Sx
theorem bs0 (w : World) : (Instr.buildSlice 48 0 #[]).run Tryz.prog w = .ok (.slice (some ⟨w.heap.size, 0, none⟩) 0 0) (w.alloc (.cells #[] 5)) := by
 obtain ⟨i, hi, hz, hs, hb⟩ := QE za
 simp [Instr.buildSlice, run_underlying ZZ, sizeOf, typeInfo, hi, newRow, Instr.fill]
 exact congrArg (fun c => w.alloc (.cells c 5)) (Array.ext' (by simp))
theorem set_down (k : Nat) (T : List Value) (x z : Value) (hk : k < T.length) (hx : T[k]? = some x) : (List.replicate (k + 1) z ++ T.drop (k + 1)).set k x = List.replicate k z ++ T.drop k := by
 rw [List.replicate_succ', List.append_assoc, List.set_append_right _ _ (by simp), List.length_replicate, Nat.sub_self]
 obtain ⟨h, rfl⟩ := List.getElem?_eq_some_iff.1 hx
 rw [List.drop_eq_getElem_cons hk]; rfl
def TL (n : Nat) : List Value := Lib.byteCells ((List.range 16).map (Qr n))
theorem qdb (n : Nat) : (TL n).length = 16 := by simp [TL, Lib.byteCells]
theorem TL_at (n j : Nat) (h : j < 16) : (TL n)[j]? = some (.int .u8 (Qr n j).toNat) := by
 simp [TL, Lib.byteCells, h]
theorem padded_any (v : Value) (bs : List UInt8) (w : World) (hrd : Rd w v (Lib.byteCells bs)) (hn : bs.length ≤ 1000000) :
 Calls Tryz.prog 69 ([v, .int .i64 128, .int .i64 16] : List Value).toArray w fun e w' => ∃ r, e = .returned (sv r (zK bs).length) ∧ Rw 1 (zK bs).length r (Lib.byteCells (zK bs)) ∧ qbp w w' r (Lib.byteCells (zK bs)) 5 ∧ Below w.heap.size w w' := by
 have hrd0 := hrd
 obtain ⟨va, vc, hv, _⟩ := hrd0
 rw [Lib.byteCells_length] at hv
 have hmk := fun w => made1 (P := Tryz.prog) w ZZ za rfl 16 16 (by decide) (by decide) (by decide)
 refine (enter qe Tryz.func69 rfl Tryz.ntmps69 rfl (St.start w) (R := fun v w' => ∃ r, v = sv r (zK bs).length ∧ Rw 1 (zK bs).length r (Lib.byteCells (zK bs)) ∧ qbp w w' r (Lib.byteCells (zK bs)) 5 ∧ Below w.heap.size w w') ?_).mono (fun e w' ⟨v, he, r, hv, h⟩ => ⟨r, by rw [he, hv], h⟩)
 refine .mk #[] 5 (fun w => bs0 w) (fun b0 => ?_)
 refine ap (r := some (b0, 0, [])) (n := 0) (xs := []) (m := bs.length) (news := Lib.byteCells bs) 0 qe rfl za rfl rfl ⟨rfl, by decide, by decide, rfl⟩ (fun w' hs => by rw [← Lib.byteCells_length bs]; exact (hrd.below hs.below).src ZZ (fun u hu => by obtain ⟨_, _, rfl⟩ := List.mem_map.1 hu; rfl)) (by omega) (by unfold maxLen; omega) (fun r1 hr1 => ?_)
 rw [Nat.zero_add, List.nil_append] at *
 refine .mk #[.int .u8 128] 5 (fun w => bs5 _ w) (fun bn => ?_)
 refine ap1 (r := r1) (n := bs.length) (xs := Lib.byteCells bs) 0 1 qe rfl za rfl rfl hr1 rfl rfl (by omega) (by unfold maxLen; omega) (fun r2 hr2 => ?_)
 refine lp qe (fun x : Nat × Sx.Own => x.1 ≤ q5 bs.length ∧ Rw 1 (bs.length + 1 + x.1) x.2 (Lib.byteCells (bs ++ [128] ++ List.replicate x.1 0)))
  (fun x => ⟨[(0, v), (1, .int .i64 128), (2, .int .i64 16), (7, sv x.2 (bs.length + 1 + x.1))], [se x.2 (Lib.byteCells (bs ++ [128] ++ List.replicate x.1 0)) 5], []⟩) (fun x => q5 bs.length - x.1) (0, r2)
  ⟨Nat.zero_le _, by simpa [Lib.byteCells_append, bc_one] using hr2⟩ ⟨⟨rfl, rfl, rfl, rfl, trivial⟩, ?_, rfl⟩ ?_
 · simp only [List.replicate_zero, List.append_nil, Lib.byteCells_append, bc_one]
   exact .cons .nil
 rintro ⟨k, r⟩ ⟨hk1, hR⟩
 simp only at hk1 hR
 rcases r with _ | ⟨rb, cap, jj⟩
 · have := hR.2; omega
 have hfl : q5 bs.length < 128 := by unfold q5; omega
 refine .as ((bs.length + 1 + k + 16 : Nat) : Int) (by simp only; omega) (by simp only [mn]; omega) (by simp only [mx]; omega) ?_
 refine ⟨by omega, by simp only [mx]; omega, by decide, ?_⟩
 refine cne (fun h => ?_) (fun h => ?_)
 · have hlt : k < q5 bs.length := by
    rcases Nat.lt_or_ge k (q5 bs.length) with h1 | h1
    · exact h1
    · exfalso; apply h; obtain rfl : k = q5 bs.length := by omega
      unfold q5; omega
   refine .mk #[.int .u8 0] 5 (fun w => bs5 _ w) (fun bn => ?_)
   refine ap1 (r := some (rb, cap, jj)) (xs := Lib.byteCells (bs ++ [128] ++ List.replicate k 0)) 0 1 qe rfl za rfl rfl hR rfl rfl (by omega) (by unfold maxLen; omega) (fun r3 hr3 => ?_)
   have e1 : Lib.byteCells (bs ++ [128] ++ List.replicate (k + 1) 0) = Lib.byteCells (bs ++ [128] ++ List.replicate k 0) ++ [.int .u8 0] := by
    rw [rep_snoc, ← List.append_assoc, Lib.byteCells_append]; rfl
   rw [← e1] at hr3
   refine ⟨(k + 1, r3), ⟨by simp only; omega, hr3⟩, by simp only; omega, ?_⟩
   simp only [e1]
   exact ⟨⟨rfl, rfl, rfl, rfl, trivial⟩, .cons .nil, rfl⟩
 · obtain rfl : k = q5 bs.length := by
    unfold q5 at hk1 ⊢; omega
   refine .mk 16 16 _ _ hmk fun tb => ?_
   rw [hv]
   refine .as 15 (by decide) (by decide) (by decide) ?_
   refine ⟨by omega, by simp only [mx]; omega, by decide, ?_⟩
   refine .as (((bs.length % 32) * 8 : Nat) : Int) (by omega) (by simp only [mn]; omega) (by simp only [mx]; omega) ?_
   refine .to ((Qr bs.length 15).toNat : Int) (by rw [qbt]; show ((_ : Nat) : Int) % 256 = _; omega) ?_
   refine ⟨by decide, by decide, ?_⟩
   refine s1 1 rfl (by decide) ?_
   refine ⟨by omega, by simp only [mx]; omega, by decide, ?_⟩
   refine .as 14 (by decide) (by decide) (by decide) ?_
   generalize hbn : bs.length = n at *
   have hpb : zK bs = bs ++ [128] ++ List.replicate (q5 n) 0 ++ (List.range 16).map (Qr n) := by rw [← hbn]; rfl
   have hpl := (qcH bs).2
   rw [hbn] at hpl
   have hi15 : ((List.replicate 16 (Value.int .u8 0)).toArray.setIfInBounds (nad 0 (nmu (Int.toNat 15) 1)) (.int .u8 (Qr n 15).toNat)) = (List.replicate 15 (Value.int .u8 0) ++ (TL n).drop 15).toArray := by
    rw [← set_down 15 (TL n) _ (.int .u8 0) (by rw [qdb]; decide) (TL_at n 15 (by decide)), List.drop_of_length_le (by rw [qdb]; decide)]
    rfl
   refine lp qe (fun m : Nat => 1 ≤ m ∧ m ≤ 16) (fun m => ⟨[(7, sv (some (rb, cap, jj)) (n + 1 + q5 n)), (8, .slice (some ⟨tb, 0, none⟩) 16 16), (9, .int .i64 (8 * n / 256 ^ m : Nat)), (10, .int .i64 (15 - (m : Int)))],
    [se (some (rb, cap, jj)) (Lib.byteCells (bs ++ [128] ++ List.replicate (q5 n) 0)) 5, cl tb (List.replicate (16 - m) (Value.int .u8 0) ++ (TL n).drop (16 - m)).toArray 5], []⟩) (fun m => 16 - m) 1 ⟨Nat.le_refl _, by decide⟩
    ⟨⟨rfl, rfl, congrArg (fun x : Int => some (Value.int .i64 x)) (show (n : Int) / 32 = ((8 * n / 256 ^ 1 : Nat) : Int) by omega), rfl, trivial⟩, by simp only [show 16 - 1 = 15 from rfl, ← hi15]; exact .cons (.cons .nil), rfl⟩ ?_
   intro m hm
   refine cd (fun h => ?_) (fun h => ?_)
   · have hlt : m < 16 := by omega
     have hdiv : 8 * n / 256 ^ (m + 1) = 8 * n / 256 ^ m / 256 := by rw [Nat.pow_succ, Nat.div_div_eq_div_mul]
     have hle : 8 * n / 256 ^ m ≤ 8 * n := Nat.div_le_self _ _
     have hE : (List.replicate (16 - (m + 1)) (Value.int .u8 0) ++ (TL n).drop (16 - (m + 1))).toArray = (List.replicate (16 - m) (Value.int .u8 0) ++ (TL n).drop (16 - m)).toArray.setIfInBounds (nad 0 (nmu (Int.toNat (15 - (m : Int))) 1)) (.int .u8 (Qr n (15 - m)).toNat) := by
      rw [qw, qu, Nat.zero_add, Nat.mul_one, show Int.toNat (15 - (m : Int)) = 15 - m by omega, List.setIfInBounds_toArray, show 16 - m = 15 - m + 1 by omega, set_down (15 - m) (TL n) _ _ (by rw [qdb]; omega) (TL_at n _ (by omega)), show 16 - (m + 1) = 15 - m by omega]
     have htv : (Qr n (15 - m)).toNat = 8 * n / 256 ^ m % 256 := by rw [qbt, show 15 - (15 - m) = m by omega]
     generalize 8 * n / 256 ^ m = q at *
     refine ⟨by omega, by simp only [mx]; omega, by decide, ?_⟩
     refine .to ((Qr n (15 - m)).toNat : Int) (by rw [htv]; show ((_ : Nat) : Int) % 256 % 256 = _; omega) ?_
     refine ⟨by omega, by omega, ?_⟩
     refine s1 1 rfl (by rw [qw, qu, Nat.zero_add, Nat.mul_one]; simp [qdb]; omega) ?_
     refine ⟨by omega, by simp only [mx]; omega, by decide, ?_⟩
     refine .as (15 - ((m + 1 : Nat) : Int)) (by omega) (by simp only [mn]; omega) (by simp only [mx]; omega) ?_
     refine ⟨m + 1, by omega, by omega, ?_⟩
     simp only [hE]
     exact ⟨⟨rfl, rfl, congrArg (fun x : Int => some (Value.int .i64 x)) (show (q : Int) / 256 = ((8 * n / 256 ^ (m + 1) : Nat) : Int) by rw [hdiv]; omega), rfl, trivial⟩, .cons (.cons .nil), rfl⟩
   · obtain rfl : m = 16 := by omega
     have hT : (List.replicate (16 - 16) (Value.int .u8 0) ++ (TL n).drop (16 - 16)).toArray = (TL n).toArray := by simp
     rw [hT]
     refine ap (r := some (rb, cap, jj)) (n := n + 1 + q5 n) (xs := Lib.byteCells (bs ++ [128] ++ List.replicate (q5 n) 0)) (m := 16) (news := TL n) 0 qe rfl za rfl rfl hR (srcE (C := ⟨Tryz.prog, tab, 57, [], w, none⟩) (e' := 5) (tx := 48) (z := 1) rfl qe (src 1 rfl (by rw [List.drop_zero, List.take_of_length_le (Nat.le_refl _)])) (qdb n) (fun u hu => by obtain ⟨_, _, rfl⟩ := List.mem_map.1 hu; rfl)) (by omega) (by unfold maxLen; omega) (fun r3 hr3 => ?_)
     have e1 : Lib.byteCells (bs ++ [128] ++ List.replicate (q5 n) 0) ++ TL n = Lib.byteCells (zK bs) := by rw [hpb, Lib.byteCells_append _ ((List.range 16).map (Qr n))]; rfl
     have e2 : n + 1 + q5 n + 16 = (zK bs).length := by omega
     rw [e1, e2] at hr3 ⊢
     exact ⟨fun w1 hs1 => ⟨r3, rfl, hr3, qa9 hs1 rfl 0 rfl, hs1.below⟩⟩
end
section
open Go.RowKit Go.Sx
theorem QT (x : Wd) (n : Nat) (h0 : 0 < n) (hn : n < 64) (w : World) : Calls Tryz.prog 107 ([uv x, .int .u64 n] : List Value).toArray w fun e w' => e = .returned (uv (rot x n)) ∧ Below w.heap.size w w' := by
 refine qA qe Tryz.func107 rfl Tryz.ntmps107 rfl (St.start w) ?_
 refine ⟨by omega, ?_⟩
 refine .as ((64 - n : Nat) : Int) (by omega) (by simp only [mn]; omega) (by simp only [mx]; omega) ?_
 refine ⟨by omega, .to (ux (x <<< (64 - n))) (u_shl x (64 - n) (by omega) _ rfl) ?_⟩
 refine .to (ux (rot x n)) (by rw [qco x n (by omega) _ rfl, ← rot_add x n hn]; exact QA _ _) ?_
 exact rt rfl
theorem rtable_any (w : World) : Calls Tryz.prog 68 ([] : List Value).toArray w fun e w' => ∃ b, e = .returned (.slice (some ⟨b, 0, none⟩) 80 80) ∧ w.heap.size ≤ b ∧ w'.heap[b]? = some (.cells (ktab.map uv).toArray 131 (0, 0)) ∧ Below w.heap.size w w' := by
 refine (enter qe Tryz.func68 rfl Tryz.ntmps68 rfl (St.start w) (R := fun v w' => ∃ b, v = .slice (some ⟨b, 0, none⟩) 80 80 ∧ w.heap.size ≤ b ∧ w'.heap[b]? = some (.cells (ktab.map uv).toArray 131 (0, 0)) ∧ Below w.heap.size w w') ?_).mono (fun e w' ⟨v, he, r, hv, h⟩ => ⟨r, by rw [he, hv], h⟩)
 refine .mk (ktab.map uv).toArray 131 (fun w => ?_) (fun bn => ?_)
 · obtain ⟨i, hi, hz, hs, hb⟩ := QE zU
   exact run_buildSlice w _ _ 80 _ _ i (.int .u64 0) und94 hi hz (by rw [hs]; decide) (by rw [hs]; decide) (by rw [hs]; kernel_rfl)
 · exact ⟨fun w1 hs => ⟨bn, rfl, (hs.own _ (List.mem_of_getElem? (i := 0) rfl) rfl rfl).resolve_right (by simp), hs.nth (k := 0) rfl, hs.below⟩⟩
theorem rroots_any (w : World) : Calls Tryz.prog 67 ([] : List Value).toArray w fun e w' => ∃ b, e = .returned (.slice (some ⟨b, 0, none⟩) 8 8) ∧ w.heap.size ≤ b ∧ w'.heap[b]? = some (.cells (kroots.l.map uv).toArray 131 (0, 0)) ∧ Below w.heap.size w w' := by
 refine (enter qe Tryz.func67 rfl Tryz.ntmps67 rfl (St.start w) (R := fun v w' => ∃ b, v = .slice (some ⟨b, 0, none⟩) 8 8 ∧ w.heap.size ≤ b ∧ w'.heap[b]? = some (.cells (kroots.l.map uv).toArray 131 (0, 0)) ∧ Below w.heap.size w w') ?_).mono (fun e w' ⟨v, he, r, hv, h⟩ => ⟨r, by rw [he, hv], h⟩)
 refine .mk (kroots.l.map uv).toArray 131 (fun w => ?_) (fun bn => ?_)
 · obtain ⟨i, hi, hz, hs, hb⟩ := QE zU
   exact run_buildSlice w _ _ 8 _ _ i (.int .u64 0) und94 hi hz (by rw [hs]; decide) (by rw [hs]; decide) (by rw [hs]; kernel_rfl)
 · exact ⟨fun w1 hs => ⟨bn, rfl, (hs.own _ (List.mem_of_getElem? (i := 0) rfl) rfl rfl).resolve_right (by simp), hs.nth (k := 0) rfl, hs.below⟩⟩
theorem outB_at (S : H8) (i : Nat) (h : i < 64) : (qav S)[i]? = some (UInt8.ofNat ((S.l.getD (i / 8) 0).toNat / 2 ^ (56 - 8 * (i % 8)) % 256)) := by
 have e : qav S = (List.range 64).map (fun i => UInt8.ofNat ((S.l.getD (i / 8) 0).toNat / 2 ^ (56 - 8 * (i % 8)) % 256)) := rfl
 rw [e]; simp [h]
theorem outB_len (S : H8) : (qav S).length = 64 := by simp [qav, H8.l, zp]
def wt (p : List UInt8) (t : Nat) : List Wd := QG (t - 16) ((qW p).take t)
theorem wt_len (p : List UInt8) (t : Nat) : (wt p t).length = t := by
 unfold wt; rw [qbF, List.length_take, show (qW p).length = 16 by simp [qW]]; omega
theorem wt_low (p : List UInt8) (t : Nat) (h : t ≤ 16) : wt p t = (qW p).take t := by unfold wt; rw [show t - 16 = 0 by omega]; rfl
theorem wt_high (p : List UInt8) (t : Nat) (h : 16 ≤ t) : wt p t = QG (t - 16) (qW p) := by unfold wt; rw [List.take_of_length_le (by simp [qW]; omega)]
theorem wt_next (p : List UInt8) (t : Nat) (h : 16 ≤ t) : wt p (t + 1) = wt p t ++ [qa5 (wt p t)] := by
 rw [wt_high p (t + 1) (by omega), wt_high p t h, show t + 1 - 16 = t - 16 + 1 by omega]; rfl
theorem wc_set (ws : List Wd) (x y : Wd) (n : Nat) : (qK (ws ++ [x]) n).setIfInBounds ws.length (uv y) = qK (ws ++ [y]) n := by
 unfold qK
 simp
theorem wc_zero (ws : List Wd) (n : Nat) : qK ws (n + 1) = qK (ws ++ [0]) n := by
 unfold qK
 rw [List.replicate_succ]; simp; rfl
theorem qdw (v : Value) (bs : List UInt8) (w : World) (hrd : Rd w v (Lib.byteCells bs)) (hn : bs.length ≤ 1000000) :
 Calls Tryz.prog 75 ([v] : List Value).toArray w fun e w' => e = .returned (qcn (zE bs)) ∧ Below w.heap.size w w' := by
 refine qA qe Tryz.func75 rfl Tryz.ntmps75 rfl (St.start w) ?_
 intro b2 b3
 refine cn (fun w' _ => rroots_any w') (fun rb => ?_)
 refine cn (fun w' _ => rtable_any w') (fun tb => ?_)
 refine lp qe (fun i : Nat => i ≤ 8) (fun i => ⟨[(0, v), (2, ptr b2), (3, ptr b3), (4, .slice (some ⟨rb, 0, none⟩) 8 8), (5, .slice (some ⟨tb, 0, none⟩) 80 80), (6, .int .i64 i)],
  [cl b2 (List.replicate 64 (Value.int .u8 0)).toArray 41, cl b3 ((kroots.l.map uv).take i ++ (List.replicate 8 (Value.int .u64 0)).drop i).toArray 172, cl rb (kroots.l.map uv).toArray 131, cl tb (ktab.map uv).toArray 131], []⟩) (fun i => 8 - i) 0 (Nat.zero_le _)
  ⟨⟨rfl, rfl, rfl, rfl, rfl, rfl, trivial⟩, .cons (.cons (.cons (.cons .nil))), rfl⟩ ?_
 intro i hi
 refine cd (fun h => ?_) (fun h => ?_)
 · have hlt : i < 8 := by omega
   refine ⟨by omega, by omega, ?_⟩
   refine ld1 2 rfl (v := uv (kroots.l.getD i 0)) (by rw [qw, qu, Nat.zero_add, Nat.mul_one, Int.toNat_natCast]; exact qaD _ i hlt) ?_
   refine ⟨by omega, by omega, ?_⟩
   refine s1 1 rfl (by rw [qw, qu, Nat.zero_add, Nat.mul_one, Int.toNat_natCast]; simp [H8.l]; omega) ?_
   have hE : ((kroots.l.map uv).take (i + 1) ++ (List.replicate 8 (Value.int .u64 0)).drop (i + 1)).toArray = ((kroots.l.map uv).take i ++ (List.replicate 8 (Value.int .u64 0)).drop i).toArray.setIfInBounds (nad 0 (nmu (Int.toNat (i : Int)) 1)) (uv (kroots.l.getD i 0)) := by
    rw [qw, qu, Nat.zero_add, Nat.mul_one, Int.toNat_natCast, List.setIfInBounds_toArray, Zk _ _ _ (by simp [H8.l]) i (by simp [H8.l]; omega) (by rw [← List.getElem?_toArray]; exact qaD _ i hlt)]
   refine .as ((i + 1 : Nat) : Int) (by omega) (by simp only [mn]; omega) (by simp only [mx]; omega) ?_
   refine ⟨i + 1, by omega, by omega, ?_⟩
   rw [hE]
   exact ⟨⟨rfl, rfl, rfl, rfl, rfl, rfl, trivial⟩, .cons (.cons (.cons (.cons .nil))), rfl⟩
 obtain rfl : i = 8 := by omega
 have hE : ((kroots.l.map uv).take 8 ++ (List.replicate 8 (Value.int .u64 0)).drop 8).toArray = (kroots.l.map uv).toArray := rfl
 rw [hE]
 refine co (fun w' hs => padded_any v bs w' (hrd.below hs.below) hn) (fun r hr => ?_)
 have hsha : zE bs = qav (Qy (zK bs) ((zK bs).length / 128)) := rfl
 obtain ⟨hpl1, hpl2⟩ := qcH bs
 have hfl : q5 bs.length < 128 := by unfold q5; omega
 rw [hsha]
 rcases r with _ | ⟨xb, cap, jj⟩
 · have := hr.2; omega
 generalize zK bs = pt at *
 obtain ⟨q, hq⟩ : ∃ q, pt.length = 128 * q := ⟨pt.length / 128, by omega⟩
 have hq2 : pt.length / 128 = q := by omega
 rw [hq2]
 refine lp qe (fun k : Nat => k ≤ q) (fun k => ⟨[(2, ptr b2), (3, ptr b3), (5, .slice (some ⟨tb, 0, none⟩) 80 80), (7, .slice (some ⟨xb, 0, none⟩) pt.length cap), (8, .int .i64 (128 * k : Nat))],
  [cl b2 (List.replicate 64 (Value.int .u8 0)).toArray 41, cl b3 ((Qy pt k).l.map uv).toArray 172, cl tb (ktab.map uv).toArray 131, cl xb (Lib.byteCells pt ++ jj).toArray 5], []⟩) (fun k => q - k) 0 (Nat.zero_le _)
  ⟨⟨rfl, rfl, rfl, rfl, rfl, trivial⟩, .cons (.cons (.drop (.cons (.cons .nil)))), rfl⟩ ?_
 intro k hk
 refine cd (fun h => ?_) (fun h => ?_)
 · have hlt : k < q := by omega
   intro b9
   obtain ⟨p, hp⟩ : ∃ p, p = (pt.drop (128 * k)).take 128 := ⟨_, rfl⟩
   have hpl : p.length = 128 := by rw [hp, List.length_take, List.length_drop]; omega
   have hpc : ∀ i, i < 128 → (Lib.byteCells pt ++ jj).toArray[128 * k + i]? = some (.int .u8 (p.getD i 0).toNat) := by
    intro i hi
    rw [List.getElem?_toArray, List.getElem?_append_left (by rw [Lib.byteCells_length]; omega), qbX _ _ (by omega), hp]
    simp [List.getD, hi]
   have hpn : Qy pt (k + 1) = (Qy pt k).add (Zn ktab (QG 64 (qW p)) (Qy pt k) 80) := by rw [hp]; rfl
   have hw16 : (qW p).length = 16 := by simp [qW]
   refine lp qe (fun t : Nat => t ≤ 80) (fun t => ⟨[(2, ptr b2), (3, ptr b3), (5, .slice (some ⟨tb, 0, none⟩) 80 80), (7, .slice (some ⟨xb, 0, none⟩) pt.length cap), (8, .int .i64 (128 * k : Nat)), (9, ptr b9), (10, .int .i64 t)], [cl b2 (List.replicate 64 (Value.int .u8 0)).toArray 41, cl b3 ((Qy pt k).l.map uv).toArray 172, cl tb (ktab.map uv).toArray 131, cl xb (Lib.byteCells pt ++ jj).toArray 5, cl b9 (qK (wt p t) (80 - t)) 173], []⟩) (fun t => 80 - t) 0 (Nat.zero_le _)
    ⟨⟨rfl, rfl, rfl, rfl, rfl, rfl, rfl, trivial⟩, .cons (.cons (.cons (.cons (.cons .nil)))), rfl⟩ ?_
   intro t ht
   have hwl := wt_len p t
   refine cd (fun h => ?_) (fun h => ?_)
   · have htl : t < 80 := by omega
     refine cd (fun h16 => ?_) (fun h16 => ?_)
     · have hl16 : t < 16 := by omega
       have hz0 : qK (wt p t) (80 - t) = qK (wt p t ++ [be (((p.drop (8 * t)).take 8).take 0)]) (79 - t) := by
        rw [show 80 - t = 79 - t + 1 by omega, wc_zero]; rfl
       rw [hz0]
       refine lp qe (fun i : Nat => i ≤ 8) (fun i => ⟨[(2, ptr b2), (3, ptr b3), (5, .slice (some ⟨tb, 0, none⟩) 80 80), (7, .slice (some ⟨xb, 0, none⟩) pt.length cap), (8, .int .i64 (128 * k : Nat)), (9, ptr b9), (10, .int .i64 t), (11, .int .i64 i)], [cl b2 (List.replicate 64 (Value.int .u8 0)).toArray 41, cl b3 ((Qy pt k).l.map uv).toArray 172, cl tb (ktab.map uv).toArray 131, cl xb (Lib.byteCells pt ++ jj).toArray 5, cl b9 (qK (wt p t ++ [be (((p.drop (8 * t)).take 8).take i)]) (79 - t)) 173], []⟩) (fun i => 8 - i) 0 (Nat.zero_le _)
        ⟨⟨rfl, rfl, rfl, rfl, rfl, rfl, rfl, rfl, trivial⟩, .cons (.cons (.cons (.cons (.cons .nil)))), rfl⟩ ?_
       intro i hi
       refine cd (fun h => ?_) (fun h => ?_)
       · have hi8 : i < 8 := by omega
         refine drs [cl b2 (List.replicate 64 (Value.int .u8 0)).toArray 41, cl b3 ((Qy pt k).l.map uv).toArray 172, cl tb (ktab.map uv).toArray 131, cl xb (Lib.byteCells pt ++ jj).toArray 5, cl b9 (qK (wt p t ++ [be (((p.drop (8 * t)).take 8).take i)]) (79 - t)) 173] [17] (.t 0 (.t 1 (.t 2 (.t 3 (.t 4 (.t 5 (.t 6 (.t 7 (.t 8 (.t 9 (.t 10 (.t 11 (.t 12 (.t 13 (.t 14 (.t 15 (.t 16 (.n 17 .nil)))))))))))))))))) qe qk (by kernel_rfl) (.cons (.cons (.cons (.cons (.cons .nil))))) ?_
         refine ⟨by omega, by omega, ?_⟩
         refine ld1 4 rfl (v := uv (be (((p.drop (8 * t)).take 8).take i))) (by rw [qw, qu, Nat.zero_add, Nat.mul_one, Int.toNat_natCast]; rw [ZY _ _ _ (by rw [List.length_append, hwl]; simp)]; simp [hwl]) ?_
         refine .to (ux (be (((p.drop (8 * t)).take 8).take i) * BitVec.ofNat 64 256)) (u_mul _ 256 (by decide)) ?_
         refine .as ((8 * t : Nat) : Int) (by omega) (by simp only [mn]; omega) (by simp only [mx]; omega) ?_
         refine .as ((128 * k + 8 * t : Nat) : Int) (by omega) (by simp only [mn]; omega) (by simp only [mx]; omega) ?_
         refine .as ((128 * k + (8 * t + i) : Nat) : Int) (by omega) (by simp only [mn]; omega) (by simp only [mx]; omega) ?_
         refine ⟨by omega, by omega, ?_⟩
         refine ld1 3 rfl (v := .int .u8 (p.getD (8 * t + i) 0).toNat) (by rw [qw, qu, Nat.zero_add, Nat.mul_one, Int.toNat_natCast]; exact hpc _ (by omega)) ?_
         have hb := (p.getD (8 * t + i) 0).toNat_lt
         refine .same (by simp only [mn]; omega) (by simp only [mx]; omega) ?_
         have hbe : be (((p.drop (8 * t)).take 8).take (i + 1)) = bw (be (((p.drop (8 * t)).take 8).take i)) (p.getD (8 * t + i) 0) := by
          rw [chunk_at p hpl (8 * t) i (by omega) hi8, be_snoc]
         refine .to (ux (be (((p.drop (8 * t)).take 8).take (i + 1)))) (by rw [hbe, ← bw_add, ← ux_byte]; exact QA _ _) ?_
         refine ⟨by omega, by omega, ?_⟩
         refine s1 4 rfl (by rw [qw, qu, Nat.zero_add, Nat.mul_one, Int.toNat_natCast]; simp [qK, hwl]) ?_
         refine .as ((i + 1 : Nat) : Int) (by omega) (by simp only [mn]; omega) (by simp only [mx]; omega) ?_
         have hE : qK (wt p t ++ [be (((p.drop (8 * t)).take 8).take (i + 1))]) (79 - t) = (qK (wt p t ++ [be (((p.drop (8 * t)).take 8).take i)]) (79 - t)).setIfInBounds (nad 0 (nmu (Int.toNat (t : Int)) 1)) (uv (be (((p.drop (8 * t)).take 8).take (i + 1)))) := by
          rw [qw, qu, Nat.zero_add, Nat.mul_one, Int.toNat_natCast]; rw [← wc_set _ (be (((p.drop (8 * t)).take 8).take i)), hwl]
         refine ⟨i + 1, by omega, by omega, ?_⟩
         simp only [hE]
         exact ⟨⟨rfl, rfl, rfl, rfl, rfl, rfl, rfl, rfl, trivial⟩, .cons (.cons (.cons (.cons (.cons .nil)))), rfl⟩
       · obtain rfl : i = 8 := by omega
         have hE : qK (wt p (t + 1)) (80 - (t + 1)) = qK (wt p t ++ [be (((p.drop (8 * t)).take 8).take 8)]) (79 - t) := by
          rw [wt_low p (t + 1) (by omega), wt_low p t (by omega), qcm p hpl t hl16, List.take_take, show 80 - (t + 1) = 79 - t by omega]; rfl
         refine .as ((t + 1 : Nat) : Int) (by omega) (by simp only [mn]; omega) (by simp only [mx]; omega) ?_
         refine ⟨t + 1, by omega, by omega, ?_⟩
         simp only [hE]
         exact ⟨⟨rfl, rfl, rfl, rfl, rfl, rfl, rfl, trivial⟩, .cons (.cons (.cons (.cons (.cons .nil)))), rfl⟩
     · have h16' : 16 ≤ t := by omega
       refine .as ((t - 2 : Nat) : Int) (by omega) (by simp only [mn]; omega) (by simp only [mx]; omega) ?_
       refine ⟨by omega, by omega, ?_⟩
       refine ld1 4 rfl (v := uv ((wt p t).getD (t - 2) 0)) (by rw [qw, qu, Nat.zero_add, Nat.mul_one, Int.toNat_natCast]; exact ZY _ _ _ (by omega)) ?_
       refine .as ((t - 15 : Nat) : Int) (by omega) (by simp only [mn]; omega) (by simp only [mx]; omega) ?_
       refine ⟨by omega, by omega, ?_⟩
       refine ld1 4 rfl (v := uv ((wt p t).getD (t - 15) 0)) (by rw [qw, qu, Nat.zero_add, Nat.mul_one, Int.toNat_natCast]; exact ZY _ _ _ (by omega)) ?_
       have hnx : qa5 (wt p t) = qaL ((wt p t).getD (t - 2) 0) 19 61 6 true + (wt p t).getD (t - 7) 0 + qaL ((wt p t).getD (t - 15) 0) 1 8 7 true + (wt p t).getD (t - 16) 0 := by unfold qa5; rw [hwl]
       generalize hX : (wt p t).getD (t - 2) 0 = X at *
       generalize hY : (wt p t).getD (t - 15) 0 = Y at *
       refine drs [dead, dead, dead, dead, cl b9 (qK (wt p t) (80 - t)) 173] [29] (.t 0 (.t 1 (.t 2 (.t 3 (.t 4 (.t 5 (.t 6 (.t 7 (.t 8 (.t 9 (.t 10 (.t 11 (.t 12 (.t 13 (.t 14 (.t 15 (.t 16 (.t 17 (.t 18 (.t 19 (.t 20 (.t 21 (.t 22 (.t 23 (.t 24 (.t 25 (.t 26 (.t 27 (.t 28 (.n 29 .nil)))))))))))))))))))))))))))))) qe qk (by kernel_rfl) (.dead (.dead (.dead (.dead (.cons .nil))))) ?_
       refine cz (fun w => QT X 19 (by decide) (by decide) w) ?_
       refine cz (fun w => QT X 61 (by decide) (by decide) w) ?_
       refine ⟨by decide, ?_⟩
       refine .as ((t - 7 : Nat) : Int) (by omega) (by simp only [mn]; omega) (by simp only [mx]; omega) ?_
       refine ⟨by omega, by omega, ?_⟩
       refine ld1 4 rfl (v := uv ((wt p t).getD (t - 7) 0)) (by rw [qw, qu, Nat.zero_add, Nat.mul_one, Int.toNat_natCast]; exact ZY _ _ _ (by omega)) ?_
       refine .to (ux (qaL X 19 61 6 true + (wt p t).getD (t - 7) 0)) (by rw [Z0, qco X 6 (by decide) 6 rfl, Z0]; exact QA _ _) ?_
       refine cz (fun w => QT Y 1 (by decide) (by decide) w) ?_
       refine cz (fun w => QT Y 8 (by decide) (by decide) w) ?_
       refine ⟨by decide, ?_⟩
       refine .to (ux (qaL X 19 61 6 true + (wt p t).getD (t - 7) 0 + qaL Y 1 8 7 true)) (by rw [Z0, qco Y 7 (by decide) 7 rfl, Z0]; exact QA _ _) ?_
       refine .as ((t - 16 : Nat) : Int) (by omega) (by simp only [mn]; omega) (by simp only [mx]; omega) ?_
       refine ⟨by omega, by omega, ?_⟩
       refine ld1 4 rfl (v := uv ((wt p t).getD (t - 16) 0)) (by rw [qw, qu, Nat.zero_add, Nat.mul_one, Int.toNat_natCast]; exact ZY _ _ _ (by omega)) ?_
       refine .to (ux (qa5 (wt p t))) (by rw [hnx]; exact QA _ _) ?_
       refine ⟨by omega, by omega, ?_⟩
       refine s1 4 rfl (by rw [qw, qu, Nat.zero_add, Nat.mul_one, Int.toNat_natCast]; simp [qK, hwl]; omega) ?_
       have hE : qK (wt p (t + 1)) (80 - (t + 1)) = (qK (wt p t) (80 - t)).setIfInBounds (nad 0 (nmu (Int.toNat (t : Int)) 1)) (uv (qa5 (wt p t))) := by
        rw [qw, qu, Nat.zero_add, Nat.mul_one, Int.toNat_natCast]; rw [wt_next p t h16', show 80 - t = 79 - t + 1 by omega, wc_zero, show 80 - (t + 1) = 79 - t by omega, ← wc_set (wt p t) 0, hwl]
       refine .as ((t + 1 : Nat) : Int) (by omega) (by simp only [mn]; omega) (by simp only [mx]; omega) ?_
       refine ⟨t + 1, by omega, by omega, ?_⟩
       simp only [hE]
       exact ⟨⟨rfl, rfl, rfl, rfl, rfl, rfl, rfl, trivial⟩, .cons (.cons (.cons (.cons (.cons .nil)))), rfl⟩
   · obtain rfl : t = 80 := by omega
     have hW : wt p 80 = QG 64 (qW p) := wt_high p 80 (by decide)
     have hgl : (QG 64 (qW p)).length = 80 := by rw [qbF, hw16]
     rw [hW] at *
     generalize QG 64 (qW p) = ws at *
     generalize Qy pt k = s at *
     refine ldN 1 rfl rfl ?_
     intro b14
     refine sN 5 rfl rfl rfl ?_ (by kernel_rfl)
     refine lp qe (fun t : Nat => t ≤ 80) (fun t => ⟨[(2, ptr b2), (3, ptr b3), (5, .slice (some ⟨tb, 0, none⟩) 80 80), (7, .slice (some ⟨xb, 0, none⟩) pt.length cap), (8, .int .i64 (128 * k : Nat)), (9, ptr b9), (14, ptr b14), (15, .int .i64 t)], [cl b2 (List.replicate 64 (Value.int .u8 0)).toArray 41, cl b3 (s.l.map uv).toArray 172, cl tb (ktab.map uv).toArray 131, cl xb (Lib.byteCells pt ++ jj).toArray 5, cl b9 (qK ws 0) 173, cl b14 ((Zn ktab ws s t).l.map uv).toArray 172], []⟩) (fun t => 80 - t) 0 (Nat.zero_le _)
      ⟨⟨rfl, rfl, rfl, rfl, rfl, rfl, rfl, rfl, trivial⟩, .cons (.cons (.cons (.cons (.cons (.cons .nil))))), rfl⟩ ?_
     intro t ht
     refine cd (fun h => ?_) (fun h => ?_)
     · have htl : t < 80 := by omega
       have hst : Zn ktab ws s (t + 1) = rnd (Zn ktab ws s t) (ktab.getD t 0) (ws.getD t 0) := rfl
       generalize Zn ktab ws s t = st at *
       generalize hK : ktab.getD t 0 = K at *
       generalize hV : ws.getD t 0 = V at *
       refine ⟨by decide, by decide, ld1 5 rfl (v := uv st.e) rfl ?_⟩
       refine ⟨by decide, by decide, ld1 5 rfl (v := uv st.a) rfl ?_⟩
       refine drs [dead, dead, cl tb (ktab.map uv).toArray 131, dead, cl b9 (qK ws 0) 173, cl b14 (st.l.map uv).toArray 172] [] (.t 0 (.t 1 (.t 2 (.t 3 (.t 4 (.t 5 (.t 6 (.t 7 (.t 8 (.t 9 (.t 10 (.t 11 (.t 12 (.t 13 (.t 14 (.t 15 (.t 16 (.t 17 (.t 18 (.t 19 (.t 20 (.t 21 (.t 22 (.t 23 (.t 24 (.t 25 (.t 26 (.t 27 (.t 28 (.t 29 (.t 30 (.t 31 .nil)))))))))))))))))))))))))))))))) qe qk (by kernel_rfl) (.dead (.dead (.cons (.dead (.cons (.cons .nil)))))) ?_
       refine ⟨by decide, by decide, ld1 5 rfl (v := uv st.h) rfl ?_⟩
       refine cz (fun w => QT st.e 14 (by decide) (by decide) w) ?_
       refine cz (fun w => QT st.e 18 (by decide) (by decide) w) ?_
       refine cz (fun w => QT st.e 41 (by decide) (by decide) w) ?_
       refine .to (ux (st.h + qaL st.e 14 18 41 false)) (by rw [Z0, Z0]; exact QA _ _) ?_
       refine ⟨by decide, by decide, ld1 5 rfl (v := uv st.f) rfl ?_⟩
       refine .as (ux (~~~st.e)) (u_neg _) (ux_lt _).1 (by have := (ux_lt (~~~st.e)).2; simp only [mx]; omega) ?_
       refine ⟨by decide, by decide, ld1 5 rfl (v := uv st.g) rfl ?_⟩
       refine .to (ux (st.e &&& st.f ||| ~~~st.e &&& st.g)) (by rw [qay, qay, ← ch_add]; exact QA _ _) ?_
       refine .to _ (QA _ _) ?_
       refine ⟨by omega, by omega, ?_⟩
       refine ld1 2 rfl (v := uv K) (by rw [qw, qu, Nat.zero_add, Nat.mul_one, Int.toNat_natCast]; rw [← hK]; exact tb_at _ _ (by rw [ktab_len]; omega)) ?_
       refine .to _ (QA _ _) ?_
       refine ⟨by omega, by omega, ?_⟩
       refine ld1 4 rfl (v := uv V) (by rw [qw, qu, Nat.zero_add, Nat.mul_one, Int.toNat_natCast]; rw [← hV]; exact ZY _ _ _ (by omega)) ?_
       refine .to (ux (rndU st K V)) (QA _ _) ?_
       refine drs [dead, dead, dead, dead, dead, cl b14 (st.l.map uv).toArray 172] [] (.t 0 (.t 1 (.t 2 (.t 3 (.t 4 (.t 5 (.t 6 (.t 7 (.t 8 (.t 9 (.t 10 (.t 11 (.t 12 (.t 13 (.t 14 (.t 15 (.t 16 (.t 17 (.t 18 (.t 19 (.t 20 (.t 21 (.t 22 (.t 23 (.t 24 .nil))))))))))))))))))))))))) qe qk (by kernel_rfl) (.dead (.dead (.dead (.dead (.dead (.cons .nil)))))) ?_
       refine cz (fun w => QT st.a 28 (by decide) (by decide) w) ?_
       refine cz (fun w => QT st.a 34 (by decide) (by decide) w) ?_
       refine cz (fun w => QT st.a 39 (by decide) (by decide) w) ?_
       refine ⟨by decide, by decide, ld1 5 rfl (v := uv st.b) rfl ?_⟩
       refine ⟨by decide, by decide, ld1 5 rfl (v := uv st.c) rfl ?_⟩
       refine ⟨by decide, by decide, ld1 5 rfl (v := uv st.b) rfl ?_⟩
       refine ⟨by decide, by decide, ld1 5 rfl (v := uv st.c) rfl ?_⟩
       refine .to (ux (rndV st)) (by rw [Z0, Z0, qay, qay, u_or, qay, u_or]; exact QA _ _) ?_
       refine .to _ (QA _ _) ?_
       refine ⟨by decide, by decide, ld1 5 rfl (v := uv st.a) rfl ?_⟩
       refine ⟨by decide, by decide, ld1 5 rfl (v := uv st.b) rfl ?_⟩
       refine ⟨by decide, by decide, ld1 5 rfl (v := uv st.c) rfl ?_⟩
       refine ⟨by decide, by decide, ld1 5 rfl (v := uv st.d) rfl ?_⟩
       refine .to _ (QA _ _) ?_
       refine ⟨by decide, by decide, ld1 5 rfl (v := uv st.e) rfl ?_⟩
       refine ⟨by decide, by decide, ld1 5 rfl (v := uv st.f) rfl ?_⟩
       refine ⟨by decide, by decide, ld1 5 rfl (v := uv st.g) rfl ?_⟩
       refine bu (c := ((rnd st K V).l.map uv).toArray) (by kernel_rfl) ?_
       refine sN 5 rfl (h8_size _ _) (h8_one _) ?_ (by kernel_rfl)
       refine .as ((t + 1 : Nat) : Int) (by omega) (by simp only [mn]; omega) (by simp only [mx]; omega) ?_
       refine ⟨t + 1, by omega, by omega, ?_⟩
       simp only [hst]
       exact ⟨⟨rfl, rfl, rfl, rfl, rfl, rfl, rfl, rfl, trivial⟩, .cons (.cons (.cons (.cons (.cons (.cons .nil))))), rfl⟩
     · obtain rfl : t = 80 := by omega
       generalize Zn ktab ws s 80 = r at *
       refine lp qe (fun i : Nat => i ≤ 8) (fun i => ⟨[(2, ptr b2), (3, ptr b3), (5, .slice (some ⟨tb, 0, none⟩) 80 80), (7, .slice (some ⟨xb, 0, none⟩) pt.length cap), (8, .int .i64 (128 * k : Nat)), (9, ptr b9), (14, ptr b14), (20, .int .i64 i)], [cl b2 (List.replicate 64 (Value.int .u8 0)).toArray 41, cl b3 (((s.add r).l.map uv).take i ++ (s.l.map uv).drop i).toArray 172, cl tb (ktab.map uv).toArray 131, cl xb (Lib.byteCells pt ++ jj).toArray 5, cl b9 (qK ws 0) 173, cl b14 (r.l.map uv).toArray 172], []⟩) (fun i => 8 - i) 0 (Nat.zero_le _)
        ⟨⟨rfl, rfl, rfl, rfl, rfl, rfl, rfl, rfl, trivial⟩, .cons (.cons (.cons (.cons (.cons (.cons .nil))))), rfl⟩ ?_
       intro i hi
       refine cd (fun h => ?_) (fun h => ?_)
       · have hlt : i < 8 := by omega
         refine drs [cl b2 (List.replicate 64 (Value.int .u8 0)).toArray 41, cl b3 (((s.add r).l.map uv).take i ++ (s.l.map uv).drop i).toArray 172, cl tb (ktab.map uv).toArray 131, cl xb (Lib.byteCells pt ++ jj).toArray 5, cl b9 (qK ws 0) 173, cl b14 (r.l.map uv).toArray 172] [9] (.t 0 (.t 1 (.t 2 (.t 3 (.t 4 (.t 5 (.t 6 (.t 7 (.t 8 (.n 9 .nil)))))))))) qe qk (by kernel_rfl) (.cons (.cons (.cons (.cons (.cons (.cons .nil)))))) ?_
         refine ⟨by omega, by omega, ?_⟩
         refine ld1 1 rfl (v := uv (s.l.getD i 0)) (by rw [qw, qu, Nat.zero_add, Nat.mul_one, Int.toNat_natCast]; rw [List.getElem?_toArray, get_step _ _ _ (by simp [H8.l]; omega), ← List.getElem?_toArray]; exact qaD s i hlt) ?_
         refine ⟨by omega, by omega, ?_⟩
         refine ld1 5 rfl (v := uv (r.l.getD i 0)) (by rw [qw, qu, Nat.zero_add, Nat.mul_one, Int.toNat_natCast]; exact qaD r i hlt) ?_
         refine .to _ (QA _ _) ?_
         refine ⟨by omega, by omega, ?_⟩
         refine s1 1 rfl (by rw [qw, qu, Nat.zero_add, Nat.mul_one, Int.toNat_natCast]; simp [H8.l]; omega) ?_
         have hE : (((s.add r).l.map uv).take (i + 1) ++ (s.l.map uv).drop (i + 1)).toArray = (((s.add r).l.map uv).take i ++ (s.l.map uv).drop i).toArray.setIfInBounds (nad 0 (nmu (Int.toNat (i : Int)) 1)) (uv (s.l.getD i 0 + r.l.getD i 0)) := by
          rw [qw, qu, Nat.zero_add, Nat.mul_one, Int.toNat_natCast]; rw [List.setIfInBounds_toArray, ← add_at s r i hlt, Zk _ _ _ (by simp [H8.l]) i (by simp [H8.l]; omega) (by rw [← List.getElem?_toArray]; exact qaD _ i hlt)]
         refine .as ((i + 1 : Nat) : Int) (by omega) (by simp only [mn]; omega) (by simp only [mx]; omega) ?_
         refine ⟨i + 1, by omega, by omega, ?_⟩
         rw [hE]
         exact ⟨⟨rfl, rfl, rfl, rfl, rfl, rfl, rfl, rfl, trivial⟩, .cons (.cons (.cons (.cons (.cons (.cons .nil))))), rfl⟩
       · obtain rfl : i = 8 := by omega
         have hE : (((s.add r).l.map uv).take 8 ++ (s.l.map uv).drop 8).toArray = ((s.add r).l.map uv).toArray := rfl
         rw [hE, ← hpn]
         refine .as ((128 * (k + 1) : Nat) : Int) (by omega) (by simp only [mn]; omega) (by simp only [mx]; omega) ?_
         exact ⟨k + 1, by omega, by omega, ⟨rfl, rfl, rfl, rfl, rfl, trivial⟩, .cons (.cons (.cons (.cons .nil))), rfl⟩
 · obtain rfl : k = q := by omega
   generalize Qy pt k = S at *
   intro b21
   have hol : (Lib.byteCells (qav S)).length = 64 := by rw [Lib.byteCells_length, outB_len]
   refine lp qe (fun i : Nat => i ≤ 64) (fun i => ⟨[(2, ptr b2), (3, ptr b3), (21, ptr b21), (22, .int .i64 i)], [cl b2 (List.replicate 64 (Value.int .u8 0)).toArray 41, cl b3 (S.l.map uv).toArray 172, cl b21 ((Lib.byteCells (qav S)).take i ++ (List.replicate 64 (Value.int .u8 0)).drop i).toArray 41], []⟩) (fun i => 64 - i) 0 (Nat.zero_le _)
    ⟨⟨rfl, rfl, rfl, rfl, trivial⟩, .cons (.cons (.drop (.drop (.cons .nil)))), rfl⟩ ?_
   intro i hi
   refine cd (fun h => ?_) (fun h => ?_)
   · have hlt : i < 64 := by omega
     have hbyte : (Lib.byteCells (qav S))[i]? = some (.int .u8 (UInt8.ofNat ((S.l.getD (i / 8) 0).toNat / 2 ^ (56 - 8 * (i % 8)) % 256)).toNat) := by
      unfold Lib.byteCells; rw [List.getElem?_map, outB_at S i hlt]; rfl
     refine ⟨by omega, by simp only [mx]; omega, by decide, ?_⟩
     refine ⟨by omega, by omega, ?_⟩
     refine ld1 1 rfl (v := uv (S.l.getD (i / 8) 0)) (by rw [qw, qu, Nat.zero_add, Nat.mul_one, show Int.toNat ((i : Int) / 8) = i / 8 by omega]; exact qaD S _ (by omega)) ?_
     refine ⟨by omega, by simp only [mx]; omega, by decide, ?_⟩
     refine .as ((7 - i % 8 : Nat) : Int) (by omega) (by simp only [mn]; omega) (by simp only [mx]; omega) ?_
     refine .as ((56 - 8 * (i % 8) : Nat) : Int) (by omega) (by simp only [mn]; omega) (by simp only [mx]; omega) ?_
     refine .same (by simp only [mn]; omega) (by simp only [mx]; omega) ?_
     refine ⟨by omega, ?_⟩
     refine .to ((UInt8.ofNat ((S.l.getD (i / 8) 0).toNat / 2 ^ (56 - 8 * (i % 8)) % 256)).toNat : Int) (by rw [qco _ (56 - 8 * (i % 8)) (by omega) _ rfl]; exact qdy _ _) ?_
     refine ⟨by omega, by omega, ?_⟩
     refine s1 2 rfl (by rw [qw, qu, Nat.zero_add, Nat.mul_one, Int.toNat_natCast]; simp [hol]; omega) ?_
     have hE : ((Lib.byteCells (qav S)).take (i + 1) ++ (List.replicate 64 (Value.int .u8 0)).drop (i + 1)).toArray = ((Lib.byteCells (qav S)).take i ++ (List.replicate 64 (Value.int .u8 0)).drop i).toArray.setIfInBounds (nad 0 (nmu (Int.toNat (i : Int)) 1)) (.int .u8 (UInt8.ofNat ((S.l.getD (i / 8) 0).toNat / 2 ^ (56 - 8 * (i % 8)) % 256)).toNat) := by
      rw [qw, qu, Nat.zero_add, Nat.mul_one, Int.toNat_natCast]; rw [List.setIfInBounds_toArray, Zk _ _ _ (by rw [hol]; rfl) i (by omega) hbyte]
     refine .as ((i + 1 : Nat) : Int) (by omega) (by simp only [mn]; omega) (by simp only [mx]; omega) ?_
     refine ⟨i + 1, by omega, by omega, ?_⟩
     rw [hE]
     exact ⟨⟨rfl, rfl, rfl, rfl, trivial⟩, .cons (.cons (.cons .nil)), rfl⟩
   · obtain rfl : i = 64 := by omega
     have hE : ((Lib.byteCells (qav S)).take 64 ++ (List.replicate 64 (Value.int .u8 0)).drop 64).toArray = (Lib.byteCells (qav S)).toArray := by
      rw [List.take_of_length_le (by omega)]; simp
     rw [hE]
     refine ldN 2 rfl (by simp [hol]) ?_
     refine sN 0 rfl (by simp [hol]) (ZR _) ?_ (by kernel_rfl)
     refine ldN 0 rfl (by simp [hol]) ?_
     exact rt rfl
end
end Go.Proofs.YtbgefoamhdgnaaaGreatDoor
section
namespace Go.Proofs.YtbgefoamhdgnaaaGreatDoor
open Go.RowKit Go.Lib
theorem add64 (x y c : Int) (hx : 0 ≤ x) (hy : 0 ≤ y) (hc0 : 0 ≤ c) (hc : c ≤ 1) (w : World) : (callFunc 248 #[.int .u64 x, .int .u64 y, .int .u64 c]).run Tryz.prog w =
 .ok (.value (.tuple #[.int .u64 ((x + y + c) % 18446744073709551616), .int .u64 ((x + y + c) / 18446744073709551616)])) w := by
 rw [run_callFunc_extern Tryz.func248 (by kernel_rfl) (by kernel_rfl) (by kernel_rfl) (e := add64Entry) (by kernel_rfl), run_add64 x y c hx hy hc0 hc]
 rfl
def sub64Ent : Array Value → Sem Value := fun args => do
 let (x, y, b) ← Extern.MathBitsCarry.three "Sub64" args
 pure (Extern.MathBitsCarry.pair ((x + Extern.MathBitsCarry.m64 - y - b) % Extern.MathBitsCarry.m64) (if x < y + b then 1 else 0))
def bor (x y : Int) : Int := if x < y then 1 else 0
theorem bor_01 (x y : Int) : 0 ≤ bor x y ∧ bor x y ≤ 1 := by unfold bor; split <;> omega
theorem run_sub64n (x y b : Nat) (hb : b ≤ 1) (w : World) :
 (sub64Ent #[.int .u64 x, .int .u64 y, .int .u64 b]).run Tryz.prog w =
  .ok (.tuple #[.int .u64 (((x + 18446744073709551616 - y - b) % 18446744073709551616 : Nat) : Int), .int .u64 ((if x < y + b then 1 else 0 : Nat) : Int)]) w := by
 have : b = 0 ∨ b = 1 := by omega
 rcases this with rfl | rfl <;> rfl
theorem sub64 (x y b : Int) (hx : 0 ≤ x) (hy : 0 ≤ y) (hy' : y < 18446744073709551616) (hb0 : 0 ≤ b) (hb : b ≤ 1) (w : World) : (callFunc 224 #[.int .u64 x, .int .u64 y, .int .u64 b]).run Tryz.prog w =
 .ok (.value (.tuple #[.int .u64 ((x - y - b) % 18446744073709551616), .int .u64 (bor x (y + b))])) w := by
 obtain ⟨x, rfl⟩ := Int.eq_ofNat_of_zero_le hx
 obtain ⟨y, rfl⟩ := Int.eq_ofNat_of_zero_le hy
 obtain ⟨b, rfl⟩ := Int.eq_ofNat_of_zero_le hb0
 have e1 : (((x + 18446744073709551616 - y - b) % 18446744073709551616 : Nat) : Int) = ((x : Int) - y - b) % 18446744073709551616 := by omega
 have e2 : ((if x < y + b then 1 else 0 : Nat) : Int) = bor x (y + b) := by unfold bor; split <;> split <;> omega
 rw [← e1, ← e2, run_callFunc_extern Tryz.func224 (by kernel_rfl) (by kernel_rfl) (by kernel_rfl) (e := sub64Ent) (by kernel_rfl), run_sub64n x y b (by omega)]
 rfl
theorem qbo (x y : Int) (hx : 0 ≤ x) (hy : 0 ≤ y) (w : World) : (callFunc 248 #[.int .u64 x, .int .u64 y, .int .u64 0]).run Tryz.prog w =
 .ok (.value (.tuple #[.int .u64 ((x + y) % 18446744073709551616), .int .u64 ((x + y) / 18446744073709551616)])) w := by
 simpa using add64 x y 0 hx hy (Int.le_refl 0) (by decide) w
theorem sub64_0 (x y : Int) (hx : 0 ≤ x) (hy : 0 ≤ y) (hy' : y < 18446744073709551616) (w : World) : (callFunc 224 #[.int .u64 x, .int .u64 y, .int .u64 0]).run Tryz.prog w =
 .ok (.value (.tuple #[.int .u64 ((x - y) % 18446744073709551616), .int .u64 (bor x y)])) w := by
 simpa using sub64 x y 0 hx hy hy' (Int.le_refl 0) (by decide) w
namespace M64
theorem maskN (a : Nat) (ha : a < 18446744073709551616) : bits .and .u64 (a : Int) 4294967295 = ((a % 4294967296 : Nat) : Int) := by
 have h := bits_and_u64_nat a 4294967295 ha (by omega)
 have e : a &&& 4294967295 = a % 4294967296 := Nat.and_two_pow_sub_one_eq_mod a 32
 rw [e] at h
 exact h
theorem divN (a : Nat) : (a : Int) / 4294967296 = ((a / 4294967296 : Nat) : Int) := by omega
theorem mulN (a b : Nat) : (a : Int) * (b : Int) = ((a * b : Nat) : Int) := (Int.natCast_mul a b).symm
theorem addN (a b : Nat) : (a : Int) + (b : Int) = ((a + b : Nat) : Int) := (Int.natCast_add a b).symm
theorem wrapN (a : Nat) (ha : a < 18446744073709551616) : IntKind.u64.wrap (a : Int) = (a : Int) := by rw [IntKind.wrap_u64]; omega
theorem wrapM (a : Nat) : IntKind.u64.wrap (a : Int) = ((a % 18446744073709551616 : Nat) : Int) := by rw [IntKind.wrap_u64]; omega
end M64
theorem mul64N (x y : Nat) (hx : x < 18446744073709551616) (hy : y < 18446744073709551616) (w : World) :
 Calls Tryz.prog 247 #[.int .u64 x, .int .u64 y] w fun e w' => e = .returned (.tuple #[.int .u64 ((x * y / 18446744073709551616 : Nat) : Int), .int .u64 ((x * y % 18446744073709551616 : Nat) : Int)]) ∧ w = w' := by
 obtain ⟨bd, bt, bw, hhi⟩ := Lib.mul64_hi x y hx hy
 have ba := Lib.half_mul_le (a := x / 4294967296) (b := y / 4294967296) (by omega) (by omega)
 have bb := Lib.half_mul_le (a := x / 4294967296) (b := y % 4294967296) (by omega) (by omega)
 have bc := Lib.half_mul_le (a := x % 4294967296) (b := y / 4294967296) (by omega) (by omega)
 have ba' : x / 4294967296 * (y / 4294967296) < 18446744073709551616 := by omega
 have bb' : x / 4294967296 * (y % 4294967296) < 18446744073709551616 := by omega
 have bc' : x % 4294967296 * (y / 4294967296) < 18446744073709551616 := by omega
 have bh1 : x / 4294967296 * (y / 4294967296) + (x / 4294967296 * (y % 4294967296) + x % 4294967296 * (y % 4294967296) / 4294967296) / 4294967296 < 18446744073709551616 := by omega
 have bh : x / 4294967296 * (y / 4294967296) + (x / 4294967296 * (y % 4294967296) + x % 4294967296 * (y % 4294967296) / 4294967296) / 4294967296 + ((x / 4294967296 * (y % 4294967296) + x % 4294967296 * (y % 4294967296) / 4294967296) % 4294967296 + x % 4294967296 * (y / 4294967296)) / 4294967296 < 18446744073709551616 := by omega
 go_enter Tryz.func247, Tryz.ntmps247
 go_wp2
 simp only [M64.maskN x hx, M64.maskN y hy, M64.divN, M64.mulN, M64.addN, M64.wrapN _ bd, M64.wrapN _ bb', M64.wrapN _ bt, M64.maskN _ bt, M64.wrapN _ bc', M64.wrapN _ bw, M64.wrapN _ ba', M64.wrapN _ bh1, M64.wrapN _ bh, M64.wrapM (x * y)]
 rw [hhi]
 go_ret2
 exact ⟨rfl, rfl⟩
theorem mul64 (x y : Int) (hx0 : 0 ≤ x) (hx : x < 18446744073709551616) (hy0 : 0 ≤ y) (hy : y < 18446744073709551616) (w : World) :
 Calls Tryz.prog 247 #[.int .u64 x, .int .u64 y] w fun e w' => e = .returned (.tuple #[.int .u64 (x * y / 18446744073709551616), .int .u64 (x * y % 18446744073709551616)]) ∧ w = w' := by
 obtain ⟨x, rfl⟩ := Int.eq_ofNat_of_zero_le hx0
 obtain ⟨y, rfl⟩ := Int.eq_ofNat_of_zero_le hy0
 exact mul64N x y (by omega) (by omega) w
end Go.Proofs.YtbgefoamhdgnaaaGreatDoor
end
namespace Go.Proofs.YtbgefoamhdgnaaaGreatDoor
section
open Go.RowKit Go.Lib
def ze (kd : IntKind) (k : Nat) (f : Nat → Int) : List Value := (List.range k).map (fun i => Value.int kd (f i))
def row (kd : IntKind) (k : Nat) (f : Nat → Int) : Array Value := (ze kd k f).toArray
def upd (f : Nat → Int) (i : Nat) (x : Int) : Nat → Int := fun j => if j = i then x else f j
theorem qr (f : Nat → Int) (i : Nat) (x : Int) : upd f i x i = x := by simp [upd]
theorem qt (f : Nat → Int) (i j : Nat) (x : Int) (h : j ≠ i) : upd f i x j = f j := by simp [upd, h]
theorem zQ (kd : IntKind) (k : Nat) (f : Nat → Int) : (ze kd k f).length = k := by simp [ze]
theorem Q5 (kd : IntKind) (k : Nat) (f : Nat → Int) (i : Nat) (h : i < k) : (row kd k f)[i]? = some (.int kd (f i)) := by
 simp [row, ze, h]
theorem Qc (kd : IntKind) (k : Nat) (f : Nat → Int) : (row kd k f).size = k := by simp [row, ze]
theorem Zm (kd : IntKind) (k : Nat) (f : Nat → Int) (i : Nat) (h : ¬ i < k) : (row kd k f)[i]? = none := by
 simp [Qc]; omega
theorem q7 (kd : IntKind) (k : Nat) (f g : Nat → Int) (h : ∀ i, i < k → f i = g i) : row kd k f = row kd k g := by
 apply Array.ext_getElem?
 intro j
 by_cases hj : j < k
 · rw [Q5 kd k _ j hj, Q5 kd k _ j hj, h j hj]
 · rw [Zm kd k _ j hj, Zm kd k _ j hj]
theorem qb7 (kd : IntKind) (k : Nat) (f : Nat → Int) (i : Nat) (x : Int) : (row kd k f).setIfInBounds i (.int kd x) = row kd k (upd f i x) := by
 apply Array.ext_getElem?
 intro j
 rw [Array.getElem?_setIfInBounds]
 simp only [Qc]
 by_cases hj : j < k
 · rw [Q5 kd k _ j hj, Q5 kd k _ j hj]
   unfold upd
   by_cases h : i = j
   · subst h; simp [hj]
   · have : ¬ j = i := fun e => h e.symm
     simp [h, this]
 · rw [Zm _ _ _ _ hj, Zm _ _ _ _ hj]; simp; omega
theorem qo (kd : IntKind) (k : Nat) (f : Nat → Int) : (row kd k f).all (·.oneCell') = true := by
 simp [row, ze, List.all_eq_true, Value.oneCell']
def Has (w : World) (b : Nat) (c : Array Value) (t : TypeId) : Prop := w.heap[b]? = some (.cells c t (0, 0))
section has
variable {w w' : World} {b : Nat} {c : Array Value} {t : TypeId}
theorem Has.lt (h : Has w b c t) : b < w.heap.size := (Array.getElem?_eq_some_iff.1 h).1
theorem Has.cellAt (h : Has w b c t) (i : Nat) : w.cell? ⟨b, i, none⟩ = c[i]? := cell_of_row w b i c t _ h
theorem Has.cell {kd : IntKind} {k : Nat} {f : Nat → Int} (h : Has w b (row kd k f) t) (i : Nat) (hi : i < k) : w.cell? ⟨b, i, none⟩ = some (.int kd (f i)) := by
 rw [h.cellAt, Q5 kd k f i hi]
theorem Has.range {l : List Value} (h : Has w b l.toArray t) : w.rangeAt b 0 l := fun j v hv => by
 rw [Nat.zero_add, h.cellAt]; simpa using hv
theorem Has.frozen (h : Has w b c t) (i : Nat) : w.frozen? ⟨b, i, none⟩ = false := frozen_of_row w b i c t h
theorem Has.setAt (h : Has w b c t) (i : Nat) (v : Value) : Has (w.setCell ⟨b, i, none⟩ v) b (c.setIfInBounds i v) t := heap_setCell_same w b i c t v h
theorem Has.set {kd : IntKind} {k : Nat} {f : Nat → Int} (h : Has w b (row kd k f) t) (i : Nat) (x : Int) : Has (w.setCell ⟨b, i, none⟩ (.int kd x)) b (row kd k (upd f i x)) t := by
 have := h.setAt i (.int kd x)
 rwa [qb7] at this
theorem Has.other (h : Has w b c t) (a : Addr) (v : Value) (hb : b ≠ a.block) : Has (w.setCell a v) b c t := (heap_setCell_other w a b v hb).trans h
theorem Has.drewN (h : Has w b c t) (n : Nat) : Has (w.drewN n) b c t := h
theorem Has.drew (h : Has w b c t) : Has w.drew b c t := h
theorem Has.alloc (h : Has w b c t) (o : Obj) : Has (w.alloc o) b c t := (Below.heap_alloc w o b h.lt).trans h
theorem Has.new (w : World) (c : Array Value) (t : TypeId) : Has (w.alloc (.cells c t)) w.heap.size c t := heap_alloc_new w _
theorem Has.new1 (w : World) (A : Obj) (c : Array Value) (t : TypeId) : Has ((w.alloc A).alloc (.cells c t)) (w.heap.size + 1) c t := by
 have := Has.new (w.alloc A) c t
 simpa using this
theorem Has.new2 (w : World) (A B : Obj) (c : Array Value) (t : TypeId) : Has (((w.alloc A).alloc B).alloc (.cells c t)) (w.heap.size + 1 + 1) c t := by
 have := Has.new ((w.alloc A).alloc B) c t
 simpa using this
theorem Has.new3 (w : World) (A B C : Obj) (c : Array Value) (t : TypeId) : Has ((((w.alloc A).alloc B).alloc C).alloc (.cells c t)) (w.heap.size + 1 + 1 + 1) c t := by
 have := Has.new (((w.alloc A).alloc B).alloc C) c t
 simpa using this
theorem Has.below {B : Nat} (h : Has w b c t) (hb : Below B w w') (hB : b < B) : Has w' b c t := (hb.block b hB).trans h
theorem Has.setRow (h : Has w b c t) (c' : Array Value) : Has (w.setRow b c') b c' t := setRow_heap w b c c' t _ h
theorem Has.setRow_other (h : Has w b c t) (g : Nat) (c' : Array Value) (hg : b ≠ g) : Has (w.setRow g c') b c t := (Go.setRow_other w g b c' hg).trans h
end has
def HasN (w : World) (b n : Nat) (t : TypeId) : Prop := ∃ c : Array Value, c.size = n ∧ Has w b c t
section hasn
variable {w w' : World} {b n : Nat} {t : TypeId}
theorem Has.toN {c : Array Value} (h : Has w b c t) (hn : c.size = n) : HasN w b n t := ⟨c, hn, h⟩
theorem HasN.new (w : World) (c : Array Value) (t : TypeId) (n : Nat) (hn : c.size = n) : HasN (w.alloc (.cells c t)) w.heap.size n t := ⟨c, hn, Has.new w c t⟩
theorem HasN.new1 (w : World) (A : Obj) (c : Array Value) (t : TypeId) (n : Nat) (hn : c.size = n) : HasN ((w.alloc A).alloc (.cells c t)) (w.heap.size + 1) n t := by
 have := HasN.new (w.alloc A) c t n hn
 simpa using this
theorem HasN.new2 (w : World) (A B : Obj) (c : Array Value) (t : TypeId) (n : Nat) (hn : c.size = n) : HasN (((w.alloc A).alloc B).alloc (.cells c t)) (w.heap.size + 1 + 1) n t := by
 have := HasN.new ((w.alloc A).alloc B) c t n hn
 simpa using this
theorem HasN.new3 (w : World) (A B C : Obj) (c : Array Value) (t : TypeId) (n : Nat) (hn : c.size = n) : HasN ((((w.alloc A).alloc B).alloc C).alloc (.cells c t)) (w.heap.size + 1 + 1 + 1) n t := by
 have := HasN.new (((w.alloc A).alloc B).alloc C) c t n hn
 simpa using this
theorem HasN.lt (h : HasN w b n t) : b < w.heap.size := let ⟨_, _, h⟩ := h; h.lt
theorem HasN.other (h : HasN w b n t) (a : Addr) (v : Value) (hb : b ≠ a.block) : HasN (w.setCell a v) b n t := let ⟨c, hn, h⟩ := h; ⟨c, hn, h.other a v hb⟩
theorem HasN.drew (h : HasN w b n t) : HasN w.drew b n t := h
theorem HasN.alloc (h : HasN w b n t) (o : Obj) : HasN (w.alloc o) b n t := let ⟨c, hn, h⟩ := h; ⟨c, hn, h.alloc o⟩
theorem HasN.below {B : Nat} (h : HasN w b n t) (hb : Below B w w') (hB : b < B) : HasN w' b n t := let ⟨c, hn, h⟩ := h; ⟨c, hn, h.below hb hB⟩
theorem HasN.setRow_other (h : HasN w b n t) (g : Nat) (c' : Array Value) (hg : b ≠ g) : HasN (w.setRow g c') b n t := let ⟨c, hn, h⟩ := h; ⟨c, hn, h.setRow_other g c' hg⟩
end hasn
theorem q8 (w : World) (A : Obj) : Below w.heap.size w (w.alloc A) := (Below.refl _ _).alloc (Nat.le_refl _) _
theorem Qp (w : World) (A B : Obj) : Below w.heap.size w ((w.alloc A).alloc B) := (q8 w A).alloc (by simp) _
theorem Qz (w : World) (A B C : Obj) : Below w.heap.size w (((w.alloc A).alloc B).alloc C) := (Qp w A B).alloc (by simp; omega) _
theorem qbn (w : World) (A B C D : Obj) : Below w.heap.size w ((((w.alloc A).alloc B).alloc C).alloc D) := (Qz w A B C).alloc (by simp; omega) _
theorem qT {B : Nat} {a w : World} (h : Below B a w) (n : Nat) : Below B a (w.drewN n) := ⟨h.os, h.tape, h.output, h.size, h.block⟩
theorem below_setRow {B : Nat} {a w : World} (h : Below B a w) (g : Nat) (c : Array Value) (hg : B ≤ g) : Below B a (w.setRow g c) :=
 h.trans ⟨rfl, rfl, rfl, by simp, fun k hk => setRow_other w g k c (by omega)⟩
theorem qf {w4 W w1 : World} (h : Below w4.heap.size w4 W) (hb : Below W.heap.size W w1) : Below w4.heap.size w4 w1 := h.trans (hb.mono h.size)
theorem Has.call {W w1 : World} {b : Nat} {c : Array Value} {t : TypeId} (h : Has W b c t) (hb : Below W.heap.size W w1) : Has w1 b c t := h.below hb h.lt
theorem HasN.call {W w1 : World} {b n : Nat} {t : TypeId} (h : HasN W b n t) (hb : Below W.heap.size W w1) : HasN w1 b n t := h.below hb h.lt
theorem Za {w4 w1 : World} {b o : Nat} {l : List Value} (hR : w4.rangeAt b o l) (h : Below w4.heap.size w4 w1) (hlt : b < w4.heap.size) : w1.rangeAt b o l := fun j v hv =>
 (h.cell (p := ⟨b, o + j, none⟩) hlt).trans (hR j v hv)
theorem Zl (kd : IntKind) (k : Nat) (f : Nat → Int) : ∀ v ∈ ze kd k f, v.oneCell' = true := by
 simp [ze, Value.oneCell']
theorem qaw (b : Nat) (l : List Value) : ∀ (w : World) (o k : Nat), k ≠ b → (w.setCells b o l).heap[k]? = w.heap[k]? := by
 induction l with
 | nil => intro w o k _; rfl
 | cons v l ih => intro w o k hk; simp only [World.setCells]; rw [ih _ _ _ hk]; exact heap_setCell_other w ⟨b, o, none⟩ k v hk
theorem Has.setCells_other {w : World} {b : Nat} {c : Array Value} {t : TypeId} (h : Has w b c t) (g o : Nat) (l : List Value) (hb : b ≠ g) : Has (w.setCells g o l) b c t := (qaw g l w o b hb).trans h
theorem HasN.setCells_other {w : World} {b n : Nat} {t : TypeId} (h : HasN w b n t) (g o : Nat) (l : List Value) (hb : b ≠ g) : HasN (w.setCells g o l) b n t := let ⟨c, hn, h⟩ := h; ⟨c, hn, h.setCells_other g o l hb⟩
def qp (B : Int) (f : Nat → Int) : Nat → Int
 | 0 => 0
 | n + 1 => qp B f n + f n * B ^ n
theorem Q6 (B : Int) (f g : Nat → Int) (n : Nat) (h : ∀ i, i < n → f i = g i) : qp B f n = qp B g n := by
 induction n with
 | zero => rfl
 | succ n ih => simp only [qp]; rw [ih (fun i hi => h i (by omega)), h n (by omega)]
theorem qQ (B : Int) (f : Nat → Int) (n i : Nat) (x : Int) (h : n ≤ i) : qp B (upd f i x) n = qp B f n :=
 Q6 B _ _ n fun j hj => qt f i j x (by omega)
theorem Qm (B : Int) (f : Nat → Int) (n i : Nat) (x : Int) (h : i < n) : qp B (upd f i x) n = qp B f n + (x - f i) * B ^ i := by
 induction n with
 | zero => omega
 | succ n ih =>
  simp only [qp]
  by_cases hi : i = n
  · subst hi
    rw [qQ B f i i x (Nat.le_refl _), qr, Int.sub_mul]; omega
  · rw [ih (by omega), qt f i n x (by omega)]; omega
theorem Q8 (B : Int) (f : Nat → Int) (n : Nat) (h : ∀ i, i < n → f i = 0) : qp B f n = 0 := by
 induction n with
 | zero => rfl
 | succ n ih => simp only [qp]; rw [ih (fun i hi => h i (by omega)), h n (by omega)]; simp
theorem Qb (B : Int) (hB : 0 < B) (f : Nat → Int) (n : Nat) (h : ∀ i, i < n → 0 ≤ f i) : 0 ≤ qp B f n := by
 induction n with
 | zero => simp [qp]
 | succ n ih =>
  simp only [qp]
  have h1 := ih (fun i hi => h i (by omega))
  have h2 : 0 ≤ f n * B ^ n := Int.mul_nonneg (h n (by omega)) (Int.le_of_lt (Int.pow_pos hB))
  omega
theorem ZA (B : Int) (hB : 0 < B) (f : Nat → Int) (n : Nat) (h : ∀ i, i < n → f i < B) : qp B f n < B ^ n := by
 induction n with
 | zero => simp [qp]
 | succ n ih =>
  simp only [qp]
  have h1 := ih (fun i hi => h i (by omega))
  have h2 : f n * B ^ n ≤ (B - 1) * B ^ n := Int.mul_le_mul_of_nonneg_right (by have := h n (by omega); omega) (Int.le_of_lt (Int.pow_pos hB))
  rw [Int.sub_mul] at h2
  rw [Int.pow_succ, Int.mul_comm (B ^ n) B]
  omega
def dg (B n i : Nat) : Int := ((n / B ^ i % B : Nat) : Int)
theorem Zd (B n i : Nat) (hB : 0 < B) : 0 ≤ dg B n i ∧ dg B n i < B := by
 unfold dg
 have := Nat.mod_lt (n / B ^ i) hB
 omega
theorem QZ (B n k : Nat) : qp (B : Int) (dg B n) k = ((n % B ^ k : Nat) : Int) := by
 induction k with
 | zero => simp [qp, Nat.mod_one]
 | succ k ih =>
  simp only [qp]
  rw [ih, dg, Nat.pow_succ, Nat.mod_mul, ← Int.natCast_pow, Int.mul_comm, ← Int.natCast_mul, ← Int.natCast_add]
theorem zm (B : Nat) (f : Nat → Int) (n k : Nat) (hf : ∀ i, i < k → 0 ≤ f i ∧ f i < B) (h : qp (B : Int) f k = n) : ∀ i, i < k → f i = dg B n i := by
 induction k generalizing n with
 | zero => intro i hi; omega
 | succ k ih =>
  intro i hi
  have hB : 0 < (B : Int) := by have := hf k (by omega); omega
  have hBk : (0 : Int) < (B : Int) ^ k := Int.pow_pos hB
  simp only [qp] at h
  have h1 := Qb B hB f k (fun i hi => (hf i (by omega)).1)
  have h2 := ZA B hB f k (fun i hi => (hf i (by omega)).2)
  have hk := hf k (by omega)
  obtain ⟨s, hs⟩ := Int.eq_ofNat_of_zero_le h1
  obtain ⟨d, hd⟩ := Int.eq_ofNat_of_zero_le hk.1
  rw [hs, hd] at h
  rw [hs] at h2
  rw [← Int.natCast_pow] at h h2
  have h' : s + d * B ^ k = n := by
   have : ((s + d * B ^ k : Nat) : Int) = (n : Int) := by rw [Int.natCast_add, Int.natCast_mul]; exact h
   omega
  have h2' : s < B ^ k := by omega
  have hpos : 0 < B ^ k := by omega
  by_cases hik : i = k
  · subst hik
    rw [hd, dg, ← h', Nat.add_mul_div_right _ _ hpos, Nat.div_eq_of_lt h2', Nat.zero_add, Nat.mod_eq_of_lt (by omega)]
  · rw [ih s (fun i hi => hf i (by omega)) hs i (by omega), dg, dg, ← h']
    have e : B ^ k = B ^ i * B * B ^ (k - i - 1) := by rw [← Nat.pow_succ, ← Nat.pow_add]; congr 1; omega
    rw [e, show d * (B ^ i * B * B ^ (k - i - 1)) = B ^ i * (B * (d * B ^ (k - i - 1))) by ac_rfl, Nat.add_mul_div_left _ _ (Nat.pow_pos (by omega)), Nat.add_mul_mod_self_left]
end
section
open Go.RowKit Go.Lib
def r22 (n : Nat) : Array Value := row .i64 22 (dg 4096 n)
theorem qh (n : Nat) : (r22 n).size = 22 := Qc _ _ _
theorem qdC (D F G H x y bw bw' z : Int) (h : H = F - G + bw * D) (hz : z = x - y - bw + 4096 * bw') :
 H + z * D = (F + x * D) - (G + y * D) + bw' * (D * 4096) := by
 subst h hz; grind
theorem less_end (a b : Nat) (hab : b ≤ a) (ha : a < 4096 ^ 22) (h : Nat → Int) (bw : Int) (hb0 : 0 ≤ bw) (hb1 : bw ≤ 1) (hd : ∀ j, j < 22 → 0 ≤ h j ∧ h j < 4096)
 (hs : qp 4096 h 22 = qp 4096 (dg 4096 a) 22 - qp 4096 (dg 4096 b) 22 + bw * 4096 ^ 22) : row .i64 22 h = r22 (a - b) := by
 have e1 := QZ 4096 a 22
 have e2 := QZ 4096 b 22
 rw [Nat.mod_eq_of_lt ha] at e1
 rw [Nat.mod_eq_of_lt (by omega)] at e2
 have e3 : qp 4096 h 22 < 4096 ^ 22 := ZA 4096 (by decide) h 22 fun i hi => (hd i hi).2
 have e1' : qp 4096 (dg 4096 a) 22 = a := e1
 have e2' : qp 4096 (dg 4096 b) 22 = b := e2
 rw [e1', e2'] at hs
 have hbw : bw = 0 := by
  rcases (show bw = 0 ∨ bw = 1 by omega) with h0 | h0
  · exact h0
  · subst h0; omega
 subst hbw
 refine q7 _ _ _ _ (zm 4096 h (a - b) 22 hd ?_)
 show qp 4096 h 22 = _
 rw [hs]; omega
theorem qbc (a b : Nat) (hab : b ≤ a) (ha : a < 4096 ^ 22) (w : World) :
 Calls Tryz.prog 109 #[.agg (r22 a), .agg (r22 b)] w fun e w' => e = .returned (.agg (r22 (a - b))) ∧ Below w.heap.size w w' := by
 have hf := fun i => Zd 4096 a i (by decide)
 have hg := fun i => Zd 4096 b i (by decide)
 have hend := less_end a b hab ha
 have HF := Lib.hid hf; clear hf
 have HG := Lib.hid hg; clear hg
 have HE := Lib.hid hend; clear hend
 have H0 := Lib.hid hab; clear hab
 have H1 := Lib.hid ha; clear ha
 go_enter Tryz.func109, Tryz.ntmps109
 go_wp2_with fail
 go_loopw [5, 6] (fun u i wr => ∃ (k : Nat) (h : Nat → Int) (bw : Int), k ≤ 22 ∧ i = .int .i64 k ∧ u = .int .i64 bw ∧ 0 ≤ bw ∧ bw ≤ 1 ∧ (∀ j, k ≤ j → h j = dg 4096 a j) ∧ (∀ j, j < k → 0 ≤ h j ∧ h j < 4096) ∧ qp 4096 h k = qp 4096 (dg 4096 a) k - qp 4096 (dg 4096 b) k + bw * 4096 ^ k ∧ Has wr w.heap.size (row .i64 22 h) 101 ∧ Has wr (w.heap.size + 1) (r22 b) 101 ∧ HasN wr (w.heap.size + 1 + 1) 22 101 ∧ Below w.heap.size w wr) (fun _ i _ => 22 - (RowKit.intOf i).toNat)
 case atStart =>
  exact ⟨0, dg 4096 a, 0, by omega, rfl, rfl, by omega, by omega, fun _ _ => rfl, fun j hj => by omega, by simp [qp], ((Has.new _ _ _).alloc _).alloc _, (Has.new1 _ _ _ _).alloc _, HasN.new2 _ _ _ _ _ _ rfl, Qz _ _ _ _⟩
 case round =>
  obtain ⟨k, h, bw, hk, rfl, rfl, hb0, hb1, hh, hd, hs, m0, m1, m2, hB⟩ := hrel
  have HH := Lib.hid hh; clear hh
  have HD := Lib.hid hd; clear hd
  have HS := Lib.hid hs; clear hs
  have M0 := Lib.hid m0; clear m0
  have M1 := Lib.hid m1; clear m1
  have M2 := Lib.hid m2; clear m2
  by_cases hlt : k < 22
  · have h1 := M0.out.cell k hlt
    have h2 := M1.out.cell k hlt
    have hfz := M0.out.frozen k
    have h3 := HF.out k
    have h4 := HG.out k
    rw [← HH.out k (Nat.le_refl _)] at h3
    obtain ⟨x, hx⟩ : ∃ x, x = h k := ⟨_, rfl⟩
    obtain ⟨y, hy⟩ : ∃ y, y = dg 4096 b k := ⟨_, rfl⟩
    rw [← hx] at h1 h3
    rw [← hy] at h2 h4
    have Hx := Lib.hid hx; clear hx
    have Hy := Lib.hid hy; clear hy
    obtain ⟨h30, h31⟩ := h3
    obtain ⟨h40, h41⟩ := h4
    go_wp2_with fail
    go_quiet (fail)
    go_wp2_with fail
    all_goals
     go_roundw
     case measure => simp [RowKit.intOf]; omega
     case rel =>
      first
      | (refine ⟨k + 1, upd h k (x - y - bw + 4096), 1, by omega, by go_num, rfl, by omega, by omega, ?_, ?_, ?_, (M0.out.drewN _).set _ _, M1.out.other _ _ (by simp), M2.out.other _ _ (by simp; omega), (qT hB _).setCell (by simp) _⟩
         · intro j hj; rw [qt _ _ _ _ (by omega)]; exact HH.out j (by omega)
         · intro j hj
           by_cases e : j = k
           · subst e; rw [qr]; omega
           · rw [qt _ _ _ _ e]; exact HD.out j (by omega)
         · simp only [qp]
           rw [qQ _ _ _ _ _ (Nat.le_refl _), qr, ← HH.out k (Nat.le_refl _), ← Hx.out, ← Hy.out, Int.pow_succ]
           exact qdC _ _ _ _ _ _ _ _ _ HS.out (by omega))
      | (refine ⟨k + 1, upd h k (x - y - bw), 0, by omega, by go_num, rfl, by omega, by omega, ?_, ?_, ?_, (M0.out.drewN _).set _ _, M1.out.other _ _ (by simp), M2.out.other _ _ (by simp; omega), (qT hB _).setCell (by simp) _⟩
         · intro j hj; rw [qt _ _ _ _ (by omega)]; exact HH.out j (by omega)
         · intro j hj
           by_cases e : j = k
           · subst e; rw [qr]; omega
           · rw [qt _ _ _ _ e]; exact HD.out j (by omega)
         · simp only [qp]
           rw [qQ _ _ _ _ _ (Nat.le_refl _), qr, ← HH.out k (Nat.le_refl _), ← Hx.out, ← Hy.out, Int.pow_succ]
           exact qdC _ _ _ _ _ _ _ _ _ HS.out (by omega))
  · obtain rfl : k = 22 := by omega
    obtain ⟨Z, hZ, m2⟩ := M2.out
    have HZ := Lib.hid hZ; clear hZ
    have M3 := Lib.hid m2; clear m2
    go_wp2_with (first | (refine wpList_load_row rfl 101 _ rfl w.heap.size rfl 101 (row .i64 22 h) (0, 0) _ M0.out Tryz.underlying101 rfl (by kernel_rfl) ?_) | (refine wpList_store_row rfl 101 _ _ rfl (w.heap.size + 1 + 1) _ rfl rfl 101 Z M3.out (by kernel_rfl) (HZ.out.trans (Qc _ _ _).symm) (qo _ _ _) ?_))
    refine bodyPost_ret (v := .agg (r22 (a - b))) (results_cell_row (t := 101) (by rfl) _ _ (w.heap.size + 1 + 1) _ _ _ rfl ((M3.out.setRow _).trans (by rw [HE.out h bw hb0 hb1 HD.out HS.out])) Tryz.underlying101 rfl (by rw [qh]; kernel_rfl)) rfl ⟨rfl, below_setRow hB _ _ (by omega)⟩
def PP : Nat := 57896044618658097711785492504343953926634992332820282019728792003956564819949
theorem qdc : PP < 4096 ^ 22 := by decide +kernel
theorem prime_row : row .i64 22 (upd (upd (fun j => if j < 21 then 4095 else 0) 0 4077) 21 7) = r22 PP := by
 refine q7 _ _ _ _ ?_
 have : (List.range 22).all (fun i => upd (upd (fun j => if j < 21 then 4095 else 0) 0 4077) 21 7 i == dg 4096 PP i) = true := by decide +kernel
 intro i hi
 simpa using List.all_eq_true.1 this i (by simpa using hi)
theorem Zp (w : World) : Calls Tryz.prog 110 #[] w fun e w' => e = .returned (.agg (r22 PP)) ∧ Below w.heap.size w w' := by
 go_enter Tryz.func110, Tryz.ntmps110
 go_wp2_with fail
 go_loopw [2] (fun i wr => ∃ (k : Nat), k ≤ 21 ∧ i = .int .i64 k ∧ Has wr (w.heap.size + 1) (row .i64 22 (fun j => if j < k then 4095 else 0)) 101 ∧ HasN wr w.heap.size 22 101 ∧ Below w.heap.size w wr) (fun i _ => 21 - (RowKit.intOf i).toNat)
 case atStart =>
  exact ⟨0, by omega, rfl, Has.new1 _ _ _ _, (HasN.new _ _ _ 22 rfl).alloc _, Qp _ _ _⟩
 case round =>
  obtain ⟨k, hk, rfl, m0, m1, hB⟩ := hrel
  have M0 := Lib.hid m0; clear m0
  have M1 := Lib.hid m1; clear m1
  by_cases hlt : k < 21
  · have h1 := M0.out.cell k (by omega)
    have hfz := M0.out.frozen k
    go_wp2_with fail
    go_roundw
    case measure => simp [RowKit.intOf]; omega
    case rel =>
     refine ⟨k + 1, by omega, by go_num, ?_, M1.out.other _ _ (by simp), hB.setCell (by simp) _⟩
     have := M0.out.set k 4095
     rw [q7 _ _ _ (fun j => if j < k + 1 then 4095 else 0)] at this
     · exact this
     · intro i _
       by_cases e : i = k
       · subst e; rw [qr]; simp
       · rw [qt _ _ _ _ e]
         show (if i < k then (4095 : Int) else 0) = if i < k + 1 then 4095 else 0
         split <;> split <;> first | rfl | omega
  · obtain rfl : k = 21 := by omega
    have h1 := M0.out.cell 0 (by omega)
    have h2 := M0.out.cell 21 (by omega)
    have f1 := M0.out.frozen 0
    have f2 := M0.out.frozen 21
    have m2 := ((M0.out.set 0 4077).set 21 7)
    rw [prime_row] at m2
    have M2 := Lib.hid m2; clear m2
    obtain ⟨Z, hZ, m3⟩ := M1.out
    have M3 := Lib.hid ((m3.other ⟨w.heap.size + 1, 0, none⟩ (.int .i64 4077) (by simp)).other ⟨w.heap.size + 1, 21, none⟩ (.int .i64 7) (by simp)); clear m3
    have HZ := Lib.hid hZ; clear hZ
    go_wp2_with (first | (refine wpList_load_row rfl 101 _ rfl (w.heap.size + 1) rfl 101 (r22 PP) (0, 0) _ M2.out Tryz.underlying101 rfl (by kernel_rfl) ?_) | (refine wpList_store_row rfl 101 _ _ rfl w.heap.size _ rfl rfl 101 Z M3.out (by kernel_rfl) (HZ.out.trans (qh _).symm) (qo _ _ _) ?_))
    exact bodyPost_ret (v := .agg (r22 PP)) (results_cell_row (t := 101) (by rfl) _ _ w.heap.size _ _ _ rfl (M3.out.setRow _) Tryz.underlying101 rfl (by kernel_rfl)) rfl ⟨rfl, below_setRow ((hB.setCell (by simp) _).setCell (by simp) _) _ _ (by omega)⟩
theorem below_end (a b k : Nat) (ha : a < 4096 ^ 22) (hb : b < 4096 ^ 22) (hk : k < 22) (heq : ∀ j, k < j → j < 22 → dg 4096 a j = dg 4096 b j) (hne : dg 4096 a k ≠ dg 4096 b k) : (dg 4096 a k < dg 4096 b k) ↔ a < b := by
 have e1 : qp 4096 (dg 4096 a) 22 = (a % 4096 ^ 22 : Nat) := QZ 4096 a 22
 have e2 : qp 4096 (dg 4096 b) 22 = (b % 4096 ^ 22 : Nat) := QZ 4096 b 22
 rw [Nat.mod_eq_of_lt ha] at e1
 rw [Nat.mod_eq_of_lt hb] at e2
 have up : ∀ n, k + 1 ≤ n → n ≤ 22 → qp 4096 (dg 4096 a) n - qp 4096 (dg 4096 b) n = qp 4096 (dg 4096 a) (k + 1) - qp 4096 (dg 4096 b) (k + 1) := by
  intro n hn
  induction n with
  | zero => omega
  | succ n ih =>
   intro h22
   by_cases hkn : k = n
   · subst hkn; rfl
   · have := ih (by omega) (by omega)
     have h2 := heq n (by omega) (by omega)
     simp only [qp] at this ⊢
     rw [h2]; omega
 have h3 := up 22 (by omega) (by omega)
 rw [e1, e2] at h3
 simp only [qp] at h3
 have p1 := Qb 4096 (by decide) (dg 4096 a) k (fun i _ => (Zd 4096 a i (by decide)).1)
 have p2 := Qb 4096 (by decide) (dg 4096 b) k (fun i _ => (Zd 4096 b i (by decide)).1)
 have q1 := ZA 4096 (by decide) (dg 4096 a) k (fun i _ => (Zd 4096 a i (by decide)).2)
 have q2 := ZA 4096 (by decide) (dg 4096 b) k (fun i _ => (Zd 4096 b i (by decide)).2)
 have hD : (0 : Int) < 4096 ^ k := Int.pow_pos (by decide)
 generalize (4096 : Int) ^ k = D at *
 generalize dg 4096 a k = x at *
 generalize dg 4096 b k = y at *
 constructor
 · intro h
   have : (x + 1) * D ≤ y * D := Int.mul_le_mul_of_nonneg_right (by omega) (by omega)
   rw [Int.add_mul] at this
   omega
 · intro h
   by_cases hh : x < y
   · exact hh
   · have : (y + 1) * D ≤ x * D := Int.mul_le_mul_of_nonneg_right (by omega) (by omega)
     rw [Int.add_mul] at this
     omega
theorem below_eq (a b : Nat) (ha : a < 4096 ^ 22) (hb : b < 4096 ^ 22) (heq : ∀ j, j < 22 → dg 4096 a j = dg 4096 b j) : a = b := by
 have e1 : qp 4096 (dg 4096 a) 22 = (a % 4096 ^ 22 : Nat) := QZ 4096 a 22
 have e2 : qp 4096 (dg 4096 b) 22 = (b % 4096 ^ 22 : Nat) := QZ 4096 b 22
 rw [Nat.mod_eq_of_lt ha] at e1
 rw [Nat.mod_eq_of_lt hb] at e2
 rw [Q6 4096 _ _ 22 heq] at e1
 omega
theorem ret_bool {a b : Bool} (h : a = b) : Ending.returned (.bool a) = .returned (.bool b) := by rw [h]
theorem qdP (a b : Nat) (ha : a < 4096 ^ 22) (hb : b < 4096 ^ 22) (w : World) :
 Calls Tryz.prog 153 #[.agg (r22 a), .agg (r22 b)] w fun e w' => e = .returned (.bool (decide (a < b))) ∧ Below w.heap.size w w' := by
 have H0 := Lib.hid ha; clear ha
 have H1 := Lib.hid hb; clear hb
 go_enter Tryz.func153, Tryz.ntmps153
 go_wp2_with fail
 go_loopw [5] (fun i wr => ∃ (k : Nat), k ≤ 22 ∧ i = .int .i64 ((k : Int) - 1) ∧ (∀ j, k ≤ j → j < 22 → dg 4096 a j = dg 4096 b j) ∧ Has wr w.heap.size (r22 a) 101 ∧ Has wr (w.heap.size + 1) (r22 b) 101 ∧ Below w.heap.size w wr) (fun i _ => (RowKit.intOf i + 1).toNat)
 case atStart =>
  exact ⟨22, by omega, rfl, fun j h1 h2 => by omega, (Has.new _ _ _).alloc _, Has.new1 _ _ _ _, Qp _ _ _⟩
 case round =>
  obtain ⟨k, hk, rfl, hh, m0, m1, hB⟩ := hrel
  have M0 := Lib.hid m0; clear m0
  have M1 := Lib.hid m1; clear m1
  have HH := Lib.hid hh; clear hh
  by_cases hlt : 0 < k
  · obtain ⟨k, rfl⟩ : ∃ j, k = j + 1 := ⟨k - 1, by omega⟩
    rw [show (((k + 1 : Nat) : Int) - 1) = (k : Int) by omega]
    have h1 := M0.out.cell k (by omega)
    have h2 := M1.out.cell k (by omega)
    obtain ⟨x, hx⟩ : ∃ x, x = dg 4096 a k := ⟨_, rfl⟩
    obtain ⟨y, hy⟩ : ∃ y, y = dg 4096 b k := ⟨_, rfl⟩
    rw [← hx] at h1
    rw [← hy] at h2
    have Hx := Lib.hid hx; clear hx
    have Hy := Lib.hid hy; clear hy
    have hk' : k < 22 := by omega
    by_cases hxy : x = y
    · have ht : (x != y) = false := by simp [hxy]
      have Hxy := Lib.hid hxy; clear hxy
      go_wp2_with fail
      go_quiet (fail)
      go_wp2_with fail
      go_roundw
      case measure => simp [RowKit.intOf]
      case rel =>
       refine ⟨k, by omega, rfl, ?_, M0.out, M1.out, qT hB _⟩
       intro j h1 h2
       by_cases e : j = k
       · subst e; rw [← Hx.out, ← Hy.out]; exact Hxy.out
       · exact HH.out j (by omega) h2
    · have ht : (x != y) = true := by simp [hxy]
      have hxy' : dg 4096 a k ≠ dg 4096 b k := by rw [← Hx.out, ← Hy.out]; exact hxy
      have hres := below_end a b k H0.out H1.out hk' (fun j h1 h2 => HH.out j (by omega) h2) hxy'
      rw [← Hx.out, ← Hy.out] at hres
      have HR := Lib.hid hres; clear hres hxy' hxy
      go_wp2_with fail
      go_quiet (fail)
      go_wp2_with fail
      go_quiet (fail)
      go_wp2_with fail
      go_ret
      exact ⟨ret_bool (by have := HR.out; simp only [this]), qT (qT hB _) _⟩
  · obtain rfl : k = 0 := by omega
    have hab := below_eq a b H0.out H1.out (fun j hj => HH.out j (by omega) hj)
    have HR := Lib.hid hab; clear hab
    go_wp2_with fail
    go_ret
    exact ⟨ret_bool (by have := HR.out; simp [this]), hB⟩
end
section
open Go.RowKit Go.Lib
theorem zO (B : Int) (g : Nat → Int) (a b : Nat) : qp B g (a + b) = qp B g a + B ^ a * qp B (fun j => g (j + a)) b := by
 induction b with
 | zero => simp [qp]
 | succ b ih =>
  rw [← Nat.add_assoc]
  simp only [qp]
  rw [ih, Int.mul_add, Int.pow_add, Nat.add_comm b a]
  have : g (a + b) * (B ^ a * B ^ b) = B ^ a * (g (a + b) * B ^ b) := by ac_rfl
  omega
theorem sumf_lin (B c : Int) (f g : Nat → Int) (n : Nat) : qp B (fun j => f j + c * g j) n = qp B f n + c * qp B g n := by
 induction n with
 | zero => simp [qp]
 | succ n ih =>
  simp only [qp]
  rw [ih, Int.mul_add, Int.add_mul, Int.mul_assoc]
  omega
theorem carry_step (D S F x c r q : Int) (h : S + c * D = F) (hr : x + c = r + 4096 * q) : (S + r * D) + q * (D * 4096) = F + x * D := by
 have : x = r + 4096 * q - c := by omega
 subst this; grind
def bnd (k : Nat) : Nat := if k = 0 then 878694100496718043517683302282418331810487718418343092402491322775749527474899974671687634004666183037093927858109549828751614463963730408009475621262727315456 else if k = 1 then 485667223056432267729865476705879726660601709763034880312953102434726071301302124544 else if k = 2 then 29642774844752946028434172162224104410437116074403984394101141506025761456259072 else 29642774844752946028434172162224104410437116074403984394101141506025761187823616
theorem bnd_le (k : Nat) : bnd k ≤ 878694100496718043517683302282418331810487718418343092402491322775749527474899974671687634004666183037093927858109549828751614463963730408009475621262727315456 := by unfold bnd; split <;> (try split) <;> (try split) <;> omega
theorem bnd_3 (k : Nat) (h : 3 ≤ k) : bnd k = 29642774844752946028434172162224104410437116074403984394101141506025761187823616 := by unfold bnd; rw [if_neg (by omega), if_neg (by omega), if_neg (by omega)]
theorem p22 : (4096 : Int) ^ 22 = 29642774844752946028434172162224104410437116074403984394101141506025761187823616 := by decide +kernel
theorem p44 : (4096 : Int) ^ 44 = 878694100496718043517683302282418331810487718418343092402491322775749527474899974671687634004666183037093927858109549828751614463963730408009475621262727315456 := by decide +kernel
theorem fold_num (k L H m m' : Nat) (hm : m = L + 29642774844752946028434172162224104410437116074403984394101141506025761187823616 * H) (hm' : m' = L + 9728 * H) (hL : L < 29642774844752946028434172162224104410437116074403984394101141506025761187823616) (hb : m < bnd k) (hk : k < 5) : m' % PP = m % PP ∧ m' < bnd (k + 1) := by
 have e : 29642774844752946028434172162224104410437116074403984394101141506025761187823616 = 9728 + 512 * PP := by decide +kernel
 constructor
 · rw [hm, hm', e, Nat.add_mul, ← Nat.add_assoc, show 512 * PP * H = PP * (512 * H) by ac_rfl, Nat.add_mul_mod_self_left]
 · clear e
   unfold bnd at hb ⊢
   split at hb
   · split <;> (try split) <;> (try split) <;> omega
   split at hb
   · split <;> (try split) <;> (try split) <;> omega
   split at hb
   · split <;> (try split) <;> (try split) <;> omega
   · split <;> (try split) <;> (try split) <;> omega
structure qdo (n k : Nat) (h : Nat → Int) : Prop where
 bd : ∀ i, i < 44 → 0 ≤ h i ∧ h i ≤ 1099511627776
 num : ∃ m : Nat, qp 4096 h 44 = m ∧ m % PP = n % PP ∧ m < bnd k
 norm : 4 ≤ k → ∀ i, i < 22 → h i < 4096
 high : 1 ≤ k → ∀ i, 22 ≤ i → i < 44 → h i = 0
structure Inv2 (n k : Nat) (g : Nat → Int) : Prop where
 bd : ∀ i, i < 44 → 0 ≤ g i ∧ g i < 4096
 num : ∃ m : Nat, qp 4096 g 44 = m ∧ m % PP = n % PP ∧ m < bnd k
theorem inv2_of (n k : Nat) (h g : Nat → Int) (c : Int) (h1 : qdo n k h) (hc : 0 ≤ c) (hb : ∀ i, i < 44 → 0 ≤ g i ∧ g i < 4096) (hs : qp 4096 g 44 + c * 4096 ^ 44 = qp 4096 h 44) : Inv2 n k g := by
 obtain ⟨m, hm, hmod, hlt⟩ := h1.num
 refine ⟨hb, m, ?_, hmod, hlt⟩
 have hlt' := bnd_le k
 have h0 := Qb 4096 (by decide) g 44 (fun i hi => (hb i hi).1)
 rw [hm, p44] at hs
 have : c = 0 := by omega
 subst this
 simpa using hs
theorem inv1_of (n k : Nat) (g : Nat → Int) (hk : k < 5) (hg : Inv2 n k g) (h : Nat → Int) (hl : ∀ i, i < 22 → h i = g i + 9728 * g (i + 22)) (hh : ∀ i, 22 ≤ i → i < 44 → h i = 0) : qdo n (k + 1) h := by
 obtain ⟨m, hm, hmod, hlt⟩ := hg.num
 have hsp := zO 4096 g 22 22
 have hL0 := Qb 4096 (by decide) g 22 (fun i hi => (hg.bd i (by omega)).1)
 have hL1 := ZA 4096 (by decide) g 22 (fun i hi => (hg.bd i (by omega)).2)
 have hH0 := Qb 4096 (by decide) (fun j => g (j + 22)) 22 (fun i hi => (hg.bd (i + 22) (by omega)).1)
 have hsum : qp 4096 h 44 = qp 4096 g 22 + 9728 * qp 4096 (fun j => g (j + 22)) 22 := by
  rw [show (44 : Nat) = 22 + 22 from rfl, zO, Q8 4096 (fun j => h (j + 22)) 22 (fun i hi => hh (i + 22) (by omega) (by omega)), Q6 4096 h (fun j => g j + 9728 * g (j + 22)) 22 hl,
   sumf_lin 4096 9728 g (fun j => g (j + 22)) 22]
  omega
 obtain ⟨L, eL⟩ := Int.eq_ofNat_of_zero_le hL0
 obtain ⟨H, eH⟩ := Int.eq_ofNat_of_zero_le hH0
 rw [show (22 + 22 : Nat) = 44 from rfl, hm, eL, eH] at hsp
 rw [eL, eH] at hsum
 rw [eL] at hL1
 rw [p22] at hsp hL1
 have key := fold_num k L H m (L + 9728 * H) (by omega) rfl (by omega) hlt hk
 refine ⟨?_, ⟨L + 9728 * H, by rw [hsum]; omega, key.1.trans hmod, key.2⟩, ?_, fun _ => hh⟩
 · intro i hi
   by_cases h22 : i < 22
   · rw [hl i h22]
     have a1 := hg.bd i (by omega)
     have a2 := hg.bd (i + 22) (by omega)
     omega
   · rw [hh i (by omega) hi]; omega
 · intro hk4 i hi
   -- the number is below 2 ^ 264: nothing is above
   rw [bnd_3 k (by omega)] at hlt
   have hH : H = 0 := by omega
   have hz : g (i + 22) = 0 := by
    have hu := zm 4096 (fun j => g (j + 22)) 0 22 (fun i hi => hg.bd (i + 22) (by omega)) (by show qp 4096 _ 22 = _; rw [eH, hH]) i hi
    rw [hu, dg, Nat.zero_div, Nat.zero_mod]
    rfl
   rw [hl i hi, hz]
   have := (hg.bd i (by omega)).2
   omega
def bnd4 (k : Nat) : Nat := if k = 0 then 29642774844752946028434172162224104410437116074403984394101141506025761187823616 else if k = 1 then 57896044618658097711785492504343953926634992332820282019728792003956564829696 else 57896044618658097711785492504343953926634992332820282019728792003956564819968
theorem p21 : (4096 : Int) ^ 21 = 7237005577332262213973186563042994240829374041602535252466099000494570602496 := by decide +kernel
structure Inv4 (n k : Nat) (h : Nat → Int) : Prop where
 bd : ∀ i, i < 22 → 0 ≤ h i ∧ h i < 4096
 num : ∃ m : Nat, qp 4096 h 22 = m ∧ m % PP = n % PP ∧ m < bnd4 k
theorem inv4_of (n : Nat) (h : Nat → Int) (h1 : qdo n 5 h) : Inv4 n 0 h := by
 obtain ⟨m, hm, hmod, hlt⟩ := h1.num
 refine ⟨fun i hi => ⟨(h1.bd i (by omega)).1, h1.norm (by omega) i hi⟩, m, ?_, hmod, by rw [bnd_3 _ (by omega)] at hlt; exact hlt⟩
 rw [show (44 : Nat) = 22 + 22 from rfl, zO, Q8 4096 (fun j => h (j + 22)) 22 (fun i hi => h1.high (by omega) (i + 22) (by omega) (by omega))] at hm
 simpa using hm
def mid (h : Nat → Int) : Nat → Int := upd (upd h 21 (h 21 % 8)) 0 (h 0 + 19 * (h 21 / 8))
theorem mid_sum (h : Nat → Int) : qp 4096 (mid h) 22 = qp 4096 h 22 - (h 21 / 8) * (PP : Int) := by
 have e : (PP : Int) = 8 * 7237005577332262213973186563042994240829374041602535252466099000494570602496 - 19 := by decide +kernel
 unfold mid
 rw [Qm _ _ _ _ _ (by omega), qt _ _ _ _ (by omega), Qm _ _ _ _ _ (by omega), p21, e]
 omega
theorem mid_bd (h : Nat → Int) (hb : ∀ i, i < 22 → 0 ≤ h i ∧ h i < 4096) : ∀ i, i < 22 → 0 ≤ mid h i ∧ mid h i ≤ 16384 := by
 intro i hi
 have h21 := hb 21 (by omega)
 have h0 := hb 0 (by omega)
 unfold mid
 by_cases e0 : i = 0
 · subst e0; rw [qr]; omega
 · rw [qt _ _ _ _ e0]
   by_cases e1 : i = 21
   · subst e1; rw [qr]; omega
   · rw [qt _ _ _ _ e1]; have := hb i hi; omega
theorem pass_sum (h : Nat → Int) (i : Nat) (hi : i < 21) : qp 4096 (upd (upd h (i + 1) (h (i + 1) + h i / 4096)) i (h i % 4096)) 22 = qp 4096 h 22 := by
 rw [Qm _ _ _ _ _ (by omega), qt _ _ _ _ (by omega), Qm _ _ _ _ _ (by omega), Int.pow_succ]
 have e : h i % 4096 = h i - 4096 * (h i / 4096) := by omega
 rw [e]
 generalize h i / 4096 = q
 generalize (4096 : Int) ^ i = D
 generalize h i = x
 generalize h (i + 1) = y
 grind
theorem s4a (m q : Nat) (G x : Int) (hG : 0 ≤ G) (h : G + x * 7237005577332262213973186563042994240829374041602535252466099000494570602496 = m - q * 57896044618658097711785492504343953926634992332820282019728792003956564819949) (hm : m < 29642774844752946028434172162224104410437116074403984394101141506025761187823616) : x < 4096 := by omega
theorem s4b (m q : Nat) (A r : Int) (hA : 0 ≤ A) (hr : 0 ≤ r) (h : A + (8 * q + r) * 7237005577332262213973186563042994240829374041602535252466099000494570602496 = m) : q * 57896044618658097711785492504343953926634992332820282019728792003956564819949 ≤ m := by omega
theorem s4c (m q : Nat) (A r : Int) (hA : 0 ≤ A) (hA' : A < 7237005577332262213973186563042994240829374041602535252466099000494570602496) (hr : 0 ≤ r) (hr' : r < 8) (h : A + (8 * q + r) * 7237005577332262213973186563042994240829374041602535252466099000494570602496 = m) (hm : m < 29642774844752946028434172162224104410437116074403984394101141506025761187823616) : m - q * 57896044618658097711785492504343953926634992332820282019728792003956564819949 < 57896044618658097711785492504343953926634992332820282019728792003956564829696 := by omega
theorem s4d (m q : Nat) (A r : Int) (hA : 0 ≤ A) (hA' : A < 7237005577332262213973186563042994240829374041602535252466099000494570602496) (hr : 0 ≤ r) (hr' : r < 8) (h : A + (8 * q + r) * 7237005577332262213973186563042994240829374041602535252466099000494570602496 = m) (hm : m < 57896044618658097711785492504343953926634992332820282019728792003956564829696) : m - q * 57896044618658097711785492504343953926634992332820282019728792003956564819949 < 57896044618658097711785492504343953926634992332820282019728792003956564819968 := by omega
theorem s4e (m q : Nat) (h : q * 57896044618658097711785492504343953926634992332820282019728792003956564819949 ≤ m) : ((m - q * 57896044618658097711785492504343953926634992332820282019728792003956564819949 : Nat) : Int) = m - q * 57896044618658097711785492504343953926634992332820282019728792003956564819949 := by omega
theorem s4f (m q : Nat) (h : q * 57896044618658097711785492504343953926634992332820282019728792003956564819949 ≤ m) : m = (m - q * 57896044618658097711785492504343953926634992332820282019728792003956564819949) + 57896044618658097711785492504343953926634992332820282019728792003956564819949 * q := by omega
theorem inv4_step (n k : Nat) (h g : Nat → Int) (hk : k < 2) (h1 : Inv4 n k h) (hb : ∀ i, i < 21 → 0 ≤ g i ∧ g i < 4096) (h21 : 0 ≤ g 21) (hs : qp 4096 g 22 = qp 4096 (mid h) 22) : Inv4 n (k + 1) g := by
 obtain ⟨m, hm, hmod, hlt⟩ := h1.num
 have hb21 := h1.bd 21 (by omega)
 have hlow := ZA 4096 (by decide) h 21 (fun i hi => (h1.bd i (by omega)).2)
 have hlow0 := Qb 4096 (by decide) h 21 (fun i hi => (h1.bd i (by omega)).1)
 have hg0 := Qb 4096 (by decide) g 21 (fun i hi => (hb i hi).1)
 rw [mid_sum, hm] at hs
 have e : (PP : Int) = 57896044618658097711785492504343953926634992332820282019728792003956564819949 := by decide +kernel
 have e' : PP = 57896044618658097711785492504343953926634992332820282019728792003956564819949 := rfl
 have hm' : qp 4096 h 21 + h 21 * 4096 ^ 21 = m := hm
 have hs' : qp 4096 g 21 + g 21 * 4096 ^ 21 = m - h 21 / 8 * (PP : Int) := hs
 obtain ⟨q, hq⟩ := Int.eq_ofNat_of_zero_le (show 0 ≤ h 21 / 8 by omega)
 have hdec : h 21 = 8 * q + h 21 % 8 := by omega
 have hr : 0 ≤ h 21 % 8 := by omega
 have hr' : h 21 % 8 < 8 := by omega
 generalize h 21 % 8 = r at *
 rw [p21] at hm' hs' hlow
 rw [hdec] at hm'
 rw [hq, e] at hs' hs
 have hle := s4b m q _ r hlow0 hr hm'
 refine ⟨?_, m - q * 57896044618658097711785492504343953926634992332820282019728792003956564819949, ?_, ?_, ?_⟩
 · intro i hi
   by_cases e1 : i = 21
   · subst e1
     refine ⟨h21, s4a m q _ _ hg0 hs' ?_⟩
     unfold bnd4 at hlt
     split at hlt
     · exact hlt
     · split at hlt <;> omega
   · exact hb i (by omega)
 · rw [hs, s4e m q hle]
 · have := s4f m q hle
   rw [← hmod]
   conv => rhs; rw [this, ← e']
   rw [Nat.add_mul_mod_self_left, e']
 · unfold bnd4 at hlt ⊢
   rcases (show k = 0 ∨ k = 1 by omega) with rfl | rfl
   · simp only [if_true, Nat.zero_add, Nat.one_ne_zero, if_false] at hlt ⊢
     exact s4c m q _ r hlow0 hlow hr hr' hm' hlt
   · simp only [if_true, Nat.one_ne_zero, if_false] at hlt ⊢
     rw [if_neg (by omega), if_neg (by omega)]
     exact s4d m q _ r hlow0 hlow hr hr' hm' hlt
theorem inv4_end (n : Nat) (h : Nat → Int) (h1 : Inv4 n 2 h) : ∃ m : Nat, row .i64 22 h = r22 m ∧ m % PP = n % PP ∧ m < 57896044618658097711785492504343953926634992332820282019728792003956564819968 := by
 obtain ⟨m, hm, hmod, hlt⟩ := h1.num
 exact ⟨m, q7 _ _ _ _ (zm 4096 h m 22 h1.bd hm), hmod, hlt⟩
end
end Go.Proofs.YtbgefoamhdgnaaaGreatDoor
namespace Go
section
variable {P : Program} {md : Region.Mode} {ops : Array Oper} {Q : Exit → Act → World → Prop} {f : Nat} {S : World → Prop}
def Qg (P : Program) (md : Region.Mode) (ops : Array Oper) (Q : Exit → Act → World → Prop) (f : Nat) (S : World → Prop) : Nat → Array Bool → Act → World → Prop
 | 0, listed, a, w => Region.ready md ops listed = [] ∧ Q .normal a w
 | n + 1, listed, a, w => (Region.ready md ops listed = [] → Q .normal a w) ∧
  ∀ j ∈ Region.ready md ops listed, wpOp P ops Q j (fun a' w' => (j ≠ f → S w') ∧ Qg P md ops Q f S n (listed.setIfInBounds j true) a' w') a w
theorem qaP (n : Nat) : ∀ (listed : Array Bool) (a : Act) (w : World), Qg P md ops Q f S n listed a w → wpAny P md ops Q n listed a w := by
 induction n with
 | zero => intro _ _ _ h; exact h
 | succ n ih => intro listed a w h; exact ⟨h.1, fun j hj => wpOp_mono (fun a' w' h' => ih _ a' w' h'.2) (h.2 j hj)⟩
theorem wpBut_gen {i : Nat} {oi : Oper} {v : Value} (hi : ops[i]? = some oi) (hsel : ∀ (j : Nat) (o : Oper) cs b, ops[j]? = some o → o.op ≠ .select cs b)
 (hif : i ≠ f) (hf : ∀ o, ops[f]? = some o → ∃ e ∈ o.after, Region.binds md e = true ∧ e.on = i) (hQ : ∀ c a w, Q (.panic c) (a.put oi.dst v) w → Q (.panic c) a w) (n : Nat) :
 ∀ (listed : Array Bool) (a : Act) (w : World),
  (∀ j oj, ops[j]? = some oj → j ≠ i → listed.getD j true = false → (∀ e ∈ oj.after, Region.binds md e = true → e.on ≠ i) → oi.apart ops oj = true) →
  i ∈ Region.ready md ops listed → YieldsIf P ops S oi v a → S w →
  Qg P md ops Q f S n (listed.setIfInBounds i true) (a.put oi.dst v) w → Qg P md ops Q f S (n + 1) listed a w := by
 induction n with
 | zero =>
  intro listed a w _ hr hy hS H
  refine ⟨fun h => (by rw [h] at hr; cases hr), fun j hj => ?_⟩
  by_cases hji : j = i
  · subst hji; exact hy.wpOp hi hS ⟨fun _ => hS, H⟩
  · have h0 := ready_mono hj hji
    rw [H.1] at h0
    cases h0
 | succ n ih =>
  intro listed a w hfree hr hy hS H
  refine ⟨fun h => (by rw [h] at hr; cases hr), fun j hj => ?_⟩
  by_cases hji : j = i
  · subst hji; exact hy.wpOp hi hS ⟨fun _ => hS, H⟩
  have hiun := (mem_ready.1 hr).1
  obtain ⟨hjun, oj, hoj, hall⟩ := mem_ready.1 hj
  -- j does not wait for i, which has not come up: so j is not f
  have hnot : ∀ e ∈ oj.after, Region.binds md e = true → e.on ≠ i := by
   intro e he hb heq
   have h1 := hall e he hb
   rw [heq] at h1
   by_cases hlt : i < listed.size
   · simp [hlt] at hiun h1; rw [hiun] at h1; cases h1
   · simp [Array.getElem?_eq_none (Nat.le_of_not_lt hlt)] at h1
  have hjf : j ≠ f := by
   rintro rfl
   obtain ⟨e, he, hb, hon⟩ := hf oj hoj
   exact hnot e he hb hon
  have hstep := wpOp_putIf hoj (hfree j oj hoj hji hjun hnot) (fun cs b => hsel i oi cs b hi) (fun cs b => hsel j oj cs b hoj) hQ hy (H.2 j (ready_mono hj hji))
  refine wpOp_mono (fun a' w' hk => ?_) hstep
  have hSw := hk.2.1 hjf
  refine ⟨fun _ => hSw, ih (listed.setIfInBounds j true) a' w' ?_ (ready_mono hr (Ne.symm hji)) hk.1 hSw ?_⟩
  · intro k ok hok hki hun hno
    refine hfree k ok hok hki ?_ hno
    by_cases hjk : j = k
    · subst hjk; exact hjun
    · rw [getD_set_ne true hjk] at hun; exact hun
  · rw [Array.setIfInBounds_comm _ _ hji]; exact hk.2.2
def qaQ (md : Region.Mode) (ops : Array Oper) (f i : Nat) : Bool := match ops[f]? with
 | some o => o.after.any fun e => Region.binds md e && e.on == i
 | none => true
theorem Qh {i : Nat} {oi : Oper} {v : Value} {n : Nat} {listed : Array Bool} {a : Act} {w : World} (hi : ops[i]? = some oi) (hs : Region.noSelect ops = true) (hfr : Region.free md ops listed i = true)
 (hr : (Region.ready md ops listed).contains i = true) (hif : (i == f) = false) (hf : qaQ md ops f i = true) (hQ : ∀ c a w, Q (.panic c) (a.put oi.dst v) w → Q (.panic c) a w) (hy : YieldsIf P ops S oi v a) (hS : S w)
 (h : Qg P md ops Q f S n (listed.setIfInBounds i true) (a.put oi.dst v) w) : Qg P md ops Q f S (n + 1) listed a w := by
 refine wpBut_gen hi (Region.noSelect_spec hs) (by simpa using hif) (fun o ho => ?_) hQ n listed a w (Region.free_spec hi hfr) (by simpa using hr) hy hS h
 unfold qaQ at hf
 rw [ho] at hf
 simp only [Array.any_eq_true'] at hf
 obtain ⟨e, he, hb⟩ := hf
 simp only [Bool.and_eq_true, beq_iff_eq] at hb
 exact ⟨e, he, hb.1, hb.2⟩
theorem qj {oi : Oper} {a : Act} (hw : Region.wanted oi (yielded ops a.tmps) = true) (ty : TypeId) (x : Operand) (ho : oi.op = .load ty x) (g : Nat) (hx : a.eval x = .pointer (some ⟨g, 0, none⟩)) (t : TypeId) (cs : Array Value)
 {d : TypeDesc} (hS : ∀ w, S w → w.heap[g]? = some (.cells cs t (0, 0))) (hu : P.underlying ty = some d) (hd : (match d with | .struct _ | .array _ _ => true | _ => false) = true) (hi : (P.info? ty).map (·.size) = some cs.size) :
 YieldsIf P ops S oi (.agg cs) a := by
 refine Or.inl ⟨hw, fun w h => ?_⟩
 unfold execOp
 simp only [ho, hx, Instr.loadAt, Instr.sureAddr, Sem.run_bind, Sem.run_pure, Result.andThen_ok, run_loadVar_row w g t ty cs (0, 0) d (hS w h) hu hd hi]
theorem qP {i : Nat} {oi : Oper} {n : Nat} {listed : Array Bool} {a : Act} {w : World} (hr : Region.ready md ops listed = [i]) (hi : ops[i]? = some oi)
 (h : ∀ K : Act → World → Prop, Shut (∀ a' w', (i ≠ f → S w') → Qg P md ops Q f S n (listed.setIfInBounds i true) a' w' → K a' w') → if Region.wanted oi (yielded ops a.tmps) = true then Oper.wp P oi a w K Q else K (a.put oi.dst undef) w) :
 Qg P md ops Q f S (n + 1) listed a w := by
 refine ⟨fun h0 => (by rw [hr] at h0; cases h0), fun j hj => ?_⟩
 rw [hr] at hj
 obtain rfl : j = i := by simpa using hj
 exact wpOp_step hi fun K hK => h K fun a' w' hS hW => hK a' w' ⟨hS, hW⟩
theorem qD {n : Nat} {listed : Array Bool} {a : Act} {w : World} (hr : Region.ready md ops listed = []) (h : Q .normal a w) : Qg P md ops Q f S n listed a w := by
 cases n with
 | zero => exact ⟨hr, h⟩
 | succ n => exact ⟨fun _ => h, by rw [hr]; simp⟩
theorem zt {id : Nat} {a : Act} {w : World} (f : Nat) (S : World → Prop) (hm : P.follows .mixedOrders = true)
 (h : Qg P .any ops Q f S ops.size (Array.replicate ops.size false) a w.drew) : (Code.region id ops true).wp P Q a w :=
 wp_region_any hm (qaP _ _ _ _ h)
theorem QW {id : Nat} {a : Act} {w : World} (f : Nat) (hm : P.follows .mixedOrders = true)
 (h : ∀ W0 : World, W0 = w → Qg P .any ops Q f (fun w' => Go.RowKit.Below W0.heap.size W0 w') ops.size (Array.replicate ops.size false) a W0.drew) : (Code.region id ops true).wp P Q a w :=
 zt f _ hm (h w rfl)
end
end Go
namespace Go.Proofs.YtbgefoamhdgnaaaGreatDoor
section
open Go.RowKit Go.Lib
theorem qG : 0 < PP := by decide +kernel
theorem lt_p22 (n : Nat) (h : n < 57896044618658097711785492504343953926634992332820282019728792003956564819968) : n < 4096 ^ 22 := Nat.lt_trans h (by decide +kernel)
theorem qap (n : Nat) (f : Nat → Int) (hf : qdo n 0 f) (w : World) :
 Calls Tryz.prog 114 #[.agg (row .i64 44 f)] w fun e w' => e = .returned (.agg (r22 (n % PP))) ∧ Below w.heap.size w w' := by
 have HF := Lib.hid hf; clear hf
 go_enter Tryz.func114, Tryz.ntmps114
 go_wp2_with fail
 go_loopw [3] (fun i wr => ∃ (k : Nat) (h : Nat → Int), k ≤ 5 ∧ i = .int .i64 k ∧ qdo n k h ∧ Has wr w.heap.size (row .i64 44 h) 176 ∧ HasN wr (w.heap.size + 1) 22 101 ∧ Below w.heap.size w wr) (fun i _ => 5 - (RowKit.intOf i).toNat)
 case atStart => exact ⟨0, f, by omega, rfl, HF.out, (Has.new _ _ _).alloc _, HasN.new1 _ _ _ _ 22 rfl, Qp _ _ _⟩
 case round =>
  obtain ⟨k, h, hk, rfl, hI, m0, m1, hB⟩ := hrel
  have M0 := Lib.hid m0; clear m0
  have M1 := Lib.hid m1; clear m1
  have HI := Lib.hid hI; clear hI
  by_cases hlt : k < 5
  · -- the pass of the carry
    go_wp2_with fail
    obtain ⟨w1, rfl⟩ : ∃ w1 : World, w1 = wr := ⟨_, rfl⟩
    go_loopw [4, 5] (fun c i wr => ∃ (j : Nat) (g : Nat → Int) (cv : Int), j ≤ 44 ∧ i = .int .i64 j ∧ c = .int .i64 cv ∧ 0 ≤ cv ∧ cv ≤ 1073741824 ∧ (∀ l, j ≤ l → g l = h l) ∧ (∀ l, l < j → 0 ≤ g l ∧ g l < 4096) ∧ qp 4096 g j + cv * 4096 ^ j = qp 4096 h j ∧ Has wr w.heap.size (row .i64 44 g) 176 ∧ HasN wr (w.heap.size + 1) 22 101 ∧ Below w.heap.size w wr) (fun _ i _ => 44 - (RowKit.intOf i).toNat)
    case atStart => exact ⟨0, h, 0, by omega, rfl, rfl, by omega, by omega, fun _ _ => rfl, fun l hl => by omega, by simp [qp], M0.out, M1.out, hB⟩
    case round =>
     obtain ⟨j, g, cv, hj, rfl, rfl, hc0, hc1, hg, hd, hs, m0, m1, hB'⟩ := hrel
     have N0 := Lib.hid m0; clear m0
     have N1 := Lib.hid m1; clear m1
     have HG := Lib.hid hg; clear hg
     have HD := Lib.hid hd; clear hd
     have HS := Lib.hid hs; clear hs
     by_cases hjl : j < 44
     · have h1 := N0.out.cell j hjl
       have hfz := N0.out.frozen j
       have hx1 := HI.out.bd j hjl
       rw [← HG.out j (Nat.le_refl _)] at hx1
       obtain ⟨x, hx⟩ : ∃ x, x = g j := ⟨_, rfl⟩
       rw [← hx] at h1 hx1
       have Hx := Lib.hid hx; clear hx
       obtain ⟨hx0, hx1⟩ := hx1
       go_wp2_with fail
       go_roundw
       case measure => simp [RowKit.intOf]; omega
       case rel =>
        refine ⟨j + 1, upd g j ((x + cv) % 4096), (x + cv) / 4096, by omega, by go_num, rfl, by omega, by omega, ?_, ?_, ?_, N0.out.set _ _, N1.out.other _ _ (by simp), hB'.setCell (by simp) _⟩
        · intro l hl; rw [qt _ _ _ _ (by omega)]; exact HG.out l (by omega)
        · intro l hl
          by_cases e : l = j
          · subst e; rw [qr]; omega
          · rw [qt _ _ _ _ e]; exact HD.out l (by omega)
        · simp only [qp]
          rw [qQ _ _ _ _ _ (Nat.le_refl _), qr, ← HG.out j (Nat.le_refl _), ← Hx.out, Int.pow_succ]
          exact carry_step _ _ _ _ _ _ _ HS.out (by omega)
     · obtain rfl : j = 44 := by omega
       have hI2 := inv2_of n k h g cv HI.out hc0 HD.out HS.out
       have HI2 := Lib.hid hI2; clear hI2
       clear HD HS HG hjl hj M0 M1 HI hB
       -- the fold
       go_wp2_with fail
       obtain ⟨w2, rfl⟩ : ∃ w2 : World, w2 = wr := ⟨_, rfl⟩
       go_loopw [7] (fun i wr => ∃ (j : Nat) (u : Nat → Int), j ≤ 22 ∧ i = .int .i64 j ∧ (∀ l, l < j → u l = g l + 9728 * g (l + 22) ∧ u (l + 22) = 0) ∧ (∀ l, j ≤ l → l < 22 → u l = g l ∧ u (l + 22) = g (l + 22)) ∧ Has wr w.heap.size (row .i64 44 u) 176 ∧ HasN wr (w.heap.size + 1) 22 101 ∧ Below w.heap.size w wr) (fun i _ => 22 - (RowKit.intOf i).toNat)
       case atStart => exact ⟨0, g, by omega, rfl, fun l hl => by omega, fun _ _ _ => ⟨rfl, rfl⟩, N0.out, N1.out, hB'⟩
       case round =>
        obtain ⟨j, u, hj, rfl, hu1, hu2, m0, m1, hB⟩ := hrel
        have O0 := Lib.hid m0; clear m0
        have O1 := Lib.hid m1; clear m1
        have HU1 := Lib.hid hu1; clear hu1
        have HU2 := Lib.hid hu2; clear hu2
        by_cases hjl : j < 22
        · have h1 := O0.out.cell j (by omega)
          have h2 := O0.out.cell (j + 22) (by omega)
          have hf1 := O0.out.frozen j
          have hf2 := O0.out.frozen (j + 22)
          have hy1 := HI2.out.bd j (by omega)
          have hz1 := HI2.out.bd (j + 22) (by omega)
          rw [← (HU2.out j (Nat.le_refl _) hjl).1] at hy1
          rw [← (HU2.out j (Nat.le_refl _) hjl).2] at hz1
          obtain ⟨y, hy⟩ : ∃ y, y = u j := ⟨_, rfl⟩
          obtain ⟨z, hz⟩ : ∃ z, z = u (j + 22) := ⟨_, rfl⟩
          rw [← hy] at h1 hy1
          rw [← hz] at h2 hz1
          have Hy := Lib.hid hy; clear hy
          have Hz := Lib.hid hz; clear hz
          obtain ⟨hy0, hy1⟩ := hy1
          obtain ⟨hz0, hz1⟩ := hz1
          have hne : (j = j + 22) = False := by simp
          go_wp2_with fail
          go_region
          go_wp2_with fail
          go_roundw
          case measure => simp [RowKit.intOf]; omega
          case rel =>
           refine ⟨j + 1, upd (upd u j (y + 9728 * z)) (j + 22) 0, by omega, by go_num, ?_, ?_, (O0.out.set _ _).set _ _, (O1.out.other _ _ (by simp)).other _ _ (by simp), ((hB.setCell (Nat.le_refl _) _).setCell (Nat.le_refl _) _).drew⟩
           · intro l hl
             by_cases e : l = j
             · subst e
               rw [qt _ _ _ _ (by omega), qr, qr, Hy.out, Hz.out, (HU2.out l (Nat.le_refl _) hjl).1, (HU2.out l (Nat.le_refl _) hjl).2]
               exact ⟨rfl, rfl⟩
             · rw [qt _ _ _ _ (by omega), qt _ _ _ _ e, qt _ _ _ _ (by omega), qt _ _ _ _ (by omega)]
               exact HU1.out l (by omega)
           · intro l hl hl'
             rw [qt _ _ _ _ (by omega), qt _ _ _ _ (by omega), qt _ _ _ _ (by omega), qt _ _ _ _ (by omega)]
             exact HU2.out l (by omega) hl'
        · obtain rfl : j = 22 := by omega
          have hI1 := inv1_of n k g hlt HI2.out u (fun i hi => (HU1.out i hi).1) (fun i hi hi' => by
           have := (HU1.out (i - 22) (by omega)).2
           rwa [show i - 22 + 22 = i by omega] at this)
          have HI1 := Lib.hid hI1; clear hI1
          clear HU1 HU2 hjl hj N0 N1 HI2 hB'
          go_wp2_with fail
          go_roundw
          case measure => simp [RowKit.intOf]; omega
          case rel => exact ⟨k + 1, u, by omega, by go_num, HI1.out, O0.out, O1.out, hB⟩
  · obtain rfl : k = 5 := by omega
    have HI4 := Lib.hid (inv4_of n h HI.out)
    clear HI hlt hk HF
    go_wp2_with fail
    obtain ⟨w1, rfl⟩ : ∃ w1 : World, w1 = wr := ⟨_, rfl⟩
    -- what is beyond 255 bits
    go_loopw [8] (fun i wr => ∃ (k : Nat) (h : Nat → Int), k ≤ 2 ∧ i = .int .i64 k ∧ Inv4 n k h ∧ Has wr w.heap.size (row .i64 44 h) 176 ∧ HasN wr (w.heap.size + 1) 22 101 ∧ Below w.heap.size w wr) (fun i _ => 2 - (RowKit.intOf i).toNat)
    case atStart => exact ⟨0, h, by omega, rfl, HI4.out, M0.out, M1.out, hB⟩
    case round =>
     clear M0 M1 HI4 hB
     obtain ⟨k, h, hk, rfl, hI, m0, m1, hB⟩ := hrel
     have M0 := Lib.hid m0; clear m0
     have M1 := Lib.hid m1; clear m1
     have HI := Lib.hid hI; clear hI
     by_cases hlt : k < 2
     · have h1 := M0.out.cell 0 (by omega)
       have h2 := M0.out.cell 21 (by omega)
       have hf1 := M0.out.frozen 0
       have hf2 := M0.out.frozen 21
       have hy1 := HI.out.bd 0 (by omega)
       have hz1 := HI.out.bd 21 (by omega)
       obtain ⟨y, hy⟩ : ∃ y, y = h 0 := ⟨_, rfl⟩
       obtain ⟨z, hz⟩ : ∃ z, z = h 21 := ⟨_, rfl⟩
       rw [← hy] at h1 hy1
       rw [← hz] at h2 hz1
       have hm : mid h = upd (upd h 21 (z % 8)) 0 (y + 19 * (z / 8)) := by rw [hy, hz]; rfl
       have m2 := (M0.out.set 21 (z % 8)).set 0 (y + 19 * (z / 8))
       rw [← hm] at m2
       have M2 := Lib.hid m2; clear m2
       have hM1 := (M1.out.other ⟨w.heap.size, 21, none⟩ (.int .i64 (z % 8)) (by simp)).other ⟨w.heap.size, 0, none⟩ (.int .i64 (y + 19 * (z / 8))) (by simp)
       have M3 := Lib.hid hM1; clear hM1
       have hB2 := (hB.setCell (p := ⟨w.heap.size, 21, none⟩) (by simp) (.int .i64 (z % 8))).setCell (p := ⟨w.heap.size, 0, none⟩) (by simp) (.int .i64 (y + 19 * (z / 8)))
       have HB2 := Lib.hid hB2; clear hB2
       have Hy := Lib.hid hy; clear hy
       have Hz := Lib.hid hz; clear hz
       have Hm := Lib.hid hm; clear hm
       obtain ⟨hy0, hy1⟩ := hy1
       obtain ⟨hz0, hz1⟩ := hz1
       go_wp2_with fail
       go_loopw [10] (fun i wr => ∃ (j : Nat) (g : Nat → Int), j ≤ 21 ∧ i = .int .i64 j ∧ (∀ l, l < j → 0 ≤ g l ∧ g l < 4096) ∧ (∀ l, j < l → l < 22 → g l = mid h l) ∧ 0 ≤ g j ∧ g j ≤ 1048576 ∧ qp 4096 g 22 = qp 4096 (mid h) 22 ∧ Has wr w.heap.size (row .i64 44 g) 176 ∧ HasN wr (w.heap.size + 1) 22 101 ∧ Below w.heap.size w wr) (fun i _ => 21 - (RowKit.intOf i).toNat)
       case atStart =>
        have hb := mid_bd h HI.out.bd 0 (by omega)
        exact ⟨0, mid h, by omega, rfl, fun l hl => by omega, fun _ _ _ => rfl, hb.1, by omega, rfl, M2.out, M3.out, HB2.out⟩
       case round =>
        obtain ⟨j, g, hj, rfl, hg1, hg2, hg3, hg4, hs, m0, m1, hB'⟩ := hrel
        clear M2 M3 h1 h2 hf1 hf2
        have N0 := Lib.hid m0; clear m0
        have N1 := Lib.hid m1; clear m1
        have HG1 := Lib.hid hg1; clear hg1
        have HG2 := Lib.hid hg2; clear hg2
        have HS := Lib.hid hs; clear hs
        by_cases hjl : j < 21
        · have h1 := N0.out.cell j (by omega)
          have h2 := N0.out.cell (j + 1) (by omega)
          have hf1 := N0.out.frozen j
          have hf2 := N0.out.frozen (j + 1)
          have hv1 := mid_bd h HI.out.bd (j + 1) (by omega)
          rw [← HG2.out (j + 1) (by omega) (by omega)] at hv1
          obtain ⟨u, hu⟩ : ∃ u, u = g j := ⟨_, rfl⟩
          obtain ⟨v, hv⟩ : ∃ v, v = g (j + 1) := ⟨_, rfl⟩
          rw [← hu] at h1 hg3 hg4
          rw [← hv] at h2 hv1
          have Hu := Lib.hid hu; clear hu
          have Hv := Lib.hid hv; clear hv
          obtain ⟨hv0, hv1⟩ := hv1
          have hne : (j + 1 = j) = False := by simp
          go_wp2_with fail
          go_region
          go_wp2_with fail
          go_roundw
          case measure => simp [RowKit.intOf]; omega
          case rel =>
           refine ⟨j + 1, upd (upd g (j + 1) (v + u / 4096)) j (u % 4096), by omega, by go_num, ?_, ?_, ?_, ?_, ?_, (N0.out.set _ _).set _ _, (N1.out.other _ _ (by simp)).other _ _ (by simp), ((hB'.setCell (Nat.le_refl _) _).setCell (Nat.le_refl _) _).drew⟩
           · intro l hl
             by_cases e : l = j
             · subst e; rw [qr]; omega
             · rw [qt _ _ _ _ e, qt _ _ _ _ (by omega)]; exact HG1.out l (by omega)
           · intro l hl hl'
             rw [qt _ _ _ _ (by omega), qt _ _ _ _ (by omega)]; exact HG2.out l (by omega) hl'
           · rw [qt _ _ _ _ (by omega), qr]; omega
           · rw [qt _ _ _ _ (by omega), qr]; omega
           · rw [Hu.out, Hv.out, pass_sum g j hjl]; exact HS.out
        · obtain rfl : j = 21 := by omega
          have hI1 := inv4_step n k h g hlt HI.out HG1.out hg3 HS.out
          have HI1 := Lib.hid hI1; clear hI1
          clear HG1 HG2 HS hjl hj hg3 hg4
          go_wp2_with fail
          go_roundw
          case measure => simp [RowKit.intOf]; omega
          case rel => exact ⟨k + 1, g, by omega, by go_num, HI1.out, N0.out, N1.out, hB'⟩
     · obtain rfl : k = 2 := by omega
       have HI4 := Lib.hid (inv4_end n h HI.out)
       clear HI hlt hk
       go_wp2_with fail
       have hlt1 := M1.out.lt
       have hne : ¬ wr.heap.size = w.heap.size := by omega
       have hne' : ¬ w.heap.size = wr.heap.size := by omega
       have N0 := Lib.hid (M0.out.alloc (.cells (row .i64 22 fun _ => 0) 101))
       have N1 := Lib.hid (M1.out.alloc (.cells (row .i64 22 fun _ => 0) 101))
       have N2 := Lib.hid (Has.new wr (row .i64 22 fun _ => 0) 101)
       have HB := Lib.hid (hB.alloc (by omega) (.cells (row .i64 22 fun _ => 0) 101))
       clear M0 M1 hB
       obtain ⟨w3, rfl⟩ : ∃ w3 : World, w3 = wr := ⟨_, rfl⟩
       go_loopw [12] (fun i wx => ∃ (j : Nat) (g : Nat → Int), j ≤ 22 ∧ i = .int .i64 j ∧ (∀ l, l < j → g l = h l) ∧ Has wx w.heap.size (row .i64 44 h) 176 ∧ HasN wx (w.heap.size + 1) 22 101 ∧ Has wx w3.heap.size (row .i64 22 g) 101 ∧ Below w.heap.size w wx) (fun i _ => 22 - (RowKit.intOf i).toNat)
       case atStart => exact ⟨0, fun _ => 0, by omega, rfl, fun l hl => by omega, N0.out, N1.out, N2.out, HB.out⟩
       case round =>
        clear N0 N1 N2 HB
        obtain ⟨j, g, hj, rfl, hg, m0, m1, m2, hB⟩ := hrel
        have N0 := Lib.hid m0; clear m0
        have N1 := Lib.hid m1; clear m1
        have N2 := Lib.hid m2; clear m2
        have HG := Lib.hid hg; clear hg
        by_cases hjl : j < 22
        · have h1 := N0.out.cell j (by omega)
          have h2 := N2.out.cell j (by omega)
          have hf2 := N2.out.frozen j
          obtain ⟨u, hu⟩ : ∃ u, u = h j := ⟨_, rfl⟩
          rw [← hu] at h1
          have Hu := Lib.hid hu; clear hu
          go_wp2_with fail
          go_roundw
          case measure => simp [RowKit.intOf]; omega
          case rel =>
           refine ⟨j + 1, upd g j u, by omega, by go_num, ?_, N0.out.other _ _ (by simpa using hne'), N1.out.other _ _ (by simp; omega), N2.out.set _ _, hB.setCell (by simp; omega) _⟩
           intro l hl
           by_cases e : l = j
           · subst e; rw [qr, Hu.out]
           · rw [qt _ _ _ _ e]; exact HG.out l (by omega)
        · obtain rfl : j = 22 := by omega
          obtain ⟨m, hm, hmod, hm255⟩ := HI4.out
          rw [← q7 _ _ _ _ HG.out] at hm
          have m2 := N2.out
          rw [hm] at m2
          have O2 := Lib.hid m2; clear m2
          have HM := Lib.hid hmod; clear hmod
          have HM2 := Lib.hid hm255; clear hm255 hm
          clear N2 HG hjl hj HI4 N0
          go_wp2_with fail
          obtain ⟨w4, rfl⟩ : ∃ w4 : World, w4 = wr := ⟨_, rfl⟩
          go_loopg [101] m (fun gk _ wx => gk % PP = n % PP ∧ gk < 57896044618658097711785492504343953926634992332820282019728792003956564819968 ∧ HasN wx (w.heap.size + 1) 22 101 ∧ Has wx w3.heap.size (r22 gk) 101 ∧ Below w.heap.size w wx)
          case atStart => exact ⟨HM.out, HM2.out, N1.out, O2.out, hB⟩
          case round =>
           clear N1 O2 HM HM2 hB
           obtain ⟨hmod, h255, n1, m2, hB⟩ := hrel
           have N1 := Lib.hid n1; clear n1
           have M2 := Lib.hid m2; clear m2
           have HM := Lib.hid hmod; clear hmod
           have H255 := Lib.hid h255; clear h255
           obtain ⟨w5, rfl⟩ : ∃ w5 : World, w5 = wr := ⟨_, rfl⟩
           have hlt5 := M2.out.lt
           have hu := Tryz.underlying101
           have hi : (Tryz.prog.info? 101).map (·.size) = some (ze .i64 22 (dg 4096 gk)).length := by rw [zQ]; kernel_rfl
           have hR : w5.rangeAt w3.heap.size 0 (ze .i64 22 (dg 4096 gk)) := M2.out.range
           have hgk : gk < 4096 ^ 22 := lt_p22 _ H255.out
           have HGK := Lib.hid hgk; clear hgk
           have HB := Lib.hid hB; clear hB
           by_cases hp : gk < PP
           · have hd : decide (gk < PP) = true := by simpa using hp
             have hres : gk = n % PP := by rw [← HM.out, Nat.mod_eq_of_lt hp]
             have HR := Lib.hid hres; clear hres hp
             have Hd := Lib.hid hd; clear hd
             go_wp2_with fail
             go_region_held3 (fun w' => Below w5.heap.size w5 w' ∧ w'.rangeAt w3.heap.size 0 (ze .i64 22 (dg 4096 gk)))
              ((first | assumption | exact ⟨(Below.refl _ _).drew, hR⟩ | (have hk := qf (‹Below w5.heap.size w5 _ ∧ _›).1 hb; exact ⟨hk, Za hR hk hlt5⟩)))
              ((first | (go_at_call 110; refine (Zp _).mono ?_; rintro e w1 ⟨rfl, hb⟩) | (go_at_call 153; refine (qdP gk PP HGK.out qdc _).mono ?_; rintro e w1 ⟨rfl, hb⟩; rw [Hd.out])))
             have hH := Lib.hid (‹Below w5.heap.size w5 _ ∧ _›).1
             have P2 := Lib.hid (M2.out.below hH.out hlt5)
             obtain ⟨Z, hZ, m1⟩ := N1.out.below hH.out N1.out.lt
             have P1 := Lib.hid m1; clear m1
             have HZ := Lib.hid hZ; clear hZ
             have HBB := Lib.hid ((below_setRow (HB.out.trans (hH.out.mono HB.out.size)) (w.heap.size + 1) (r22 gk) (by omega)))
             clear hR hu hi
             go_wp2_with (first | (refine wpList_load_row rfl 101 _ rfl w3.heap.size rfl 101 (r22 gk) (0, 0) _ P2.out Tryz.underlying101 rfl (by rw [qh]; kernel_rfl) ?_) | (refine wpList_store_row rfl 101 _ _ rfl (w.heap.size + 1) _ rfl rfl 101 Z P1.out (by rw [qh]; kernel_rfl) (HZ.out.trans (qh _).symm) (qo _ _ _) ?_))
             exact bodyPost_ret (v := .agg (r22 (n % PP))) (results_cell_row (t := 101) (by rfl) _ _ (w.heap.size + 1) _ _ _ rfl ((P1.out.setRow _).trans (by rw [← HR.out])) Tryz.underlying101 rfl (by rw [qh]; kernel_rfl)) rfl ⟨rfl, HBB.out⟩
           · have hd : decide (gk < PP) = false := by simpa using hp
             have Hp := Lib.hid (Nat.not_lt.1 hp); clear hp
             have Hd := Lib.hid hd; clear hd
             go_wp2_with fail
             go_region_held3 (fun w' => Below w5.heap.size w5 w' ∧ w'.rangeAt w3.heap.size 0 (ze .i64 22 (dg 4096 gk)))
              ((first | exact ⟨(Below.refl _ _).drew, hR⟩ | exact (‹Below w5.heap.size w5 _ ∧ _›) | (have hk := qf (‹Below w5.heap.size w5 _ ∧ _›).1 hb; exact ⟨hk, Za hR hk hlt5⟩)))
              ((first | (go_at_call 110; refine (Zp _).mono ?_; rintro e w1 ⟨rfl, hb⟩) | (go_at_call 153; refine (qdP gk PP HGK.out qdc _).mono ?_; rintro e w1 ⟨rfl, hb⟩; rw [Hd.out])))
             have hH := Lib.hid (‹Below w5.heap.size w5 _ ∧ _›).1
             obtain ⟨w6, rfl⟩ : ∃ w6 : World, w6 = w1 := ⟨_, rfl⟩
             have P2 := Lib.hid (M2.out.below hH.out hlt5)
             have P1 := Lib.hid (N1.out.below hH.out N1.out.lt)
             have HBB := Lib.hid (HB.out.trans (hH.out.mono HB.out.size))
             clear hR
             obtain ⟨gd, hgd⟩ : ∃ d, d = gk - PP := ⟨_, rfl⟩
             have hl := fun w => qbc gk PP Hp.out HGK.out w
             rw [← hgd] at hl
             have HL := Lib.hid hl; clear hl
             have He := Lib.hid hgd; clear hgd
             have hlt6 := P2.out.lt
             obtain ⟨gd, hgd⟩ : ∃ d, d = gk - PP := ⟨_, rfl⟩
             have hl := fun w => qbc gk PP Hp.out HGK.out w
             rw [← hgd] at hl
             have HL := Lib.hid hl; clear hl
             have He := Lib.hid hgd; clear hgd
             clear hi hu
             go_wp2_with fail
             refine wp_region_noPanic ?_
             refine zt 3 (fun w' => Below w6.heap.size w6 w' ∧ Has w' w3.heap.size (r22 gk) 101) (by kernel_rfl) ?_
             refine Qh (i := 0) rfl (by kernel_rfl) (by kernel_rfl) (by kernel_rfl) (by kernel_rfl) (by kernel_rfl) (fun _ _ _ h => h) (qj (by rfl) 101 _ rfl w3.heap.size rfl 101 (r22 gk) (fun w h => h.2) Tryz.underlying101 rfl (by rw [qh]; kernel_rfl)) ⟨(Below.refl _ _).drew, P2.out⟩ ?_
             simp only [Act.put, List.setIfInBounds_toArray]
             refine qP (i := 1) (by kernel_rfl) rfl (fun K hK => ?_)
             go_simp
             go_at_call 110
             refine (Zp _).mono ?_
             rintro e w7 ⟨rfl, hb⟩
             refine hK.out _ _ (fun _ => ⟨qf (Below.refl _ _).drew hb, P2.out.below (qf (Below.refl _ _).drew hb) hlt6⟩) ?_
             have hk7 := qf (w4 := w6) (Below.refl _ _).drew hb
             clear hK K hb
             refine qP (i := 2) (by kernel_rfl) rfl (fun K hK => ?_)
             go_simp
             go_at_call 109
             refine (HL.out _).mono ?_
             rintro e w8 ⟨rfl, hb⟩
             have hk8 := qf hk7 hb
             refine hK.out _ _ (fun _ => ⟨hk8, P2.out.below hk8 hlt6⟩) ?_
             clear hK K hb hk7
             refine qP (i := 3) (by kernel_rfl) rfl (fun K hK => ?_)
             rw [if_pos (by rfl)]
             refine wp_store_row 101 _ _ rfl w3.heap.size _ rfl rfl 101 (r22 gk) (P2.out.below hk8 hlt6) (by rw [qh]; kernel_rfl) ((qh _).trans (qh _).symm) (qo _ _ _) ?_
             refine hK.out _ _ (fun h => (h rfl).elim) ?_
             clear hK K
             simp only [Act.put, List.setIfInBounds_toArray]
             refine qD (by kernel_rfl) (NoPanic.normal ?_)
             go_wp2_with fail
             go_roundg gd
             case measure => rw [He.out]; exact Nat.sub_lt (Nat.lt_of_lt_of_le qG Hp.out) qG
             case rel =>
              refine ⟨?_, ?_, (P1.out.below hk8 P1.out.lt).setRow_other _ _ (by omega), (P2.out.below hk8 hlt6).setRow _, below_setRow (HBB.out.trans (hk8.mono HBB.out.size)) _ _ (by omega)⟩
              · rw [He.out, ← HM.out]; exact (Nat.mod_eq_sub_mod Hp.out).symm
              · rw [He.out]; exact Nat.lt_of_le_of_lt (Nat.sub_le _ _) H255.out
end
section
open Go.RowKit Go.Lib
theorem qaq (n : Nat) (h : Nat → Int) (hb : ∀ i, i < 44 → 0 ≤ h i ∧ h i ≤ 1099511627776) (hs : qp 4096 h 44 = n) (hn : n < bnd 0) : qdo n 0 h :=
 ⟨hb, ⟨n, hs, rfl, hn⟩, fun h => by omega, fun h => by omega⟩
theorem bnd0 : bnd 0 = 878694100496718043517683302282418331810487718418343092402491322775749527474899974671687634004666183037093927858109549828751614463963730408009475621262727315456 := by unfold bnd; rw [if_pos rfl]
theorem n22 : (4096 : Nat) ^ 22 = 29642774844752946028434172162224104410437116074403984394101141506025761187823616 := by decide +kernel
theorem qai (a : Nat) (ha : a < 4096 ^ 22) : qp 4096 (dg 4096 a) 22 = a := by
 have := QZ 4096 a 22
 rwa [Nat.mod_eq_of_lt ha] at this
theorem qbl (n i : Nat) : dg 4096 n i ≤ 4095 := by have := (Zd 4096 n i (by decide)).2; omega
theorem qaE (n i : Nat) : 0 ≤ dg 4096 n i := (Zd 4096 n i (by decide)).1
theorem plus_inv (a b : Nat) (ha : a < 4096 ^ 22) (hb : b < 4096 ^ 22) (h : Nat → Int) (hl : ∀ i, i < 22 → h i = dg 4096 a i + dg 4096 b i) (hh : ∀ i, 22 ≤ i → h i = 0) : qdo (a + b) 0 h := by
 refine qaq _ h (fun i hi => ?_) ?_ ?_
 · by_cases h2 : i < 22
   · rw [hl i h2]
     have h1 := qbl a i; have h3 := qbl b i; have h4 := qaE a i; have h5 := qaE b i
     omega
   · rw [hh i (by omega)]; omega
 · rw [show (44 : Nat) = 22 + 22 from rfl, zO, Q8 4096 (fun j => h (j + 22)) 22 (fun i hi => hh (i + 22) (by omega)), Q6 4096 h (fun j => dg 4096 a j + 1 * dg 4096 b j) 22 (fun i hi => by rw [hl i hi, Int.one_mul]), sumf_lin, qai a ha, qai b hb]
   omega
 · rw [bnd0]; rw [n22] at ha hb; omega
theorem qal (a b : Nat) (ha : a < 4096 ^ 22) (hb : b < 4096 ^ 22) (w : World) :
 Calls Tryz.prog 112 #[.agg (r22 a), .agg (r22 b)] w fun e w' => e = .returned (.agg (r22 ((a + b) % PP))) ∧ Below w.heap.size w w' := by
 have HI := Lib.hid (plus_inv a b ha hb); clear ha hb
 go_enter Tryz.func112, Tryz.ntmps112
 go_wp2_with fail
 go_loopw [6] (fun i wr => ∃ (k : Nat) (h : Nat → Int), k ≤ 22 ∧ i = .int .i64 k ∧ (∀ j, j < k → h j = dg 4096 a j + dg 4096 b j) ∧ (∀ j, k ≤ j → h j = 0) ∧ Has wr w.heap.size (r22 a) 101 ∧ Has wr (w.heap.size + 1) (r22 b) 101 ∧ HasN wr (w.heap.size + 1 + 1) 22 101 ∧ Has wr (w.heap.size + 1 + 1 + 1) (row .i64 44 h) 176 ∧ Below w.heap.size w wr) (fun i _ => 22 - (RowKit.intOf i).toNat)
 case atStart =>
  exact ⟨0, fun _ => 0, by omega, rfl, fun j hj => by omega, fun _ _ => rfl, ((Has.new _ _ _).alloc _ |>.alloc _).alloc _, ((Has.new1 _ _ _ _).alloc _).alloc _, (HasN.new2 _ _ _ _ _ 22 rfl).alloc _, Has.new3 _ _ _ _ _ _, qbn _ _ _ _ _⟩
 case round =>
  obtain ⟨k, h, hk, rfl, hl, hh, m0, m1, m2, m3, hB⟩ := hrel
  have M0 := Lib.hid m0; clear m0
  have M1 := Lib.hid m1; clear m1
  have M2 := Lib.hid m2; clear m2
  have M3 := Lib.hid m3; clear m3
  have HL := Lib.hid hl; clear hl
  have HH := Lib.hid hh; clear hh
  by_cases hlt : k < 22
  · have h1 := M0.out.cell k hlt
    have h2 := M1.out.cell k hlt
    have h3 := M3.out.cell k (by omega)
    have hfz := M3.out.frozen k
    have x0 := qaE a k
    have x1 := qbl a k
    have y0 := qaE b k
    have y1 := qbl b k
    obtain ⟨x, hx⟩ : ∃ x, x = dg 4096 a k := ⟨_, rfl⟩
    obtain ⟨y, hy⟩ : ∃ y, y = dg 4096 b k := ⟨_, rfl⟩
    rw [← hx] at h1 x0 x1
    rw [← hy] at h2 y0 y1
    have Hx := Lib.hid hx; clear hx
    have Hy := Lib.hid hy; clear hy
    go_wp2_with fail
    go_region
    go_wp2_with fail
    go_roundw
    case measure => simp [RowKit.intOf]; omega
    case rel =>
     refine ⟨k + 1, upd h k (x + y), by omega, by go_num, ?_, ?_, M0.out.other _ _ (by simp <;> omega), M1.out.other _ _ (by simp <;> omega), M2.out.other _ _ (by simp), M3.out.set _ _, (hB.setCell (by simp <;> omega) _).drew⟩
     · intro j hj
       by_cases e : j = k
       · subst e; rw [qr, Hx.out, Hy.out]
       · rw [qt _ _ _ _ e]; exact HL.out j (by omega)
     · intro j hj; rw [qt _ _ _ _ (by omega)]; exact HH.out j (by omega)
  · obtain rfl : k = 22 := by omega
    have HC := Lib.hid (HI.out h HL.out HH.out)
    go_wp2_with (first | (refine wpList_load_row rfl 176 _ rfl (w.heap.size + 1 + 1 + 1) rfl 176 (row .i64 44 h) (0, 0) _ M3.out Tryz.underlying176 rfl (by kernel_rfl) ?_))
    refine (qap _ h HC.out _).mono ?_
    rintro e w1 ⟨rfl, hb1⟩
    obtain ⟨Z, hZ, m1⟩ := M2.out.below hb1 M2.out.lt
    have P1 := Lib.hid m1; clear m1
    have HZ := Lib.hid hZ; clear hZ
    have HBB := Lib.hid (below_setRow (hB.trans (hb1.mono hB.size)) (w.heap.size + 1 + 1) (r22 ((a + b) % PP)) (by omega))
    clear hb1
    go_wp2_with (refine wpList_store_row rfl 101 _ _ rfl (w.heap.size + 1 + 1) _ rfl rfl 101 Z P1.out (by rw [qh]; kernel_rfl) (HZ.out.trans (qh _).symm) (qo _ _ _) ?_)
    exact bodyPost_ret (v := .agg (r22 ((a + b) % PP))) (results_cell_row (t := 101) (by rfl) _ _ (w.heap.size + 1 + 1) _ _ _ rfl (P1.out.setRow _) Tryz.underlying101 rfl (by rw [qh]; kernel_rfl)) rfl ⟨rfl, HBB.out⟩
end
end Go.Proofs.YtbgefoamhdgnaaaGreatDoor
